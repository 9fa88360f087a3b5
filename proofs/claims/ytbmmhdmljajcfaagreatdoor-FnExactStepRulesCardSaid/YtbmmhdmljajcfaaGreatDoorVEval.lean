/- The abstract evaluator and its soundness: part VEval. Conditions: as each section says. -/
import Derived.Below
import Derived.OwnWalk
import Derived.KernelRfl
import Derived.Orders
set_option linter.unusedVariables false
set_option linter.unusedSimpArgs false
namespace Go.Proofs.YtbmmhdmljajcfaaGreatDoor.V
open Go
inductive TK where
 |int (k:IntKind)|bool|str|slice (e:Nat)|struct (fs:List (Nat×Nat))|array (n e:Nat)|ptr (e:Nat)|err|other
structure TE where
 k:TK
 size:Nat
 bytes:Nat
def look {α:Type}:List (Nat×α)->Nat->Option α
 | [],_=>none
 | (j,x)::l,i=>bif j==i then some x else look l i
abbrev TT:=Nat->Option TE
abbrev LI:=List Int
abbrev LL:=List (List Int)
abbrev t2 {A B C:Type} (r:A×B×C):C:=r.2.2
abbrev t3 {A B C D:Type} (r:A×B×C×D):D:=r.2.2.2
abbrev t4 {A B C D E:Type} (r:A×B×C×D×E):E:=r.2.2.2.2
abbrev t5 {A B C D E F:Type} (r:A×B×C×D×E×F):F:=r.2.2.2.2.2
abbrev t6 {A B C D E F G:Type} (r:A×B×C×D×E×F×G):G:=r.2.2.2.2.2.2
abbrev t7 {A B C D E F G H:Type} (r:A×B×C×D×E×F×G×H):H:=r.2.2.2.2.2.2.2
abbrev t8 {A B C D E F G H I:Type} (r:A×B×C×D×E×F×G×H×I):I:=r.2.2.2.2.2.2.2.2
abbrev t9 {A B C D E F G H I J:Type} (r:A×B×C×D×E×F×G×H×I×J):J:=r.2.2.2.2.2.2.2.2.2
inductive Leaf where
 |int (n:Int)|ints (l:List Int)
def gi (r:List Leaf) (f:Nat):Int:=match r[f]? with|some (.int n)=>n|_=>0
def gl (r:List Leaf) (f:Nat):List Int:=match r[f]? with|some (.ints l)=>l|_=>[]
inductive Row where
 |ints (k:IntKind) (l:List Int)
 |bools (l:List Bool)
 |strs (l:List ByteArray)
 |rows (own:Bool) (l:List (List Int))
 |recs (sg:List Bool) (own:Bool) (l:List (List Leaf))
def Row.len:Row->Nat
 | .ints _ l=>l.length
 | .bools l=>l.length
 | .strs l=>l.length
 | .rows _ l=>l.length
 | .recs _ _ l=>l.length
def Row.size:Row->Nat
 | .recs sg _ _=>sg.length
 |_=>1
inductive Cell where
 |sc (v:Value)|sl (own:Bool) (l:List Int)|free
def recCells (own:Bool) (r:List Leaf):Nat->List Bool->List Cell
 |_,[]=>[]
 |f,true::sg=> .sl own (gl r f)::recCells own r (f+1) sg
 |f,false::sg=> .sc (.int .i64 (gi r f))::recCells own r (f+1) sg
def Row.cells:Row->List Cell
 | .ints k l=>l.map fun n=> .sc (.int k n)
 | .bools l=>l.map fun x=> .sc (.bool x)
 | .strs l=>l.map fun x=> .sc (.string x)
 | .rows own l=>l.map fun x=> .sl own x
 | .recs sg own l=>l.flatMap fun r=>recCells own r 0 sg
def Row.frz:Row->Row
 | .rows _ l=> .rows false l
 | .recs sg _ l=> .recs sg false l
 |r=>r
def Row.take (n:Nat):Row->Row
 | .ints k l=> .ints k (l.take n)
 | .bools l=> .bools (l.take n)
 | .strs l=> .strs (l.take n)
 | .rows own l=> .rows own (l.take n)
 | .recs sg own l=> .recs sg own (l.take n)
def Row.drop (n:Nat):Row->Row
 | .ints k l=> .ints k (l.drop n)
 | .bools l=> .bools (l.drop n)
 | .strs l=> .strs (l.drop n)
 | .rows own l=> .rows own (l.drop n)
 | .recs sg own l=> .recs sg own (l.drop n)
def Row.isRecs:Row->Bool
 | .recs _ _ _=>true
 |_=>false
def Row.deep:Row->Bool
 | .rows _ _=>true
 | .recs _ _ _=>true
 |_=>false
def Row.owned:Row->Bool
 | .rows own _=>own
 | .recs _ own _=>own
 |_=>true
inductive LV where
 |any|undef
 |i (k:IntKind) (n:Int)|b (x:Bool)|s (x:ByteArray)
 |nil
 |val (p:Bool) (r:Row)
 |own (id:Nat)
 |sub (id lo hi:Nat)
 |inner (id ver i f:Nat)
 |bptr (id k:Nat)
 |arr (id n:Nat)
 |eptr (id i f:Nat)
 |vptr (p:Bool) (r:Row) (i f:Nat)
 |iptr (id ver i f j:Nat)
 |er (isNil:Bool)
 |fn (f:Nat)
inductive A1 where
 |l (x:LV)|agg (xs:List LV)
inductive AV where
 |one (x:A1)|tup (xs:List A1)
abbrev AV.l (x:LV):AV:= .one (.l x)
inductive Root where
 |row (e ver:Nat) (r:Row)
 |hole (e ver:Nat) (r:Row) (i f:Nat)
 |box (t:Nat) (cells:List LV)
 |ghost
structure St where
 sl:Nat->AV
 hp:Nat->Option Root
 nx:Nat
inductive X where
 |normal|exit (id:Nat)|ret
inductive Cls where
 |own|frz|lent
 deriving DecidableEq
inductive DL where
 |i (k:IntKind) (n:Int)|b (x:Bool)|s (x:ByteArray)
 |sl (c:Cls) (r:Row)
 |er (isNil:Bool)
inductive DV where
 |l (x:DL)|agg (xs:List DL)|ptr (xs:List DL)
inductive Mode where
 |bor|mov|io|frz
 deriving DecidableEq
structure Eff where
 v:AV
 up:List (Nat×Option Root)
 nx:Nat
 rl:List Nat
 rc:List Nat
section
variable {R:Type}
def chk (p:Bool) (x:Option R):Option R:=bif p then x else none
abbrev Oracle (R:Type):=FuncId->List DV->(List DV->Option R)->Option R
def leafTypes (tt:TT):Nat->Nat->List Nat
 |0,t=>[t]
 |d+1,t=>match tt t with
  |some ⟨.struct fs,_,_⟩=>fs.flatMap fun f=>leafTypes tt d f.2
  |_=>[t]
def depth:Nat:=6
def isSl (tt:TT) (t:Nat):Bool:=match tt t with|some ⟨.slice _,_,_⟩=>true|_=>false
def leafOK (tt:TT) (t:Nat):Bool:=match tt t with|some ⟨.slice _,_,_⟩=>true|some ⟨.int k,_,_⟩=>decide (k= .i64)|_=>false
def emptyRow (tt:TT) (e:Nat):Option Row:=match tt e with
 |some ⟨.int k,_,_⟩=>some (.ints k [])
 |some ⟨.bool,_,_⟩=>some (.bools [])
 |some ⟨.str,_,_⟩=>some (.strs [])
 |some ⟨.slice _,_,_⟩=>some (.rows true [])
 |some ⟨.struct _,_,_⟩=>bif (leafTypes tt depth e).all (leafOK tt) then some (.recs ((leafTypes tt depth e).map (isSl tt)) true []) else none
 |_=>none
def zeroLV (tt:TT) (t:Nat):LV:=match tt t with
 |some ⟨.int k,_,_⟩=> .i k 0
 |some ⟨.bool,_,_⟩=> .b false
 |some ⟨.str,_,_⟩=> .s ByteArray.empty
 |some ⟨.slice _,_,_⟩=> .nil
 |some ⟨.err,_,_⟩=> .er true
 |_=> .any
def zeroLeaf:Bool->Leaf
 |true=> .ints []
 |false=> .int 0
def zeroRow (n:Nat):Row->Row
 | .ints k _=> .ints k (List.replicate n 0)
 | .bools _=> .bools (List.replicate n false)
 | .strs _=> .strs (List.replicate n ByteArray.empty)
 | .rows _ _=> .rows true (List.replicate n [])
 | .recs sg _ _=> .recs sg true (List.replicate n (sg.map zeroLeaf))
def ofConst:Value->LV
 | .int k n=> .i k n
 | .bool x=> .b x
 | .string x=> .s x
 | .slice none 0 0=> .nil
 | .nilIface=> .er true
 |_=> .any
def St.rd (nt:Nat) (S:Nat->AV):Operand->AV
 | .tmp t=>bif Nat.blt t nt then S t else .l .any
 | .const v=> .l (ofConst v)
 | .func f=> .l (.fn f)
 | .global _=> .l .any
def viewRow (hp:Nat->Option Root):LV->Option (Row×List Nat)
 | .val _ r=>some (r,[])
 | .own id=>match hp id with|some (.row _ _ r)=>some (r.frz,[id])|_=>none
 | .sub id lo hi=>match hp id with|some (.row _ _ r)=>some (((r.frz).take hi).drop lo,[id])|_=>none
 | .inner id ver i f=>match hp id with
   |some (.row _ v (.rows _ l))=>bif v==ver then some (.ints .i64 (l.getD i []),[id]) else none
   |some (.row _ v (.recs _ _ l))=>bif v==ver then some (.ints .i64 (gl (l.getD i []) f),[id]) else none
   |_=>none
 |_=>none
def rowAt? (hp:Nat->Option Root) (id:Nat):Option Row:=match hp id with
 |some (.row _ _ r)=>some r
 |some (.hole _ _ r _ _)=>some r
 |_=>none
def lenOf (hp:Nat->Option Root):LV->Option (Nat×List Nat×List Nat)
 | .nil=>some (0,[],[])
 | .val _ r=>some (r.len,[],[])
 | .own id=>match rowAt? hp id with|some r=>some (r.len,[id],[])|none=>none
 | .sub id lo hi=>match rowAt? hp id with|some r=>some (hi-lo,[id],[])|none=>none
 | .inner id ver i f=>match hp id with
   |some (.row _ v (.rows _ l))=>bif v==ver then some ((l.getD i []).length,[],[id]) else none
   |some (.row _ v (.recs _ _ l))=>bif v==ver then some ((gl (l.getD i []) f).length,[],[id]) else none
   |_=>none
 |_=>none
def storable (hp:Nat->Option Root):LV->Bool
 | .any=>false
 | .undef=>false
 | .own id=>(rowAt? hp id).isSome
 | .sub id _ _=>(rowAt? hp id).isSome
 | .eptr id _ _=>(rowAt? hp id).isSome
 | .arr id _=>(rowAt? hp id).isSome
 | .inner id ver _ _=>(match hp id with|some (.row _ v _)=>v==ver|_=>false)
 | .iptr id ver _ _ _=>(match hp id with|some (.row _ v _)=>v==ver|_=>false)
 |_=>true
def aggCells (hp:Nat->Option Root):AV->Option (List LV)
 | .one (.l x)=>bif storable hp x then some [x] else none
 | .one (.agg xs)=>bif xs.all (storable hp) then some xs else none
 | .tup _=>none
def ibits (op:BinOp) (k:IntKind) (x y:Int):Int:=
 let a:=BitVec.ofInt k.bits x
 let b:=BitVec.ofInt k.bits y
 match op with
 | .and=>k.wrap (a &&& b).toNat
 | .or=>k.wrap (a ||| b).toNat
 | .xor=>k.wrap (a ^^^ b).toNat
 |_=>k.wrap (a &&& ~~~b).toNat
def maxI:Nat:=9223372036854775807
def room:Nat:=140737488355328
def binOp (op:BinOp) (x y:LV) (K:LV->Option R):Option R:=
 match op,x,y with
 | .shl,.i k a,.i _ b=>chk (decide (0<=b)) (K (.i k (k.wrap (a*2^(min b.toNat k.bits)))))
 | .shr,.i k a,.i _ b=>chk (decide (0<=b)) (K (.i k (a.fdiv (2^(min b.toNat k.bits)))))
 |_,.i k a,.i k' b=>
  bif decide (k=k') then
   match op with
   | .add=>K (.i k (k.wrap (a+b)))
   | .sub=>K (.i k (k.wrap (a-b)))
   | .mul=>K (.i k (k.wrap (a*b)))
   | .quo=>chk (!decide (b=0)) (K (.i k (k.wrap (a.tdiv b))))
   | .rem=>chk (!decide (b=0)) (K (.i k (a.tmod b)))
   | .eql=>K (.b (a==b))
   | .neq=>K (.b (a != b))
   | .lss=>K (.b (decide (a<b)))
   | .leq=>K (.b (decide (a<=b)))
   | .gtr=>K (.b (decide (a>b)))
   | .geq=>K (.b (decide (a>=b)))
   | .and| .or| .xor| .andNot=>K (.i k (ibits op k a b))
   |_=>none
  else none
 | .add,.s a,.s b=>chk (decide (a.size+b.size<=maxI)) (K (.s (a++b)))
 | .eql,.s a,.s b=>K (.b (a.toList==b.toList))
 | .neq,.s a,.s b=>K (.b !(a.toList==b.toList))
 | .eql,.b a,.b b=>K (.b (a==b))
 | .neq,.b a,.b b=>K (.b !(a==b))
 | .eql,.er a,.er true=>K (.b a)
 | .neq,.er a,.er true=>K (.b !a)
 |_,_,_=>none
def unOp (op:UnOp) (x:LV) (K:LV->Option R):Option R:=
 match op,x with
 | .neg,.i k n=>K (.i k (k.wrap (0-n)))
 | .not,.b x=>K (.b !x)
 |_,_=>none
end
end Go.Proofs.YtbmmhdmljajcfaaGreatDoor.V
namespace Go.Proofs.YtbmmhdmljajcfaaGreatDoor.V
open Go
def elemSl (hp:Nat->Option Root):LV->Option (Bool×List Int×List Nat)
 | .nil=>some (true,[],[])
 | .val _ (.ints .i64 l)=>some (false,l,[])
 | .own id=>match hp id with|some (.row _ _ (.ints .i64 l))=>some (true,l,[id])|_=>none
 | .sub id 0 hi=>match hp id with|some (.row _ _ (.ints .i64 l))=>some (true,l.take hi,[id])|_=>none
 |_=>none
def kill (hp:Nat->Option Root) (ids:List Nat):Nat->Option Root:=fun j=>bif ids.elem j then none else hp j
def elemRec (hp:Nat->Option Root):List Bool->List LV->Option (Bool×List Leaf×List Nat)
 | [],[]=>some (true,[],[])
 |false::sg,.i .i64 n::xs=>match elemRec hp sg xs with
  |some (o,r,ks)=>some (o,.int n::r,ks)
  |none=>none
 |true::sg,x::xs=>match elemSl hp x with
  |some (o,l,ks)=>match elemRec (kill hp ks) sg xs with
   |some (o',r,ks')=>some (o&&o',.ints l::r,ks++ks')
   |none=>none
  |none=>none
 |_,_=>none
def rowOf (hp:Nat->Option Root):Row->List AV->Option (Row×List Nat)
 |r,[]=>some (r,[])
 | .ints k _,.one (.l (.i k' n))::xs=>bif decide (k=k') then
  match rowOf hp (.ints k []) xs with|some (.ints _ l,ks)=>some (.ints k (n::l),ks)|_=>none else none
 | .bools _,.one (.l (.b x))::xs=>match rowOf hp (.bools []) xs with|some (.bools l,ks)=>some (.bools (x::l),ks)|_=>none
 | .strs _,.one (.l (.s x))::xs=>match rowOf hp (.strs []) xs with|some (.strs l,ks)=>some (.strs (x::l),ks)|_=>none
 | .rows _ _,.one (.l x)::xs=>match elemSl hp x with
   |some (o,y,ks)=>match rowOf (kill hp ks) (.rows true []) xs with
    |some (.rows o' l,ks')=>some (.rows (o&&o') (y::l),ks++ks')
    |_=>none
   |none=>none
 | .recs sg _ _,.one (.agg x)::xs=>match elemRec hp sg x with
   |some (o,y,ks)=>match rowOf (kill hp ks) (.recs sg true []) xs with
    |some (.recs _ o' l,ks')=>some (.recs sg (o&&o') (y::l),ks++ks')
    |_=>none
   |none=>none
 |_,_=>none
def killUp (ids:List Nat):List (Nat×Option Root):=ids.map fun j=>(j,none)
def Row.app:Row->Row->Option Row
 | .ints k l,.ints k' l'=>bif decide (k=k') then some (.ints k (l++l')) else none
 | .bools l,.bools l'=>some (.bools (l++l'))
 | .strs l,.strs l'=>some (.strs (l++l'))
 | .rows o l,.rows o' l'=>some (.rows (o&&o') (l++l'))
 | .recs sg o l,.recs sg' o' l'=>bif sg==sg' then some (.recs sg (o&&o') (l++l')) else none
 |_,_=>none
def setMany (l:List LV) (k:Nat):List LV->List LV
 | []=>l
 |x::xs=>setMany (l.set k x) (k+1) xs
def putMany (l:List LV) (k:Nat) (xs:List LV):List LV:=bif Nat.beq k 0&&Nat.beq xs.length l.length then xs else setMany l k xs
def loadOwn (id ver i:Nat):Row->(f:Nat)->Bool->AV
 | .ints k l,_,_=> .l (.i k (l.getD i 0))
 | .bools l,_,_=> .l (.b (l.getD i false))
 | .strs l,_,_=> .l (.s (l.getD i ByteArray.empty))
 | .rows _ _,_,_=> .l (.inner id ver i 0)
 | .recs sg _ l,f,agg=>bif agg then .one (.agg (sg.zipIdx.map fun (b,f)=>bif b then .inner id ver i f else .i .i64 (gi (l.getD i []) f)))
   else match sg[f]? with
    |some true=> .l (.inner id ver i f)
    |some false=> .l (.i .i64 (gi (l.getD i []) f))
    |none=> .l .any
def loadVal (p:Bool) (i:Nat):Row->(f:Nat)->Bool->AV
 | .ints k l,_,_=> .l (.i k (l.getD i 0))
 | .bools l,_,_=> .l (.b (l.getD i false))
 | .strs l,_,_=> .l (.s (l.getD i ByteArray.empty))
 | .rows _ l,_,_=> .l (.val p (.ints .i64 (l.getD i [])))
 | .recs sg _ l,f,agg=>bif agg then .one (.agg (sg.zipIdx.map fun (b,f)=>bif b then .val p (.ints .i64 (gl (l.getD i []) f)) else .i .i64 (gi (l.getD i []) f)))
   else match sg[f]? with
    |some true=> .l (.val p (.ints .i64 (gl (l.getD i []) f)))
    |some false=> .l (.i .i64 (gi (l.getD i []) f))
    |none=> .l .any
def setLeaf (sg:List Bool) (r:List Leaf) (f:Nat) (x:Leaf):List Leaf:=sg.zipIdx.map fun (b,g)=>bif g==f then x else bif b then .ints (gl r g) else .int (gi r g)
def storeOwn (hp:Nat->Option Root) (agg:Bool) (i:Nat) (f:Nat) (x:AV):Row->Option (Row×List Nat×Bool)
 | .ints k l=>match x with| .one (.l (.i k' n))=>bif decide (k=k') then some (.ints k (l.set i n),[],false) else none|_=>none
 | .bools l=>match x with| .one (.l (.b n))=>some (.bools (l.set i n),[],false)|_=>none
 | .strs l=>match x with| .one (.l (.s n))=>some (.strs (l.set i n),[],false)|_=>none
 | .rows o l=>match x with
   | .one (.l x)=>match elemSl hp x with|some (o',y,ks)=>some (.rows (o&&o') (l.set i y),ks,true)|none=>none
   |_=>none
 | .recs sg o l=>match x with
   | .one (.agg xs)=>bif agg then (match elemRec hp sg xs with|some (o',y,ks)=>some (.recs sg (o&&o') (l.set i y),ks,true)|none=>none) else none
   | .one (.l (.i .i64 n))=>bif agg then none else (match sg[f]? with|some false=>some (.recs sg o (l.set i (setLeaf sg (l.getD i []) f (.int n))),[],true)|_=>none)
   |_=>none
def setInner (i j:Nat) (n:Int):Row->Option Row
 | .rows true l=>some (.rows true (l.set i ((l.getD i []).set j n)))
 |_=>none
def innerOf (r:Row) (i f:Nat):List Int:=match r with
 | .rows _ l=>l.getD i []
 | .recs _ _ l=>gl (l.getD i []) f
 |_=>[]
def setInnerRow (i f:Nat) (y:List Int):Row->Option Row
 | .rows true l=>some (.rows true (l.set i y))
 | .recs sg true l=>match sg[f]? with|some true=>some (.recs sg true (l.set i (setLeaf sg (l.getD i []) f (.ints y))))|_=>none
 |_=>none
def strOf (l:List Int):ByteArray:=⟨(l.map fun n=>UInt8.ofNat n.toNat).toArray⟩
def sb (s:ByteArray) (i:Nat):Int:=((s.data[i]?).getD 0).toNat
def isStruct (tt:TT) (t:Nat):Bool:=match tt t with|some ⟨.struct _,_,_⟩=>true|_=>false
def elemTy (tt:TT) (t:Nat):Option Nat:=match tt t with|some ⟨.slice e,_,_⟩=>some e|_=>none
def bytesOf (tt:TT) (t:Nat):Nat:=match tt t with|some e=>e.bytes|none=>0
def sizeOf' (tt:TT) (t:Nat):Nat:=match tt t with|some e=>e.size|none=>0
def scalarTy (tt:TT) (t:Nat):Bool:=match tt t with
 |some ⟨.int _,_,_⟩=>true
 |some ⟨.bool,_,_⟩=>true
 |some ⟨.str,_,_⟩=>true
 |some ⟨.slice _,_,_⟩=>true
 |some ⟨.ptr _,_,_⟩=>true
 |some ⟨.err,_,_⟩=>true
 |_=>false
def elSize (tt:TT) (t:Nat):Nat:=match tt t with|some ⟨.slice e,_,_⟩=>sizeOf' tt e|_=>0
def szOK (tt:TT) (t:Nat) (r:Row):Bool:=elSize tt t==r.size&&Nat.blt 0 r.size
section
variable {R:Type}
def ret1 (nx:Nat) (v:AV) (K:Eff->Option R):Option R:=K ⟨v,[],nx,[],[]⟩
def asI (x:AV) (K:Int->Option R):Option R:=match x with| .one (.l (.i _ n))=>K n|_=>none
def evAlloc (tt:TT) (nx:Nat) (t:Nat) (K:Eff->Option R):Option R:=
 match tt t with
 |some ⟨.struct _,_,_⟩=>K ⟨.l (.bptr nx 0),[(nx,some (.box t ((leafTypes tt depth t).map (zeroLV tt))))],nx+1,[],[]⟩
 |some ⟨.array n e,_,_⟩=>match emptyRow tt e with
  |some r=>bif Nat.blt 0 n&&r.size==1&& !r.deep then K ⟨.l (.arr nx n),[(nx,some (.row t 0 (zeroRow n r)))],nx+1,[],[]⟩ else none
  |none=>none
 |some _=>bif scalarTy tt t then K ⟨.l (.bptr nx 0),[(nx,some (.box t [zeroLV tt t]))],nx+1,[],[]⟩ else none
 |none=>none
def evBox (tt:TT) (hp:Nat->Option Root) (nx:Nat) (t:Nat) (x:AV) (K:Eff->Option R):Option R:=
 match tt t with
 |some ⟨.array _ _,_,_⟩=>none
 |some e=>match aggCells hp x with
  |some xs=>K ⟨.l (.bptr nx 0),[(nx,some (.box t xs))],nx+1,[],[]⟩
  |none=>none
 |none=>none
def fillParts (tt:TT) (hp:Nat->Option Root) (fs:List (Nat×Nat)) (zero:List LV):List (Nat×AV)->Option (List LV)
 | []=>some zero
 | (i,x)::ps=>match fs[i]?,aggCells hp x with
   |some (off,ft),some xs=>match tt ft with
    |some e=>bif xs.length==e.size&&Nat.ble (off+xs.length) zero.length then fillParts tt hp fs (setMany zero off xs) ps else none
    |none=>none
   |_,_=>none
def evBuild (tt:TT) (hp:Nat->Option Root) (nx:Nat) (t:Nat) (parts:List (Nat×AV)) (K:Eff->Option R):Option R:=
 match tt t with
 |some ⟨.struct fs,_,_⟩=>match fillParts tt hp fs ((leafTypes tt depth t).map (zeroLV tt)) parts with
  |some xs=>ret1 nx (.one (.agg xs)) K
  |none=>none
 |some ⟨.array n e,_,_⟩=>match parts,tt e with
  | [],some _=>ret1 nx (.one (.agg (List.replicate n (zeroLV tt e)))) K
  |_,_=>none
 |_=>none
def inOrder:Nat->List (Nat×AV)->Option (List AV)
 |_,[]=>some []
 |i,(j,x)::ps=>bif i==j then (match inOrder (i+1) ps with|some xs=>some (x::xs)|none=>none) else none
def evBuildSlice (tt:TT) (hp:Nat->Option Root) (nx:Nat) (t len:Nat) (parts:List (Nat×AV)) (K:Eff->Option R):Option R:=
 match elemTy tt t with
 |some e=>match emptyRow tt e,inOrder 0 parts with
  |some r0,some xs=>bif xs.length==len&&Nat.ble (len*r0.size) 16777216 then (match rowOf hp r0 xs with
   |some (r,ks)=>K ⟨.l (.own nx),killUp ks++[(nx,some (.row e 0 r))],nx+1,[],ks⟩
   |none=>none) else none
  |_,_=>none
 |none=>none
def evLoad (tt:TT) (hp:Nat->Option Root) (nx:Nat) (t:Nat) (p:AV) (K:Eff->Option R):Option R:=
 match p with
 | .one (.l (.bptr id k))=>match hp id with
   |some (.box _ cells)=>bif isStruct tt t then (bif Nat.ble (k+sizeOf' tt t) cells.length then K ⟨.one (.agg ((cells.drop k).take (sizeOf' tt t))),[],nx,[],[id]⟩ else none)
    else bif scalarTy tt t then (match cells[k]? with|some x=>K ⟨.l x,[],nx,[],[id]⟩|none=>none) else none
   |_=>none
 | .one (.l (.eptr id i f))=>match hp id with
   |some (.row _ ver r)=>bif (bif isStruct tt t then sizeOf' tt t==r.size&&f==0&&r.isRecs else scalarTy tt t&&Nat.blt f r.size) then K ⟨loadOwn id ver i r f (isStruct tt t),[],nx,[],[id]⟩ else none
   |_=>none
 | .one (.l (.vptr p r i f))=>bif (bif isStruct tt t then sizeOf' tt t==r.size&&f==0&&r.isRecs else scalarTy tt t&&Nat.blt f r.size) then ret1 nx (loadVal p i r f (isStruct tt t)) K else none
 | .one (.l (.iptr id ver i f j))=>match hp id with
   |some (.row _ v r)=>bif v==ver&&scalarTy tt t then K ⟨.l (.i .i64 ((innerOf r i f).getD j 0)),[],nx,[],[id]⟩ else none
   |_=>none
 |_=>none
def arrRow (r:Row) (xs:List LV):Option Row:=match rowOf (fun _=>none) r (xs.map fun x=> .l x) with|some (r,[])=>some r|_=>none
def evStore (tt:TT) (hp:Nat->Option Root) (nx:Nat) (t:Nat) (p x:AV) (K:Eff->Option R):Option R:=
 match p with
 | .one (.l (.bptr id k))=>match hp id,aggCells hp x with
   |some (.box bt cells),some xs=>bif xs.length==sizeOf' tt t&&Nat.blt 0 xs.length then (bif decide (k+xs.length<=cells.length) then
    K ⟨.l .undef,[(id,some (.box bt (putMany cells k xs)))],nx,[],[id]⟩ else none) else none
   |_,_=>none
 | .one (.l (.eptr id i f))=>match tt t with
   |some e=>match hp id with
    |some (.row bt ver r)=>bif (bif isStruct tt t then e.size==r.size&&f==0&&r.isRecs else scalarTy tt t&&Nat.blt f r.size) then match storeOwn hp (isStruct tt t) i f x r with
     |some (r',ks,bump)=>bif ks.elem id then none else K ⟨.l .undef,killUp ks++[(id,some (.row bt (bif bump then ver+1 else ver) r'))],nx,[],id::ks⟩
     |none=>none
     else none
    |some (.hole bt ver (.rows true l) i' f')=>bif f==0&&scalarTy tt t then chk (i==i') (match x with
     | .one (.l x)=>match elemSl hp x with
       |some (true,y,ks)=>bif ks.elem id then none else K ⟨.l .undef,killUp ks++[(id,some (.row bt (ver+1) (.rows true (l.set i y))))],nx,[],id::ks⟩
       |_=>none
     |_=>none) else none
    |_=>none
   |none=>none
 | .one (.l (.arr id m))=>match tt t with
   |some ⟨.array n e,_,_⟩=>match hp id,x,emptyRow tt e with
    |some (.row bt ver r),.one (.agg xs),some r0=>bif xs.length==n&&m==n&&r0.size==1&& !r0.deep&&r.size==1&& !r.deep&&sizeOf' tt t==n&&Nat.blt 0 n then (match arrRow r0 xs with
     |some r'=>K ⟨.l .undef,[(id,some (.row bt (ver+1) r'))],nx,[],[id]⟩
     |none=>none) else none
    |_,_,_=>none
   |_=>none
 | .one (.l (.iptr id ver i f j))=>match hp id,x with
   |some (.row bt v r),.one (.l (.i .i64 n))=>bif v==ver&&scalarTy tt t then (match setInner i j n r with
    |some r'=>K ⟨.l .undef,[(id,some (.row bt v r'))],nx,[],[id]⟩
    |none=>none) else none
   |_,_=>none
 |_=>none
def evIndexAddr (tt:TT) (hp:Nat->Option Root) (nx:Nat) (t:Nat) (x ix:AV) (K:Eff->Option R):Option R:=
 asI ix fun i=>match x with
 | .one (.l (.own id))=>match rowAt? hp id with
   |some r=>bif szOK tt t r then chk (decide (0<=i)&&decide (i<r.len)) (K ⟨.l (.eptr id i.toNat 0),[],nx,[id],[]⟩) else none
   |none=>none
 | .one (.l (.sub id lo hi))=>match rowAt? hp id with
   |some r=>bif szOK tt t r then chk (decide (0<=i)&&decide (i<((hi-lo:Nat):Int))) (K ⟨.l (.eptr id (lo+i.toNat) 0),[],nx,[id],[]⟩) else none
   |none=>none
 | .one (.l (.val p r))=>bif szOK tt t r then chk (decide (0<=i)&&decide (i<r.len)) (ret1 nx (.l (.vptr p r i.toNat 0)) K) else none
 | .one (.l (.inner id ver e f))=>match lenOf hp (.inner id ver e f) with
   |some (n,rl,rc)=>bif elSize tt t==1 then chk (decide (0<=i)&&decide (i<n)) (K ⟨.l (.iptr id ver e f i.toNat),[],nx,rl,rc⟩) else none
   |none=>none
 | .one (.l (.arr id n))=>match tt t,rowAt? hp id with
   |some ⟨.array m e,_,_⟩,some r=>bif m==n&&sizeOf' tt e==r.size&&Nat.blt 0 r.size then chk (decide (0<=i)&&decide (i<n)) (K ⟨.l (.eptr id i.toNat 0),[],nx,[id],[]⟩) else none
   |_,_=>none
 |_=>none
def evFieldAddr (tt:TT) (hp:Nat->Option Root) (nx:Nat) (t:Nat) (x:AV) (f:Nat) (K:Eff->Option R):Option R:=
 match tt t with
 |some ⟨.struct fs,_,_⟩=>match fs[f]? with
  |some (off,_)=>match x with
   | .one (.l (.bptr id k))=>ret1 nx (.l (.bptr id (k+off))) K
   | .one (.l (.eptr id i g))=>match rowAt? hp id with|some _=>K ⟨.l (.eptr id i (g+off)),[],nx,[id],[]⟩|none=>none
   | .one (.l (.vptr p r i g))=>ret1 nx (.l (.vptr p r i (g+off))) K
   |_=>none
  |none=>none
 |_=>none
def optI (o:Option AV) (d:Int) (K:Int->Option R):Option R:=match o with|none=>K d|some x=>asI x K
def evSlice (tt:TT) (hp:Nat->Option Root) (nx:Nat) (t:Nat) (x:AV) (lo hi:Option AV) (K:Eff->Option R):Option R:=
 match x with
 | .one (.l (.s s))=>match tt t with
   |some ⟨.str,_,_⟩=>optI hi s.size fun h=>chk (decide (0<=h)&&decide (h<=s.size)) (optI lo 0 fun l=>chk (decide (0<=l)&&decide (l<=h)) (ret1 nx (.l (.s (s.extract l.toNat h.toNat))) K))
   |_=>none
 | .one (.l (.own id))=>match rowAt? hp id with
   |some r=>bif szOK tt t r then (match lo,hi with
    |none,none=>ret1 nx (.l (.own id)) K
    |_,_=>optI hi r.len fun h=>chk (decide (0<=h)&&decide (h<=r.len)) (optI lo 0 fun l=>chk (decide (0<=l)&&decide (l<=h)) (K ⟨.l (.sub id l.toNat h.toNat),[],nx,[id],[]⟩))) else none
   |none=>none
 | .one (.l (.val p r))=>bif szOK tt t r then match lo,hi with
  |none,none=>ret1 nx (.l (.val p r)) K
  |none,some h=>asI h fun h=>chk (decide (0<=h)&&decide (h<=r.len)) (ret1 nx (.l (.val p (r.take h.toNat))) K)
  |some l,none=>asI l fun l=>chk (decide (0<=l)&&decide (l<=r.len)) (ret1 nx (.l (.val p (r.drop l.toNat))) K)
  |some l,some h=>asI h fun h=>chk (decide (0<=h)&&decide (h<=r.len)) (asI l fun l=>chk (decide (0<=l)&&decide (l<=h)) (ret1 nx (.l (.val p ((r.take h.toNat).drop l.toNat))) K))
   else none
 |_=>none
def evIndex (tt:TT) (nx:Nat) (t:Nat) (x ix:AV) (K:Eff->Option R):Option R:=
 match x with
 | .one (.l (.s s))=>match tt t with
   |some ⟨.str,_,_⟩=>asI ix fun i=>chk (decide (0<=i)&&decide (i<s.size)) (ret1 nx (.l (.i .u8 (sb s i.toNat))) K)
   |_=>none
 |_=>none
def evConvert (tt:TT) (hp:Nat->Option Root) (nx:Nat) (src dst:Nat) (x:AV) (K:Eff->Option R):Option R:=
 bif scalarTy tt src then match x with
 | .one (.l (.i _ n))=>match tt dst with|some ⟨.int k,_,_⟩=>ret1 nx (.l (.i k (k.wrap n))) K|_=>none
 | .one (.l (.s s))=>match tt dst with|some ⟨.str,_,_⟩=>ret1 nx (.l (.s s)) K|_=>none
 | .one (.l x)=>match tt dst,viewRow hp x with
   |some ⟨.str,_,_⟩,some (.ints .u8 l,rc)=>match (elemTy tt src).bind tt with
    |some ⟨.int .u8,_,_⟩=>K ⟨.l (.s (strOf l)),[],nx,[],rc⟩
    |_=>none
   |_,_=>none
 |_=>none
 else none
def sameOperand:Operand->Operand->Bool
 | .tmp a,.tmp b=>a==b
 | .const (.int _ a),.const (.int _ b)=>a==b
 |_,_=>false
def evMakeSlice (tt:TT) (nx:Nat) (t:Nat) (l c:Operand) (x:AV) (K:Eff->Option R):Option R:=
 bif sameOperand l c then (match elemTy tt t with
  |some e=>match emptyRow tt e with
   |some r=>asI x fun n=>chk (decide (0<=n)&&decide (n.toNat*bytesOf tt e<=room)) (K ⟨.l (.own nx),[(nx,some (.row e 0 (zeroRow n.toNat r)))],nx+1,[],[]⟩)
   |none=>none
  |none=>none) else none
def added (hp:Nat->Option Root) (r0:Row):LV->Option (Row×List Nat×List Nat)
 | .nil=>some (r0,[],[])
 | .own id=>match hp id with
   |some (.row _ _ r)=>match r with
    | .rows true _=>some (r,[id],[id])
    | .recs _ true _=>some (r,[id],[id])
    |_=>some (r,[],[id])
   |_=>none
 | .sub id lo hi=>match hp id with
   |some (.row _ _ r)=>match r with
    | .rows true _=>none
    | .recs _ true _=>none
    |_=>some ((r.take hi).drop lo,[],[id])
   |_=>none
 | .s s=>some (.ints .u8 (s.data.toList.map fun b=>(b.toNat:Int)),[],[])
 |x=>match viewRow hp x with|some (r,rc)=>some (r,[],rc)|none=>none
def appFin (tt:TT) (e:Nat) (r0 base y:Row) (ks:List Nat) (up:List (Nat×Option Root)) (nx:Nat) (rc:List Nat) (K:Eff->Option R):Option R:=
 match base.app y with
 |some r=>bif base.size==r0.size then chk (decide ((base.len+y.len)*bytesOf tt e<=room)) (K ⟨.l (.own nx),killUp ks++up++[(nx,some (.row e 0 r))],nx+1,[],rc⟩) else none
 |none=>none
def evAppend (tt:TT) (hp:Nat->Option Root) (nx:Nat) (t:Nat) (tx:Nat) (s x:AV) (K:Eff->Option R):Option R:=
 match elemTy tt t,s,x with
 |some e,.one (.l s),.one (.l x)=>match emptyRow tt e with
  |some r0=>match added hp r0 x with
   |some (y,ks,rc)=>bif (match x with| .s _=>(match tt tx with|some ⟨.str,_,_⟩=>r0.size==1|_=>false)|_=>(elemTy tt tx).isSome) then (match s with
    | .nil=>appFin tt e r0 r0 y ks [] nx rc K
    | .own id=>match hp id with
      |some (.row _ _ r)=>bif rc.elem id then none else appFin tt e r0 r y ks [(id,none)] nx (rc++[id]) K
      |_=>none
    | .sub id lo hi=>match hp id with
      |some (.row _ _ r)=>bif rc.elem id then none else bif lo==0 then appFin tt e r0 (r.take hi) y ks [(id,none)] nx (rc++[id]) K else none
      |_=>none
    | .inner id ver i f=>match hp id with
      |some (.row bt v (.rows true l))=>bif rc.elem id then none else bif v==ver then appFin tt e r0 (.ints .i64 (l.getD i [])) y ks [(id,some (.hole bt v (.rows true l) i f)),(nx,none)] (nx+1) (rc++[id]) K else none
      |_=>none
    |_=>none) else none
   |none=>none
  |none=>none
 |_,_,_=>none
def evCopy (tt:TT) (hp:Nat->Option Root) (nx:Nat) (t:Nat) (d s:AV) (K:Eff->Option R):Option R:=
 bif (match elemTy tt t with|some e=>sizeOf' tt e==1|none=>false) then match d,s with
 | .one (.l (.sub id lo hi)),.one (.l (.sub id' lo' hi'))=>match hp id with
   |some (.row bt ver (.ints k l))=>bif id==id' then
    K ⟨.l (.i .i64 (min (hi' -lo') (hi-lo):Nat)),[(id,some (.row bt ver (.ints k (l.take lo++(((l.take hi').drop lo').take (hi-lo)++l.drop (lo+min (hi' -lo') (hi-lo)))))))],nx,[],[id]⟩ else none
   |some (.row bt ver (.rows true l))=>bif id==id' then
    chk (lo==lo' +1&&hi==l.length&&hi' ==l.length&&decide (lo' <l.length)) (K ⟨.l (.i .i64 ((l.length-lo:Nat):Int)),[(id,some (.hole bt (ver+1) (.rows true (l.take lo' ++[]::(l.drop lo').dropLast)) lo' 0))],nx,[],[id]⟩) else none
   |_=>none
 |_,_=>none
 else none
end
end Go.Proofs.YtbmmhdmljajcfaaGreatDoor.V
namespace Go.Proofs.YtbmmhdmljajcfaaGreatDoor.V
open Go
section
variable {R:Type}
def toDL (tt:TT) (hp:Nat->Option Root) (m:Mode) (t:Nat):LV->Option (DL×List Nat×List Nat×List Nat)
 | .i k n=>some (.i k n,[],[],[])
 | .b x=>some (.b x,[],[],[])
 | .s x=>some (.s x,[],[],[])
 | .er x=>some (.er x,[],[],[])
 | .nil=>match elemTy tt t with
   |some e=>match emptyRow tt e with
    |some r=>match m with| .bor=>some (.sl .lent r.frz,[],[],[])| .frz=>some (.sl .frz r.frz,[],[],[])|_=>some (.sl .own r,[],[],[])
    |none=>none
   |none=>none
 | .val p r=>match m with
   | .bor=>some (.sl .lent r,[],[],[])
   | .frz=>bif p then some (.sl .frz r,[],[],[]) else none
   |_=>none
 |x=>match m with
  | .bor=>match viewRow hp x with|some (r,rc)=>some (.sl .lent r,[],[],rc)|none=>none
  | .mov=>match x with
    | .own id=>match hp id with|some (.row _ _ r)=>(bif r.owned then some (.sl .own r,[id],[],[]) else none)|_=>none
    | .sub id 0 hi=>match hp id with|some (.row _ _ r)=>(bif r.owned then some (.sl .own (r.take hi),[id],[],[]) else none)|_=>none
    |_=>none
  | .io=>match x with
    | .own id=>match hp id with|some (.row _ _ r)=>(bif r.owned then some (.sl .own r,[],[id],[]) else none)|_=>none
    | .inner id ver i f=>match hp id with
      |some (.row _ v r)=>bif v==ver&&r.owned then some (.sl .own (.ints .i64 (innerOf r i f)),[],[id],[]) else none
      |_=>none
    |_=>none
  | .frz=>none
def toDLs (tt:TT) (hp:Nat->Option Root) (m:Mode):List Nat->List LV->Option (List DL×List Nat×List Nat×List Nat)
 | [],[]=>some ([],[],[],[])
 |t::ts,x::xs=>match toDL tt hp m t x with
  |some (d,ks,io,rc)=>match toDLs tt hp m ts xs with
   |some (ds,ks',io',rc')=>some (d::ds,ks++ks',io++io',rc++rc')
   |none=>none
  |none=>none
 |_,_=>none
def boxDL:LV->Option DL
 | .i k n=>some (.i k n)
 | .b x=>some (.b x)
 | .s x=>some (.s x)
 | .val true r=>some (.sl .frz r)
 |_=>none
def boxDLs:List LV->Option (List DL)
 | []=>some []
 |x::xs=>match boxDL x with
  |some d=>match boxDLs xs with
   |some ds=>some (d::ds)
   |none=>none
  |none=>none
def ptrOf:LV->Option Nat
 | .bptr id 0=>some id
 |_=>none
def isPtr (tt:TT) (t:Nat):Bool:=match tt t with|some ⟨.ptr _,_,_⟩=>true|_=>false
def boxAt (tt:TT) (hp:Nat->Option Root) (t id:Nat):Option (List DL):=bif isPtr tt t then (match hp id with
 |some (.box _ cells)=>boxDLs cells
 |_=>none) else none
def toPtr (tt:TT) (hp:Nat->Option Root) (m:Mode) (t id:Nat):Option (DV×List Nat×List Nat×List Nat):=match m with
 | .io=>match boxAt tt hp t id with|some ds=>some (.ptr ds,[],[id],[])|none=>none
 |_=>none
def toDV (tt:TT) (hp:Nat->Option Root) (m:Mode) (t:Nat):AV->Option (DV×List Nat×List Nat×List Nat)
 | .one (.l x)=>match ptrOf x with
   |some id=>toPtr tt hp m t id
   |none=>match toDL tt hp m t x with|some (d,ks,io,rc)=>some (.l d,ks,io,rc)|none=>none
 | .one (.agg xs)=>match toDLs tt hp m (leafTypes tt depth t) xs with|some (ds,ks,io,rc)=>some (.agg ds,ks,io,rc)|none=>none
 | .tup _=>none
def toDVs (tt:TT) (hp:Nat->Option Root):List Mode->List Nat->List AV->Option (List DV×List Nat×List Nat×List Nat)
 |_,[],[]=>some ([],[],[],[])
 |ms,t::ts,x::xs=>match toDV tt hp (ms.headD .bor) t x with
  |some (d,ks,io,rc)=>match toDVs tt hp ms.tail ts xs with
   |some (ds,ks',io',rc')=>some (d::ds,ks++ks',io++io',rc++rc')
   |none=>none
  |none=>none
 |_,_,_=>none
def dI (k:IntKind) (d:DL) (K:Int->Option R):Option R:=match d with| .i k' n=>(bif decide (k=k') then K n else none)|_=>none
def dB (d:DL) (K:Bool->Option R):Option R:=match d with| .b x=>K x|_=>none
def dS (d:DL) (K:ByteArray->Option R):Option R:=match d with| .s x=>K x|_=>none
def dE (d:DL) (K:Bool->Option R):Option R:=match d with| .er x=>K x|_=>none
def dInts (oc:Cls) (k:IntKind) (d:DL) (K:List Int->Option R):Option R:=match d with| .sl o (.ints k' l)=>(bif decide (o=oc)&&decide (k=k') then K l else none)|_=>none
def dBools (oc:Cls) (d:DL) (K:List Bool->Option R):Option R:=match d with| .sl o (.bools l)=>(bif decide (o=oc) then K l else none)|_=>none
def dStrs (oc:Cls) (d:DL) (K:List ByteArray->Option R):Option R:=match d with| .sl o (.strs l)=>(bif decide (o=oc) then K l else none)|_=>none
def dRows (oc:Cls) (d:DL) (K:List (List Int)->Option R):Option R:=match d with| .sl o (.rows o' l)=>(bif decide (o=oc)&&o' ==decide (oc= .own) then K l else none)|_=>none
def dRecs (oc:Cls) (sg:List Bool) (d:DL) (K:List (List Leaf)->Option R):Option R:=match d with| .sl o (.recs sg' o' l)=>(bif decide (o=oc)&&o' ==decide (oc= .own)&&sg==sg' then K l else none)|_=>none
def dHead (ds:List DV) (K:DV->List DV->Option R):Option R:=match ds with|d::ds=>K d ds|_=>none
def dNil (ds:List DV) (K:Option R):Option R:=match ds with| []=>K|_=>none
def dL (d:DV) (K:DL->Option R):Option R:=match d with| .l x=>K x|_=>none
def dAgg (d:DV) (K:List DL->Option R):Option R:=match d with| .agg x=>K x|_=>none
def dPtr (d:DV) (K:List DL->Option R):Option R:=match d with| .ptr x=>K x|_=>none
def lHead (ds:List DL) (K:DL->List DL->Option R):Option R:=match ds with|d::ds=>K d ds|_=>none
def lNil (ds:List DL) (K:Option R):Option R:=match ds with| []=>K|_=>none
def fromDL (tt:TT) (oc:Cls) (t:Nat) (d:DL) (nx:Nat) (K:LV->List (Nat×Option Root)->Nat->Option R):Option R:=
 match tt t with
 |some ⟨.int k,_,_⟩=>dI k d fun n=>K (.i k n) [] nx
 |some ⟨.bool,_,_⟩=>dB d fun x=>K (.b x) [] nx
 |some ⟨.str,_,_⟩=>dS d fun x=>K (.s x) [] nx
 |some ⟨.err,_,_⟩=>dE d fun x=>K (.er x) [] nx
 |some ⟨.slice e,_,_⟩=>
  let fin (r:Row):Option R:=match oc with
   | .own=>K (.own nx) [(nx,some (.row e 0 r))] (nx+1)
   | .frz=>K (.val true r) [] nx
   | .lent=>K (.val false r) [] nx
  match emptyRow tt e with
  |some (.ints k _)=>dInts oc k d fun l=>fin (.ints k l)
  |some (.bools _)=>dBools oc d fun l=>fin (.bools l)
  |some (.strs _)=>dStrs oc d fun l=>fin (.strs l)
  |some (.rows _ _)=>dRows oc d fun l=>fin (.rows (decide (oc= .own)) l)
  |some (.recs sg _ _)=>dRecs oc sg d fun l=>fin (.recs sg (decide (oc= .own)) l)
  |none=>none
 |_=>none
def fromDLs (tt:TT) (oc:Cls):List Nat->List DL->Nat->(List LV->List (Nat×Option Root)->Nat->Option R)->Option R
 | [],ds,nx,K=>lNil ds (K [] [] nx)
 |t::ts,ds,nx,K=>lHead ds fun d ds=>fromDL tt oc t d nx fun x up nx=>fromDLs tt oc ts ds nx fun xs up' nx=>K (x::xs) (up++up') nx
def fromDV (tt:TT) (oc:Cls) (t:Nat) (d:DV) (nx:Nat) (K:A1->List (Nat×Option Root)->Nat->Option R):Option R:=
 match tt t with
 |some ⟨.struct _,_,_⟩=>dAgg d fun ds=>fromDLs tt oc (leafTypes tt depth t) ds nx fun xs up nx=>K (.agg xs) up nx
 |some ⟨.ptr e,_,_⟩=>dPtr d fun ds=>fromDLs tt .frz (leafTypes tt depth e) ds (nx+1) fun xs up nx'=>K (.l (.bptr nx 0)) (up++[(nx,some (.box e xs))]) nx'
 |_=>dL d fun d=>fromDL tt oc t d nx fun x up nx=>K (.l x) up nx
def fromDVs (tt:TT) (oc:Cls):List Nat->List DV->Nat->(List A1->List (Nat×Option Root)->Nat->List DV->Option R)->Option R
 | [],ds,nx,K=>K [] [] nx ds
 |t::ts,ds,nx,K=>dHead ds fun d ds=>fromDV tt oc t d nx fun x up nx=>fromDVs tt oc ts ds nx fun xs up' nx ds=>K (x::xs) (up++up') nx ds
def upd (hp:Nat->Option Root):List (Nat×Option Root)->Nat->Option Root
 | []=>hp
 | (i,r)::l=>upd (fun j=>bif j==i then r else hp j) l
def nodupB:List Nat->Bool
 | []=>true
 |x::l=> !l.elem x&&nodupB l
def disjoint:List Nat->List Nat->Bool
 | [],_=>true
 |x::l,m=> !m.elem x&&disjoint l m
structure Sig where
 params:List Nat
 results:List Nat
 modes:List Mode
 oc:Cls
structure Glob (R:Type) where
 tt:TT
 Φ:Oracle R
 sig:FuncId->Option Sig
 nt:Nat
def resAV:List A1->AV
 | [x]=> .one x
 |xs=> .tup xs
def noIO:List Mode->Bool
 | []=>true
 | .io::_=>false
 |_::ms=>noIO ms
def Row.slAt (r:Row) (f:Nat):Bool:=match r with
 | .rows _ _=>f==0
 | .recs sg _ _=>sg[f]?.getD false
 |_=>false
def lentKill (oc:Cls) (rc:List Nat):List (Nat×Option Root):=match oc with| .lent=>killUp rc|_=>[]
def backLeaf (hp:Nat->Option Root) (x:LV) (d:DL) (K:List (Nat×Option Root)->Option R):Option R:=
 match x with
 | .i _ _=>K []
 | .b _=>K []
 | .s _=>K []
 | .er _=>K []
 | .nil=>K []
 | .own id=>match hp id with
   |some (.row e ver (.ints k _))=>dInts .own k d fun l=>K [(id,some (.row e (ver+1) (.ints k l)))]
   |some (.row e ver (.bools _))=>dBools .own d fun l=>K [(id,some (.row e (ver+1) (.bools l)))]
   |some (.row e ver (.strs _))=>dStrs .own d fun l=>K [(id,some (.row e (ver+1) (.strs l)))]
   |some (.row e ver (.rows true _))=>dRows .own d fun l=>K [(id,some (.row e (ver+1) (.rows true l)))]
   |some (.row e ver (.recs sg true _))=>dRecs .own sg d fun l=>K [(id,some (.row e (ver+1) (.recs sg true l)))]
   |_=>none
 |_=>none
def backLeafs (hp:Nat->Option Root):List LV->List DL->(List (Nat×Option Root)->Option R)->Option R
 | [],ds,K=>lNil ds (K [])
 |x::xs,ds,K=>lHead ds fun d ds=>backLeaf hp x d fun up=>backLeafs hp xs ds fun up'=>K (up++up')
def backCell (x:LV) (d:DL) (K:LV->Option R):Option R:=match x with
 | .i k _=>dI k d fun n=>K (.i k n)
 | .b _=>dB d fun x=>K (.b x)
 | .s _=>dS d fun x=>K (.s x)
 | .val true (.ints k _)=>dInts .frz k d fun l=>K (.val true (.ints k l))
 |_=>none
def backCells:List LV->List DL->(List LV->Option R)->Option R
 | [],ds,K=>lNil ds (K [])
 |x::xs,ds,K=>lHead ds fun d ds=>backCell x d fun y=>backCells xs ds fun ys=>K (y::ys)
def backPtr (hp:Nat->Option Root) (id:Nat) (d:DV) (K:List (Nat×Option Root)->Option R):Option R:=dPtr d fun ds=>match hp id with
 |some (.box t cells)=>backCells cells ds fun cs=>K [(id,some (.box t cs))]
 |_=>none
def backAV (hp:Nat->Option Root) (x:AV) (d:DV) (K:List (Nat×Option Root)->Option R):Option R:=match x with
 | .one (.l x)=>match ptrOf x with
   |some id=>backPtr hp id d K
   |none=>dL d fun d=>backLeaf hp x d K
 | .one (.agg ys)=>dAgg d fun d=>backLeafs hp ys d K
 | .tup _=>none
def backs (hp:Nat->Option Root):List Mode->List AV->List DV->(List (Nat×Option Root)->Option R)->Option R
 | .io::ms,x::xs,ds,K=>dHead ds fun d ds=>backAV hp x d fun up=>backs hp ms xs ds fun up'=>K (up++up')
 |_::ms,_::xs,ds,K=>backs hp ms xs ds K
 |_,_,ds,K=>dNil ds (K [])
def ownLV:LV->List Nat
 | .own id=>[id]
 |_=>[]
def ownAV:AV->List Nat
 | .one (.l x)=>match ptrOf x with
   |some id=>[id]
   |none=>ownLV x
 | .one (.agg xs)=>xs.flatMap ownLV
 | .tup _=>[]
def ioIds:List Mode->List AV->List Nat
 | .io::ms,x::xs=>ownAV x++ioIds ms xs
 |_::ms,_::xs=>ioIds ms xs
 |_,_=>[]
def fstL:List DL->Option Cls
 | []=>none
 | .sl c _::_=>some c
 |_::ds=>fstL ds
def fstD:Nat->List DV->Option Cls
 |n+1,.l (.sl c _)::_=>some c
 |n+1,.agg xs::ds=>match fstL xs with|some c=>some c|none=>fstD n ds
 |n+1,_::ds=>fstD n ds
 |_,_=>none
def ocOf (oc:Cls) (n:Nat) (rs:List DV):Cls:=match oc with
 | .lent=>match fstD n rs with|some .own=> .own|_=> .lent
 |c=>c
def Sig.to (g:Sig) (c:Cls):Sig:=⟨g.params,g.results,g.modes,c⟩
def evCall0 (G:Glob R) (hp:Nat->Option Root) (nx:Nat) (f:FuncId) (g:Sig) (xs:List AV) (K:Eff->Option R):Option R:=
 match toDVs G.tt hp g.modes g.params xs with
  |none=>none
  |some (ds,ks,io,rc)=>bif nodupB (ks++io)&&disjoint (ks++io) rc&&io==ioIds g.modes xs then G.Φ f ds fun rs=>
   fromDVs G.tt (ocOf g.oc g.results.length rs) g.results rs nx fun vs up nx rs'=>backs hp g.modes xs rs' fun up'=>K ⟨resAV vs,killUp ks++lentKill (ocOf g.oc g.results.length rs) rc++up++up',nx,[],ks++io++rc⟩
   else none
def innerArg:List Mode->List AV->Option (Nat×Nat×Nat×Nat)
 | .io::_,.one (.l (.inner id ver i f))::_=>some (id,ver,i,f)
 |_::ms,_::xs=>innerArg ms xs
 |_,_=>none
def putArg (n:Nat):List Mode->List AV->List AV
 | .io::_,.one (.l (.inner _ _ _ _))::xs=> .one (.l (.own n))::xs
 |_::ms,x::xs=>x::putArg n ms xs
 |_,xs=>xs
def evCall (G:Glob R) (hp:Nat->Option Root) (nx:Nat) (f:FuncId) (xs:List AV) (K:Eff->Option R):Option R:=
 match G.sig f with
 |none=>none
 |some g=>match innerArg g.modes xs with
  |none=>evCall0 G hp nx f g xs K
  |some (id,ver,i,fl)=>match hp id with
   |some (.row e v r)=>bif v==ver&&r.owned&&r.slAt fl&&Nat.blt i r.len then
    let take:List (Nat×Option Root):=[(id,some (.hole e v r i fl)),(nx,some (.row 0 0 (.ints .i64 (innerOf r i fl))))]
    evCall0 G (upd hp take) (nx+1) f g (putArg nx g.modes xs) fun E=>match upd (upd hp take) E.up nx,upd (upd hp take) E.up id with
     |some (.row _ _ (.ints .i64 l)),some (.hole _ _ _ _ _)=>match setInnerRow i fl l r with
      |some r'=>K ⟨E.v,take++E.up++[(id,some (.row e (v+1) r')),(nx,none)],E.nx,[],E.rc⟩
      |none=>none
     |_,_=>none
    else none
   |_=>none
def evBuiltin (G:Glob R) (hp:Nat->Option Root) (nx:Nat) (b:Builtin) (ts:List Nat) (xs:List AV) (K:Eff->Option R):Option R:=
 match b,xs,ts with
 | .len,[.one (.l (.s s))],[t]=>(match G.tt t with|some ⟨.str,_,_⟩=>ret1 nx (.l (.i .i64 s.size)) K|_=>none)
 | .len,[.one (.l x)],[t]=>(match elemTy G.tt t,lenOf hp x with
   |some _,some (n,rl,rc)=>K ⟨.l (.i .i64 n),[],nx,rl,rc⟩
   |_,_=>none)
 | .append,[s,x],[t,tx]=>evAppend G.tt hp nx t tx s x K
 | .copy,[d,s],[t,_]=>evCopy G.tt hp nx t d s K
 | .min,[.one (.l (.i k x)),.one (.l (.i k' y))],_=>bif decide (k=k') then ret1 nx (.l (.i k (if y<x then y else x))) K else none
 | .max,[.one (.l (.i k x)),.one (.l (.i k' y))],_=>bif decide (k=k') then ret1 nx (.l (.i k (if y>x then y else x))) K else none
 |_,_,_=>none
def tyOK (tt:TT) (t:Nat) (x:LV):Bool:=match x with
 | .b _=>(match tt t with|some ⟨.bool,_,_⟩=>true|_=>false)
 | .er _=>(match tt t with|some ⟨.err,_,_⟩=>true|_=>false)
 |_=>true
def nilOK (y:Operand):LV->Bool
 | .er _=>(match y with| .const _=>true|_=>false)
 |_=>true
def evOp (G:Glob R) (o:Op) (S:Nat->AV) (hp:Nat->Option Root) (nx:Nat) (K:Eff->Option R):Option R:=
 let rd:=St.rd G.nt S
 match o with
 | .move x| .assign x=>ret1 nx (rd x) K
 | .pick c a b=>match rd c with| .one (.l (.b x))=>(match x with|true=>ret1 nx (rd a) K|false=>ret1 nx (rd b) K)|_=>none
 | .alloc t=>evAlloc G.tt nx t K
 | .box t x=>evBox G.tt hp nx t (rd x) K
 | .build t ps=>evBuild G.tt hp nx t (ps.toList.map fun p=>(p.1,rd p.2)) K
 | .buildSlice t n ps=>evBuildSlice G.tt hp nx t n (ps.toList.map fun p=>(p.1,rd p.2)) K
 | .load t p=>evLoad G.tt hp nx t (rd p) K
 | .store t p x=>evStore G.tt hp nx t (rd p) (rd x) K
 | .nilCheck x=>match rd x with
   | .one (.l (.bptr id k))=>ret1 nx (.l (.bptr id k)) K
   |_=>none
 | .binOp op t x y _=>match rd x,rd y with
   | .one (.l x'),.one (.l y')=>bif tyOK G.tt t x' &&nilOK y y' then binOp op x' y' fun v=>ret1 nx (.l v) K else none
   |_,_=>none
 | .unOp op _ x=>match rd x with
   | .one (.l x)=>unOp op x fun v=>ret1 nx (.l v) K
   |_=>none
 | .convert a b x=>evConvert G.tt hp nx a b (rd x) K
 | .makeSlice t l c=>evMakeSlice G.tt nx t l c (rd l) K
 | .slice t x lo hi mx=>match mx with|none=>evSlice G.tt hp nx t (rd x) (lo.map rd) (hi.map rd) K|some _=>none
 | .fieldAddr t x f=>evFieldAddr G.tt hp nx t (rd x) f K
 | .indexAddr t x i=>evIndexAddr G.tt hp nx t (rd x) (rd i) K
 | .index t x i=>evIndex G.tt nx t (rd x) (rd i) K
 | .extract x j=>match rd x with| .tup xs=>(match xs[j]? with|some y=>ret1 nx (.one y) K|none=>none)|_=>none
 | .call c=>match c.callee with
   | .builtin b=>evBuiltin G hp nx b c.argTypes.toList (c.args.toList.map rd) K
   | .value f=>match rd f with| .one (.l (.fn f))=>evCall G hp nx f (c.args.toList.map rd) K|_=>none
   | .invoke _ _=>none
 |_=>none
def St.put (S:St) (d:Option Tmp) (v:AV):St:=match d with|none=>S|some d=>{S with sl:=fun j=>bif j==d then v else S.sl j}
def St.app (S:St) (d:Option Tmp) (E:Eff):St:={sl:=(S.put d E.v).sl,hp:=upd S.hp E.up,nx:=E.nx}
def dstOf (ops:Array Oper) (j:Nat):Option Tmp:=match ops[j]? with|some o=>o.dst|none=>none
structure Log where
 o:Oper
 w:List Nat
 ids:List Nat
def idLV:LV->List Nat
 | .own id=>[id]
 | .sub id _ _=>[id]
 | .inner id _ _ _=>[id]
 | .bptr id _=>[id]
 | .arr id _=>[id]
 | .eptr id _ _=>[id]
 | .iptr id _ _ _ _=>[id]
 |_=>[]
def idA1:A1->List Nat
 | .l x=>idLV x
 | .agg xs=>xs.flatMap idLV
def idAV:AV->List Nat
 | .one x=>idA1 x
 | .tup xs=>xs.flatMap idA1
def opIds (rd:Operand->AV) (o:Op):List Nat:=match o with
 | .move _=>[]
 | .assign _=>[]
 | .pick _ _ _=>[]
 | .extract _ _=>[]
 | .nilCheck _=>[]
 | .binOp _ _ _ _ _=>[]
 | .unOp _ _ _=>[]
 |o=>o.operands.toList.flatMap fun x=>idAV (rd x)
def cut (hp:Nat->Option Root) (ids:List Nat):Nat->Option Root:=fun j=>bif ids.elem j then hp j else none
def okUp (n:Nat) (E:Eff):Bool:=Nat.ble n E.nx&&E.up.all fun p=>Nat.blt p.1 E.nx
def writes (n:Nat) (E:Eff):List Nat:=E.up.map (·.1)++List.range' n (E.nx-n)
def skipEff (n:Nat):Eff:=⟨.l .undef,[],n,[],[]⟩
def evOper (G:Glob R) (ops:Array Oper) (draw:Bool) (o:Oper) (S:St) (K:St->Log->Option R):Option R:=
 let exec (S:St):Option R:=evOp G o.op S.sl (bif draw then cut S.hp (opIds (St.rd G.nt S.sl) o.op) else S.hp) S.nx fun E=>bif okUp S.nx E then K (S.app o.dst E) ⟨o,writes S.nx E,opIds (St.rd G.nt S.sl) o.op⟩ else none
 let skip (S:St):Option R:=K (S.app o.dst (skipEff S.nx)) ⟨o,[],[]⟩
 bif (match o.dst with|some d=>Nat.blt d G.nt|none=>true) then match o.guard with
 |none=>exec S
 |some (j,want)=>match dstOf ops j with
  |none=>none
  |some t=>bif Nat.blt t G.nt then match S.sl t with
   | .one (.l (.b x))=>(match x with
     |true=>bif want then exec (S.put (some t) (.l (.b true))) else skip (S.put (some t) (.l (.b true)))
     |false=>bif want then skip (S.put (some t) (.l (.b false))) else exec (S.put (some t) (.l (.b false))))
   | .one (.l .undef)=>skip S
   |_=>none
   else none
 else none
def evOps (G:Glob R) (ops:Array Oper) (draw:Bool):List Oper->St->List Log->(St->List Log->Option R)->Option R
 | [],S,L,K=>K S L
 |o::rest,S,L,K=>evOper G ops draw o S fun S l=>evOps G ops draw rest S (l::L) K
def bindsOf (acc:List Nat) (o:Oper):Nat:=o.after.toList.foldr (fun e s=>bif Region.binds .any e then (2^e.on ||| (acc[e.on]?.getD 0) ||| s) else s) 0
def befores:List Nat->List Oper->List Nat
 |acc,[]=>acc
 |acc,o::ops=>befores (acc++[bindsOf acc o]) ops
def indep (ops:Array Oper) (a b:Log):Bool:=
 a.o.apart ops b.o&&b.o.apart ops a.o&&disjoint a.w b.w&&disjoint a.w b.ids&&disjoint b.w a.ids
def indeps (ops:Array Oper) (bk:Nat) (lk:Log):Nat->List Log->Bool
 |_,[]=>true
 |i,l::ls=>(Nat.testBit bk i||indep ops l lk)&&indeps ops bk lk (i+1) ls
def drawOk (ops:Array Oper):List Log->List Nat->List Log->Bool
 |_,_,[]=>true
 |_,[],_=>false
 |done,b::bs,l::ls=>indeps ops b l 0 done&&l.o.after.toList.all (fun e=> !Region.binds .any e||Nat.blt e.on done.length)&&drawOk ops (done++[l]) bs ls
def evRegion (G:Glob R) (ops:Array Oper) (draw:Bool) (S:St) (K:St->Option R):Option R:=
 evOps G ops draw ops.toList S [] fun S L=>bif draw then (bif drawOk ops [] (befores [] ops.toList) L.reverse then K S else none) else K S
def idx:Nat->List Nat->Option Nat
 |_,[]=>none
 |x,y::l=>bif x==y then some 0 else (match idx x l with|some i=>some (i+1)|none=>none)
def renLV (olds:List Nat) (hp:Nat->Option Root):LV->LV
 | .own id=>match idx id olds with|some j=> .own j|none=> .any
 | .sub id lo hi=>match idx id olds with|some j=> .sub j lo hi|none=> .any
 | .bptr id k=>match idx id olds with|some j=> .bptr j k|none=> .any
 | .eptr id i f=>match idx id olds with|some j=> .eptr j i f|none=> .any
 | .arr id n=>match idx id olds with|some j=> .arr j n|none=> .any
 | .inner _ _ _ _=> .any
 | .iptr _ _ _ _ _=> .any
 |x=>x
def renA1 (olds:List Nat) (hp:Nat->Option Root):A1->A1
 | .l x=> .l (renLV olds hp x)
 | .agg xs=> .agg (xs.map (renLV olds hp))
def renAV (olds:List Nat) (hp:Nat->Option Root):AV->AV
 | .one x=> .one (renA1 olds hp x)
 | .tup xs=> .tup (xs.map (renA1 olds hp))
def renRoot (olds:List Nat) (hp:Nat->Option Root):Root->Root
 | .row _ _ r=> .row 0 0 r
 | .hole _ _ r i f=> .hole 0 0 r i f
 | .box _ cells=> .box 0 (cells.map (renLV olds hp))
 | .ghost=> .ghost
def hpOf (l:List (Option Root)) (j:Nat):Option Root:=match l[j]? with|some r=>r|none=>none
def slOf (l:List (Nat×AV)) (j:Nat):AV:=match look l j with|some v=>v|none=> .l .any
def pairUp:List Nat->List AV->List (Nat×AV)
 |t::ts,v::vs=>(t,v)::pairUp ts vs
 |_,_=>[]
def stOf (live:List Nat) (vs:List AV) (hs:List (Option Root)):St:=⟨slOf (pairUp live vs),hpOf hs,hs.length⟩
def reachLV (hp:Nat->Option Root):Nat->LV->List Nat->List Nat
 |d,x,acc=>match (match x with| .own id=>some id| .sub id _ _=>some id| .bptr id _=>some id| .eptr id _ _=>some id| .arr id _=>some id|_=>none) with
  |none=>acc
  |some id=>bif acc.elem id then acc else match hp id with
   |none=>acc
   |some (.box _ cells)=>match d with
    |0=>acc++[id]
    |d+1=>cells.foldl (fun acc x=>reachLV hp d x acc) (acc++[id])
   |some _=>acc++[id]
def reachAV (hp:Nat->Option Root) (x:AV) (acc:List Nat):List Nat:=match x with
 | .one (.l x)=>reachLV hp 3 x acc
 | .one (.agg xs)=>xs.foldl (fun acc x=>reachLV hp 3 x acc) acc
 | .tup _=>acc
def oldsOf (live:List Nat) (S:St):List Nat:=live.foldl (fun acc t=>reachAV S.hp (S.sl t) acc) []
def normV (live:List Nat) (S:St):List AV:=live.map fun t=>renAV (oldsOf live S) S.hp (S.sl t)
def normH (live:List Nat) (S:St):List (Option Root):=(oldsOf live S).map fun id=>(S.hp id).map (renRoot (oldsOf live S) S.hp)
def frzLeaf (hp:Nat->Option Root):LV->Option (LV×Option Nat)
 | .own id=>match hp id with
   |some (.row _ _ r)=>some (.val false r.frz,some id)
   |_=>none
 | .val _ r=>some (.val false r,none)
 |_=>none
def dropR (hp:Nat->Option Root):Option Nat->Nat->Option Root
 |some id=>fun j=>bif j==id then none else hp j
 |none=>hp
def frzA (t j:Nat) (S:St):St:=match S.sl t with
 | .one (.agg xs)=>match xs[j]? with
   |some x=>match frzLeaf S.hp x with
    |some (y,o)=>⟨fun i=>bif i==t then .one (.agg (xs.set j y)) else S.sl i,dropR S.hp o,S.nx⟩
    |none=>S
   |none=>S
 | .one (.l (.bptr id _))=>match S.hp id with
   |some (.box bt cells)=>match cells[j]? with
    |some x=>match frzLeaf S.hp x with
     |some (y,o)=>⟨S.sl,fun i=>bif i==id then some (.box bt (cells.set j y)) else dropR S.hp o i,S.nx⟩
     |none=>S
    |none=>S
   |_=>S
 |_=>S
def frz1 (t:Nat) (S:St):St:=match S.sl t with
 | .one (.l (.own id))=>match S.hp id with
   |some (.row _ _ r)=>⟨fun j=>bif j==t then .one (.l (.val false r.frz)) else S.sl j,fun j=>bif j==id then none else S.hp j,S.nx⟩
   |_=>S
 | .one (.l (.sub id lo hi))=>match S.hp id with
   |some (.row _ _ r)=>⟨fun j=>bif j==t then .one (.l (.val false ((r.frz.take hi).drop lo))) else S.sl j,fun j=>bif j==id then none else S.hp j,S.nx⟩
   |_=>S
 | .one (.l (.val _ r))=>⟨fun j=>bif j==t then .one (.l (.val false r)) else S.sl j,S.hp,S.nx⟩
 | .one (.agg xs)=>(List.range xs.length).foldl (fun S j=>frzA t j S) S
 | .one (.l (.bptr id _))=>match S.hp id with
   |some (.box _ cells)=>(List.range cells.length).foldl (fun S j=>frzA t j S) S
   |_=>S
 |_=>S
def rowNo (n:Nat):Row:=match n%8 with
 |0=> .ints .i64 []
 |1=> .ints .u8 []
 |2=> .bools []
 |3=> .strs []
 |4=> .rows true []
 |_=> .recs ((List.range (n/8%64)).map fun i=>Nat.testBit (n/512) i) true []
def matAt (t j:Nat) (r:Row) (S:St):St:=match S.sl t with
 | .one (.l .nil)=>⟨fun i=>bif i==t then .one (.l (.own S.nx)) else S.sl i,fun i=>bif i==S.nx then some (.row 0 0 r) else S.hp i,S.nx+1⟩
 | .one (.agg xs)=>match xs[j]? with
   |some .nil=>⟨fun i=>bif i==t then .one (.agg (xs.set j (.own S.nx))) else S.sl i,fun i=>bif i==S.nx then some (.row 0 0 r) else S.hp i,S.nx+1⟩
   |_=>S
 | .one (.l (.bptr id _))=>match S.hp id with
   |some (.box bt cells)=>match cells[j]? with
    |some .nil=>⟨S.sl,fun i=>bif i==id then some (.box bt (cells.set j (.own S.nx))) else bif i==S.nx then some (.row 0 0 r) else S.hp i,S.nx+1⟩
    |_=>S
   |_=>S
 |_=>S
def matN (x:Nat) (S:St):St:=matAt (x%4096) (x/4096%64) (rowNo (x/262144)) S
def frzS (ts:List Nat) (S:St):St:=ts.foldl (fun S t=>bif Nat.blt 999999999 t then matN (t-1000000000) S else frz1 t S) S
def firstRegion:Code->Option Nat
 | .region id _ _=>some id
 | .seq a b=>match firstRegion a with|some i=>some i|none=>firstRegion b
 | .cond _ a b=>match firstRegion a with|some i=>some i|none=>firstRegion b
 | .block _ b=>firstRegion b
 | .loop b=>firstRegion b
 |_=>none
def liveAt (live:List (Nat×List Nat)) (c:Code):List Nat:=match firstRegion c with|some i=>(look live i).getD []|none=>[]
def liveOut (live:List (Nat×List Nat)) (c:Code):List Nat:=match firstRegion c with|some i=>(look live (i+100000)).getD []|none=>[]
def frzAt (live:List (Nat×List Nat)) (c:Code):List Nat:=match firstRegion c with|some i=>(look live (i+200000)).getD []|none=>[]
def frzOut (live:List (Nat×List Nat)) (c:Code):List Nat:=match firstRegion c with|some i=>(look live (i+300000)).getD []|none=>[]
def canon (live:List Nat) (S:St):St:=stOf live (normV live S) (normH live S)
abbrev LTab (R:Type):=Nat->(X->St->Option R)->List AV->List (Option Root)->Option R
def keyOf (c:Code):Nat:=match firstRegion c with|some i=>i|none=>0
def seqK (f:(X->St->Option R)->St->Option R) (K:X->St->Option R):X->St->Option R:=fun x S=>match x with| .normal=>f K S|x=>K x S
def blockK (id:Nat) (K:X->St->Option R):X->St->Option R:=fun x S=>match x with| .exit j=>(bif j==id then K .normal S else K (.exit j) S)|x=>K x S
def ev (G:Glob R) (live:List (Nat×List Nat)) (Λ:LTab R):Code->(X->St->Option R)->St->Option R
 | .skip,K,S=>K .normal S
 | .region _ ops draw,K,S=>evRegion G ops draw S (K .normal)
 | .seq a b,K,S=>ev G live Λ a (seqK (ev G live Λ b) K) S
 | .cond c a b,K,S=>match St.rd G.nt S.sl c with
   | .one (.l (.b x))=>(match x with
     |true=>ev G live Λ a K (match c with| .tmp t=>S.put (some t) (.l (.b true))|_=>S)
     |false=>ev G live Λ b K (match c with| .tmp t=>S.put (some t) (.l (.b false))|_=>S))
   |_=>none
 | .block id body,K,S=>ev G live Λ body (blockK id K) S
 | .loop body,K,S=>Λ (keyOf body) K (normV (liveAt live body) (frzS (frzAt live body) S)) (normH (liveAt live body) (frzS (frzAt live body) S))
 | .exit id,K,S=>K (.exit id) S
 | .ret,K,S=>K .ret S
 |_,_,_=>none
def iter {A:Type} (step:(A->Option R)->A->Option R):Nat->A->Option R
 |0,_=>none
 |n+1,a=>step (iter step n) a
def inLeaf (tt:TT) (t:Nat) (d:DL) (nx:Nat):Option (LV×List (Nat×Option Root)×Nat):=
 match d with
 | .i k n=>some (.i k n,[],nx)
 | .b x=>some (.b x,[],nx)
 | .s x=>some (.s x,[],nx)
 | .er x=>some (.er x,[],nx)
 | .sl .frz r=>some (.val true r,[],nx)
 | .sl .lent r=>some (.val false r,[],nx)
 | .sl .own r=>match elemTy tt t with
   |some e=>some (.own nx,[(nx,some (.row e 0 r))],nx+1)
   |none=>none
def inLeafs (tt:TT):List Nat->List DL->Nat->Option (List LV×List (Nat×Option Root)×Nat)
 | [],[],nx=>some ([],[],nx)
 |t::ts,d::ds,nx=>match inLeaf tt t d nx with
  |some (x,up,nx)=>match inLeafs tt ts ds nx with
   |some (xs,up',nx)=>some (x::xs,up++up',nx)
   |none=>none
  |none=>none
 |_,_,_=>none
def inArg (tt:TT) (t:Nat) (d:DV) (nx:Nat):Option (AV×List (Nat×Option Root)×Nat):=
 match d with
 | .l d=>match inLeaf tt t d nx with|some (x,up,nx)=>some (.l x,up,nx)|none=>none
 | .agg ds=>match inLeafs tt (leafTypes tt depth t) ds nx with|some (xs,up,nx)=>some (.one (.agg xs),up,nx)|none=>none
 | .ptr ds=>match tt t with
   |some ⟨.ptr e,_,_⟩=>match inLeafs tt (leafTypes tt depth e) ds (nx+1) with
    |some (xs,up,nx')=>some (.l (.bptr nx 0),up++[(nx,some (.box e xs))],nx')
    |none=>none
   |_=>none
def inArgs (tt:TT):List Nat->List DV->Nat->Option (List AV×List (Nat×Option Root)×Nat)
 | [],[],nx=>some ([],[],nx)
 |t::ts,d::ds,nx=>match inArg tt t d nx with
  |some (x,up,nx)=>match inArgs tt ts ds nx with
   |some (xs,up',nx)=>some (x::xs,up++up',nx)
   |none=>none
  |none=>none
 |_,_,_=>none
def numbered:Nat->List AV->List (Nat×AV)
 |_,[]=>[]
 |i,x::xs=>(i,x)::numbered (i+1) xs
def outLeaf (tt:TT) (hp:Nat->Option Root) (oc:Cls) (t:Nat) (x:LV):Option (DL×List Nat×List Nat):=
 match x with
 | .i k n=>some (.i k n,[],[])
 | .b x=>some (.b x,[],[])
 | .s x=>some (.s x,[],[])
 | .er x=>some (.er x,[],[])
 | .nil=>match elemTy tt t with
   |some e=>match emptyRow tt e with
    |some r=>(match oc with| .own=>some (.sl .own r,[],[])|c=>some (.sl c r.frz,[],[]))
    |none=>none
   |none=>none
 | .own id=>match hp id with
   |some (.row _ _ r)=>(match oc with
    | .own=>bif r.owned then some (.sl .own r,[id],[]) else none
    | .frz=>bif r.owned then some (.sl .frz r.frz,[],[id]) else none
    | .lent=>some (.sl .lent r.frz,[],[id]))
   |_=>none
 | .sub id lo hi=>match hp id with
   |some (.row _ _ r)=>(match oc with
    | .own=>(bif Nat.beq lo 0&&r.owned then some (.sl .own (r.take hi),[id],[]) else none)
    | .frz=>(bif r.owned then some (.sl .frz ((r.frz.take hi).drop lo),[],[id]) else none)
    |_=>none)
   |_=>none
 | .val p r=>(match oc with| .own=>none| .frz=>(bif p then some (.sl .frz r,[],[]) else none)| .lent=>some (.sl .lent r,[],[]))
 |_=>none
def outLeafs (tt:TT) (hp:Nat->Option Root) (oc:Cls):List Nat->List LV->Option (List DL×List Nat×List Nat)
 | [],[]=>some ([],[],[])
 |t::ts,x::xs=>match outLeaf tt hp oc t x with
  |some (d,ks,fk)=>match outLeafs tt hp oc ts xs with
   |some (ds,ks',fk')=>some (d::ds,ks++ks',fk++fk')
   |none=>none
  |none=>none
 |_,_=>none
def outArg (tt:TT) (hp:Nat->Option Root) (oc:Cls) (t:Nat) (x:AV):Option (DV×List Nat×List Nat):=
 match x with
 | .one (.l x)=>match ptrOf x with
  |some id=>match boxAt tt hp t id with|some ds=>some (.ptr ds,[id],[])|none=>none
  |none=>match outLeaf tt hp oc t x with|some (d,ks,fk)=>some (.l d,ks,fk)|none=>none
 | .one (.agg xs)=>match outLeafs tt hp oc (leafTypes tt depth t) xs with|some (ds,ks,fk)=>some (.agg ds,ks,fk)|none=>none
 | .tup _=>none
def outArgs (tt:TT) (hp:Nat->Option Root) (oc:Cls):List Nat->List AV->Option (List DV×List Nat×List Nat)
 | [],[]=>some ([],[],[])
 |t::ts,x::xs=>match outArg tt hp oc t x with
  |some (d,ks,fk)=>match outArgs tt hp oc ts xs with
   |some (ds,ks',fk')=>some (d::ds,ks++ks',fk++fk')
   |none=>none
  |none=>none
 |_,_=>none
def resVals (tt:TT) (nt:Nat) (S:St):List ResultVar->Option (List AV)
 | []=>some []
 | .tmp t::rs=>bif Nat.blt t nt then (match resVals tt nt S rs with|some xs=>some (S.sl t::xs)|none=>none) else none
 | .cell p t::rs=>bif Nat.blt p nt&&isStruct tt t then (match S.sl p with
   | .one (.l (.bptr id 0))=>match S.hp id with
     |some (.box _ cells)=>bif cells.length==sizeOf' tt t then (match resVals tt nt S rs with|some xs=>some (.one (.agg cells)::xs)|none=>none) else none
     |_=>none
   |_=>none) else none
def ioArgs:Nat->List Mode->List Nat->List (Nat×Nat)
 |i,m::ms,t::ts=>(match m with| .io=>[(t,i)]|_=>[])++ioArgs (i+1) ms ts
 |_,_,_=>[]
def finish (tt:TT) (g:Sig) (fn:Func) (S:St) (K:List DV->Option R):Option R:=
 match resVals tt fn.ntmps S fn.results.toList with
 |none=>none
 |some vs=>match outArgs tt S.hp g.oc g.results vs with
  |none=>none
  |some (ds,ks,fk)=>
   let ios:=ioArgs fn.ntmps g.modes g.params
   match outArgs tt S.hp .own (ios.map (·.1)) (ios.map fun p=>S.sl p.2) with
   |none=>none
   |some (ds',ks',fk')=>bif nodupB (ks++ks' ++(fk++fk')) then K (ds++ds') else none
def mixAt (live:List (Nat×List Nat)):Bool:=match look live 400000 with|some _=>true|none=>false
def finishM (mix:Bool) (tt:TT) (g:Sig) (fn:Func) (S:St) (K:List DV->Option R):Option R:=bif mix then (match finish (R:=List DV) tt (g.to .own) fn S some with
 |some rs=>K rs
 |none=>finish tt g fn S K) else finish tt g fn S K
def evFn (G:Glob R) (live:List (Nat×List Nat)) (Λ:LTab R) (g:Sig) (fn:Func) (ds:List DV) (K:List DV->Option R):Option R:=
 match inArgs G.tt g.params ds 0,fn.body with
 |some (xs,up,nx),some body=>
  ev G live Λ body (fun x S=>match x with
   | .exit _=>none
   |_=>finishM (mixAt live) G.tt g fn S K) ⟨slOf (bif noIO g.modes then numbered 0 xs else numbered 0 xs++numbered fn.ntmps xs),upd (fun _=>none) up,nx⟩
 |_,_=>none
def aHead (vs:List AV) (K:AV->List AV->Option R):Option R:=match vs with|v::vs=>K v vs|_=>none
def aNil (vs:List AV) (K:Option R):Option R:=match vs with| []=>K|_=>none
def hHead (hs:List (Option Root)) (K:Option Root->List (Option Root)->Option R):Option R:=match hs with|r::hs=>K r hs|_=>none
def hNil (hs:List (Option Root)) (K:Option R):Option R:=match hs with| []=>K|_=>none
def vL (v:AV) (K:LV->Option R):Option R:=match v with| .one (.l x)=>K x|_=>none
def vAgg (v:AV) (K:List LV->Option R):Option R:=match v with| .one (.agg x)=>K x|_=>none
def cHead (xs:List LV) (K:LV->List LV->Option R):Option R:=match xs with|x::xs=>K x xs|_=>none
def cNil (xs:List LV) (K:Option R):Option R:=match xs with| []=>K|_=>none
def lI (k:IntKind) (x:LV) (K:Int->Option R):Option R:=match x with| .i k' n=>(bif decide (k=k') then K n else none)|_=>none
def lB (x:LV) (K:Bool->Option R):Option R:=match x with| .b b=>K b|_=>none
def lS (x:LV) (K:ByteArray->Option R):Option R:=match x with| .s s=>K s|_=>none
def lE (x:LV) (K:Bool->Option R):Option R:=match x with| .er b=>K b|_=>none
def lOwn (id:Nat) (x:LV) (K:Option R):Option R:=match x with| .own j=>(bif j==id then K else none)|_=>none
def lSub (id:Nat) (x:LV) (K:Nat->Nat->Option R):Option R:=match x with| .sub j lo hi=>(bif j==id then K lo hi else none)|_=>none
def lPtr (id k:Nat) (x:LV) (K:Option R):Option R:=match x with| .bptr j k'=>(bif j==id&&k' ==k then K else none)|_=>none
def lArr (id n:Nat) (x:LV) (K:Option R):Option R:=match x with| .arr j m=>(bif j==id&&m==n then K else none)|_=>none
def lAny (x:LV) (K:Option R):Option R:=match x with| .any=>K|_=>none
def lNilS (x:LV) (K:Option R):Option R:=match x with| .nil=>K|_=>none
def lVal (p:Bool) (x:LV) (K:Row->Option R):Option R:=match x with| .val p' r=>(bif p' ==p then K r else none)|_=>none
def rwInts (k:IntKind) (r:Row) (K:List Int->Option R):Option R:=match r with| .ints k' l=>(bif decide (k=k') then K l else none)|_=>none
def rwBools (r:Row) (K:List Bool->Option R):Option R:=match r with| .bools l=>K l|_=>none
def rwStrs (r:Row) (K:List ByteArray->Option R):Option R:=match r with| .strs l=>K l|_=>none
def rwRows (o:Bool) (r:Row) (K:List (List Int)->Option R):Option R:=match r with| .rows o' l=>(bif o' ==o then K l else none)|_=>none
def rwRecs (sg:List Bool) (o:Bool) (r:Row) (K:List (List Leaf)->Option R):Option R:=match r with| .recs sg' o' l=>(bif sg' ==sg&&o' ==o then K l else none)|_=>none
def hRow (x:Option Root) (K:Row->Option R):Option R:=match x with|some (.row 0 0 r)=>K r|_=>none
def hBox (x:Option Root) (K:List LV->Option R):Option R:=match x with|some (.box 0 cells)=>K cells|_=>none
end
end Go.Proofs.YtbmmhdmljajcfaaGreatDoor.V
