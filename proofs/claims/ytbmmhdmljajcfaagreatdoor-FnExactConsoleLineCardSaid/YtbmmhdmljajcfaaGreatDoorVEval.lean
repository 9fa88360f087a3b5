/- The abstract evaluator and its soundness: part VEval. Conditions: as each section says. -/
import Derived.Below
import Derived.OwnWalk
import Derived.Orders
set_option linter.unusedVariables false
set_option linter.unusedSimpArgs false
namespace Go.Proofs.YtbmmhdmljajcfaaGreatDoor.V
open Go
abbrev BA:=ByteArray
abbrev bE:=ByteArray.empty
abbrev aa:= @Int.toNat_natCast
abbrev ab:= @List.length_cons
abbrev af:= @Option.some.injEq
abbrev aA:= @Prod.mk.injEq
abbrev ao:= @of_decide_eq_true
abbrev ai:= @Nat.le_refl
abbrev ah:= @List.drop_zero
abbrev au:= @List.length_append
abbrev aj:= @List.getElem_mem
abbrev ay:= @Bool.and_eq_true
abbrev an:= @cond_false
abbrev ak:= @cond_true
abbrev aq:= @ByteArray.size_append
abbrev cL:= @List.mem_cons
abbrev aX:= @Int.tmod_eq_emod_of_nonneg
abbrev aE:= @eq_of_beq
abbrev aY:= @List.foldl_cons
abbrev aZ:= @List.drop_eq_nil_of_le
abbrev aL:= @List.getD_eq_getElem?_getD
abbrev aO:= @Option.bind_some
abbrev bf:= @Nat.eq_zero_or_pos
abbrev aP:= @List.length_take
abbrev aV:= @Bool.eq_false_or_eq_true
abbrev bx:= @Nat.le_trans
abbrev be:= @List.take_succ_eq_append_getElem
abbrev bG:= @List.eq_nil_of_length_eq_zero
abbrev aM:= @List.nil_append
abbrev bp:= @List.append_assoc
abbrev bC:= @Array.length_toList
abbrev aD:= @if_neg
abbrev aS:= @if_pos
abbrev bD:= @Nat.le_of_ble_eq_true
abbrev du:= @List.mem_map
abbrev cz:= @List.length_singleton
abbrev bR:= @Nat.lt_of_lt_of_le
abbrev cm:= @List.append_nil
abbrev bM:= @List.map_cons
abbrev cA:= @List.not_mem_nil
abbrev b_:= @List.take_append_drop
abbrev fg:= @List.length_set
abbrev aw:= @List.getElem?_eq_getElem
abbrev ca:= @List.length_map
abbrev cO:= @List.length_drop
abbrev cG:= @beq_iff_eq
abbrev dH:= @decide_eq_true_eq
inductive TK where
 |int (k:IntKind)|bool|str|slice (e:Nat)|struct (fs:List (Nat×Nat))|array (n e:Nat)|ptr (e:Nat)|err|other
structure TE where
 k:TK
 size:Nat
 bytes:Nat
def look {α:Type}:List (Nat×α)->Nat->Option α
 | [],_=>none
 | (j,x)::l,i=>bif j==i then some x else look l i
abbrev TT:=Nat->Option TE
abbrev LI:=List Int
abbrev LL:=List (List Int)
abbrev t2 {A B C:Type} (r:A×B×C):C:=r.2.2
abbrev t3 {A B C D:Type} (r:A×B×C×D):D:=r.2.2.2
abbrev t4 {A B C D E:Type} (r:A×B×C×D×E):E:=r.2.2.2.2
abbrev t5 {A B C D E F:Type} (r:A×B×C×D×E×F):F:=r.2.2.2.2.2
abbrev t6 {A B C D E F G:Type} (r:A×B×C×D×E×F×G):G:=r.2.2.2.2.2.2
abbrev t7 {A B C D E F G H:Type} (r:A×B×C×D×E×F×G×H):H:=r.2.2.2.2.2.2.2
abbrev t8 {A B C D E F G H I:Type} (r:A×B×C×D×E×F×G×H×I):I:=r.2.2.2.2.2.2.2.2
abbrev t9 {A B C D E F G H I J:Type} (r:A×B×C×D×E×F×G×H×I×J):J:=r.2.2.2.2.2.2.2.2.2
inductive iQ where
 |int (n:Int)|ints (l:List Int)
def gi (r:List iQ) (f:Nat):Int:=match r[f]? with|some (.int n)=>n|_=>0
def gl (r:List iQ) (f:Nat):List Int:=match r[f]? with|some (.ints l)=>l|_=>[]
inductive Row where
 |ints (k:IntKind) (l:List Int)
 |eQ (l:List Bool)
 |strs (l:List BA)
 |rows (own:Bool) (l:List (List Int))
 |ek (sg:List Bool) (own:Bool) (l:List (List iQ))
def Row.len:Row->Nat
 | .ints _ l=>l.length
 | .eQ l=>l.length
 | .strs l=>l.length
 | .rows _ l=>l.length
 | .ek _ _ l=>l.length
def Row.size:Row->Nat
 | .ek sg _ _=>sg.length
 |_=>1
inductive Cell where
 |sc (v:Value)|sl (own:Bool) (l:List Int)|free
def cR (own:Bool) (r:List iQ):Nat->List Bool->List Cell
 |_,[]=>[]
 |f,true::sg=> .sl own (gl r f)::cR own r (f+1) sg
 |f,false::sg=> .sc (.int .i64 (gi r f))::cR own r (f+1) sg
def Row.cells:Row->List Cell
 | .ints k l=>l.map fun n=> .sc (.int k n)
 | .eQ l=>l.map fun x=> .sc (.bool x)
 | .strs l=>l.map fun x=> .sc (.string x)
 | .rows own l=>l.map fun x=> .sl own x
 | .ek sg own l=>l.flatMap fun r=>cR own r 0 sg
def Row.jw:Row->Row
 | .rows _ l=> .rows false l
 | .ek sg _ l=> .ek sg false l
 |r=>r
def Row.take (n:Nat):Row->Row
 | .ints k l=> .ints k (l.take n)
 | .eQ l=> .eQ (l.take n)
 | .strs l=> .strs (l.take n)
 | .rows own l=> .rows own (l.take n)
 | .ek sg own l=> .ek sg own (l.take n)
def Row.drop (n:Nat):Row->Row
 | .ints k l=> .ints k (l.drop n)
 | .eQ l=> .eQ (l.drop n)
 | .strs l=> .strs (l.drop n)
 | .rows own l=> .rows own (l.drop n)
 | .ek sg own l=> .ek sg own (l.drop n)
def Row.ur:Row->Bool
 | .ek _ _ _=>true
 |_=>false
def Row.deep:Row->Bool
 | .rows _ _=>true
 | .ek _ _ _=>true
 |_=>false
def Row.owned:Row->Bool
 | .rows own _=>own
 | .ek _ own _=>own
 |_=>true
inductive LV where
 |any|undef
 |i (k:IntKind) (n:Int)|b (x:Bool)|s (x:BA)
 |nil
 |val (p:Bool) (r:Row)
 |own (id:Nat)
 |sub (id lo hi:Nat)
 |inner (id ver i f:Nat)
 |je (id k:Nat)
 |arr (id n:Nat)
 |vc (id i f:Nat)
 |Kh (p:Bool) (r:Row) (i f:Nat)
 |CO (id ver i f j:Nat)
 |er (isNil:Bool)
 |fn (f:Nat)
inductive A1 where
 |l (x:LV)|agg (xs:List LV)
inductive AV where
 |one (x:A1)|KY (xs:List A1)
abbrev AV.l (x:LV):AV:= .one (.l x)
inductive aQ where
 |row (e ver:Nat) (r:Row)
 |hole (e ver:Nat) (r:Row) (i f:Nat)
 |box (t:Nat) (cells:List LV)
 |gW
structure St where
 sl:Nat->AV
 hp:Nat->Option aQ
 nx:Nat
inductive X where
 |normal|exit (id:Nat)|ret
inductive o8 where
 |own|jw|bi
 deriving DecidableEq
inductive DL where
 |i (k:IntKind) (n:Int)|b (x:Bool)|s (x:BA)
 |sl (c:o8) (r:Row)
 |er (isNil:Bool)
inductive DV where
 |l (x:DL)|agg (xs:List DL)|ptr (xs:List DL)
inductive Mode where
 |qp|Hp|io|jw
 deriving DecidableEq
structure kG where
 v:AV
 up:List (Nat×Option aQ)
 nx:Nat
 rl:List Nat
 rc:List Nat
section
variable {R:Type}
def bY (p:Bool) (x:Option R):Option R:=bif p then x else none
abbrev Ya (R:Type):=FuncId->List DV->(List DV->Option R)->Option R
def bn (tt:TT):Nat->Nat->List Nat
 |0,t=>[t]
 |d+1,t=>match tt t with
  |some ⟨.struct fs,_,_⟩=>fs.flatMap fun f=>bn tt d f.2
  |_=>[t]
def depth:Nat:=6
def CR (tt:TT) (t:Nat):Bool:=match tt t with|some ⟨.slice _,_,_⟩=>true|_=>false
def xT (tt:TT) (t:Nat):Bool:=match tt t with|some ⟨.slice _,_,_⟩=>true|some ⟨.int k,_,_⟩=>decide (k= .i64)|_=>false
def eT (tt:TT) (e:Nat):Option Row:=match tt e with
 |some ⟨.int k,_,_⟩=>some (.ints k [])
 |some ⟨.bool,_,_⟩=>some (.eQ [])
 |some ⟨.str,_,_⟩=>some (.strs [])
 |some ⟨.slice _,_,_⟩=>some (.rows true [])
 |some ⟨.struct _,_,_⟩=>bif (bn tt depth e).all (xT tt) then some (.ek ((bn tt depth e).map (CR tt)) true []) else none
 |_=>none
def ry (tt:TT) (t:Nat):LV:=match tt t with
 |some ⟨.int k,_,_⟩=> .i k 0
 |some ⟨.bool,_,_⟩=> .b false
 |some ⟨.str,_,_⟩=> .s ByteArray.empty
 |some ⟨.slice _,_,_⟩=> .nil
 |some ⟨.err,_,_⟩=> .er true
 |_=> .any
def BH:Bool->iQ
 |true=> .ints []
 |false=> .int 0
def jR (n:Nat):Row->Row
 | .ints k _=> .ints k (List.replicate n 0)
 | .eQ _=> .eQ (List.replicate n false)
 | .strs _=> .strs (List.replicate n ByteArray.empty)
 | .rows _ _=> .rows true (List.replicate n [])
 | .ek sg _ _=> .ek sg true (List.replicate n (sg.map BH))
def Ks:Value->LV
 | .int k n=> .i k n
 | .bool x=> .b x
 | .string x=> .s x
 | .slice none 0 0=> .nil
 | .nilIface=> .er true
 |_=> .any
def St.rd (nt:Nat) (S:Nat->AV):Operand->AV
 | .tmp t=>bif Nat.blt t nt then S t else .l .any
 | .const v=> .l (Ks v)
 | .func f=> .l (.fn f)
 | .global _=> .l .any
def ku (hp:Nat->Option aQ):LV->Option (Row×List Nat)
 | .val _ r=>some (r,[])
 | .own id=>match hp id with|some (.row _ _ r)=>some (r.jw,[id])|_=>none
 | .sub id lo hi=>match hp id with|some (.row _ _ r)=>some (((r.jw).take hi).drop lo,[id])|_=>none
 | .inner id ver i f=>match hp id with
   |some (.row _ v (.rows _ l))=>bif v==ver then some (.ints .i64 (l.getD i []),[id]) else none
   |some (.row _ v (.ek _ _ l))=>bif v==ver then some (.ints .i64 (gl (l.getD i []) f),[id]) else none
   |_=>none
 |_=>none
def ny (hp:Nat->Option aQ) (id:Nat):Option Row:=match hp id with
 |some (.row _ _ r)=>some r
 |some (.hole _ _ r _ _)=>some r
 |_=>none
def lenOf (hp:Nat->Option aQ):LV->Option (Nat×List Nat×List Nat)
 | .nil=>some (0,[],[])
 | .val _ r=>some (r.len,[],[])
 | .own id=>match ny hp id with|some r=>some (r.len,[id],[])|none=>none
 | .sub id lo hi=>match ny hp id with|some r=>some (hi-lo,[id],[])|none=>none
 | .inner id ver i f=>match hp id with
   |some (.row _ v (.rows _ l))=>bif v==ver then some ((l.getD i []).length,[],[id]) else none
   |some (.row _ v (.ek _ _ l))=>bif v==ver then some ((gl (l.getD i []) f).length,[],[id]) else none
   |_=>none
 |_=>none
def storable (hp:Nat->Option aQ):LV->Bool
 | .any=>false
 | .undef=>false
 | .own id=>(ny hp id).isSome
 | .sub id _ _=>(ny hp id).isSome
 | .vc id _ _=>(ny hp id).isSome
 | .arr id _=>(ny hp id).isSome
 | .inner id ver _ _=>(match hp id with|some (.row _ v _)=>v==ver|_=>false)
 | .CO id ver _ _ _=>(match hp id with|some (.row _ v _)=>v==ver|_=>false)
 |_=>true
def qj (hp:Nat->Option aQ):AV->Option (List LV)
 | .one (.l x)=>bif storable hp x then some [x] else none
 | .one (.agg xs)=>bif xs.all (storable hp) then some xs else none
 | .KY _=>none
def OS (op:BinOp) (k:IntKind) (x y:Int):Int:=
 let a:=BitVec.ofInt k.bits x
 let b:=BitVec.ofInt k.bits y
 match op with
 | .and=>k.wrap (a &&& b).toNat
 | .or=>k.wrap (a ||| b).toNat
 | .xor=>k.wrap (a ^^^ b).toNat
 |_=>k.wrap (a &&& ~~~b).toNat
def ia:Nat:=9223372036854775807
def room:Nat:=140737488355328
def binOp (op:BinOp) (x y:LV) (K:LV->Option R):Option R:=
 match op,x,y with
 | .shl,.i k a,.i _ b=>bY (decide (0<=b)) (K (.i k (k.wrap (a*2^(min b.toNat k.bits)))))
 | .shr,.i k a,.i _ b=>bY (decide (0<=b)) (K (.i k (a.fdiv (2^(min b.toNat k.bits)))))
 |_,.i k a,.i k' b=>
  bif decide (k=k') then
   match op with
   | .add=>K (.i k (k.wrap (a+b)))
   | .sub=>K (.i k (k.wrap (a-b)))
   | .mul=>K (.i k (k.wrap (a*b)))
   | .quo=>bY (!decide (b=0)) (K (.i k (k.wrap (a.tdiv b))))
   | .rem=>bY (!decide (b=0)) (K (.i k (a.tmod b)))
   | .eql=>K (.b (a==b))
   | .neq=>K (.b (a != b))
   | .lss=>K (.b (decide (a<b)))
   | .leq=>K (.b (decide (a<=b)))
   | .gtr=>K (.b (decide (a>b)))
   | .geq=>K (.b (decide (a>=b)))
   | .and| .or| .xor| .andNot=>K (.i k (OS op k a b))
   |_=>none
  else none
 | .add,.s a,.s b=>bY (decide (a.size+b.size<=ia)) (K (.s (a++b)))
 | .eql,.s a,.s b=>K (.b (a.toList==b.toList))
 | .neq,.s a,.s b=>K (.b !(a.toList==b.toList))
 | .eql,.b a,.b b=>K (.b (a==b))
 | .neq,.b a,.b b=>K (.b !(a==b))
 | .eql,.er a,.er true=>K (.b a)
 | .neq,.er a,.er true=>K (.b !a)
 |_,_,_=>none
def unOp (op:UnOp) (x:LV) (K:LV->Option R):Option R:=
 match op,x with
 | .neg,.i k n=>K (.i k (k.wrap (0-n)))
 | .not,.b x=>K (.b !x)
 |_,_=>none
end
def uu (hp:Nat->Option aQ):LV->Option (Bool×List Int×List Nat)
 | .nil=>some (true,[],[])
 | .val _ (.ints .i64 l)=>some (false,l,[])
 | .own id=>match hp id with|some (.row _ _ (.ints .i64 l))=>some (true,l,[id])|_=>none
 | .sub id 0 hi=>match hp id with|some (.row _ _ (.ints .i64 l))=>some (true,l.take hi,[id])|_=>none
 |_=>none
def kill (hp:Nat->Option aQ) (ids:List Nat):Nat->Option aQ:=fun j=>bif ids.elem j then none else hp j
def kx (hp:Nat->Option aQ):List Bool->List LV->Option (Bool×List iQ×List Nat)
 | [],[]=>some (true,[],[])
 |false::sg,.i .i64 n::xs=>match kx hp sg xs with
  |some (o,r,ks)=>some (o,.int n::r,ks)
  |none=>none
 |true::sg,x::xs=>match uu hp x with
  |some (o,l,ks)=>match kx (kill hp ks) sg xs with
   |some (o',r,ks')=>some (o&&o',.ints l::r,ks++ks')
   |none=>none
  |none=>none
 |_,_=>none
def rowOf (hp:Nat->Option aQ):Row->List AV->Option (Row×List Nat)
 |r,[]=>some (r,[])
 | .ints k _,.one (.l (.i k' n))::xs=>bif decide (k=k') then
  match rowOf hp (.ints k []) xs with|some (.ints _ l,ks)=>some (.ints k (n::l),ks)|_=>none else none
 | .eQ _,.one (.l (.b x))::xs=>match rowOf hp (.eQ []) xs with|some (.eQ l,ks)=>some (.eQ (x::l),ks)|_=>none
 | .strs _,.one (.l (.s x))::xs=>match rowOf hp (.strs []) xs with|some (.strs l,ks)=>some (.strs (x::l),ks)|_=>none
 | .rows _ _,.one (.l x)::xs=>match uu hp x with
   |some (o,y,ks)=>match rowOf (kill hp ks) (.rows true []) xs with
    |some (.rows o' l,ks')=>some (.rows (o&&o') (y::l),ks++ks')
    |_=>none
   |none=>none
 | .ek sg _ _,.one (.agg x)::xs=>match kx hp sg x with
   |some (o,y,ks)=>match rowOf (kill hp ks) (.ek sg true []) xs with
    |some (.ek _ o' l,ks')=>some (.ek sg (o&&o') (y::l),ks++ks')
    |_=>none
   |none=>none
 |_,_=>none
def fi (ids:List Nat):List (Nat×Option aQ):=ids.map fun j=>(j,none)
def Row.HN:Row->Row->Option Row
 | .ints k l,.ints k' l'=>bif decide (k=k') then some (.ints k (l++l')) else none
 | .eQ l,.eQ l'=>some (.eQ (l++l'))
 | .strs l,.strs l'=>some (.strs (l++l'))
 | .rows o l,.rows o' l'=>some (.rows (o&&o') (l++l'))
 | .ek sg o l,.ek Wz o' l'=>bif sg==Wz then some (.ek sg (o&&o') (l++l')) else none
 |_,_=>none
def oE (l:List LV) (k:Nat):List LV->List LV
 | []=>l
 |x::xs=>oE (l.set k x) (k+1) xs
def Kt (l:List LV) (k:Nat) (xs:List LV):List LV:=bif Nat.beq k 0&&Nat.beq xs.length l.length then xs else oE l k xs
def Ku (id ver i:Nat):Row->(f:Nat)->Bool->AV
 | .ints k l,_,_=> .l (.i k (l.getD i 0))
 | .eQ l,_,_=> .l (.b (l.getD i false))
 | .strs l,_,_=> .l (.s (l.getD i ByteArray.empty))
 | .rows _ _,_,_=> .l (.inner id ver i 0)
 | .ek sg _ l,f,agg=>bif agg then .one (.agg (sg.zipIdx.map fun (b,f)=>bif b then .inner id ver i f else .i .i64 (gi (l.getD i []) f)))
   else match sg[f]? with
    |some true=> .l (.inner id ver i f)
    |some false=> .l (.i .i64 (gi (l.getD i []) f))
    |none=> .l .any
def Kv (p:Bool) (i:Nat):Row->(f:Nat)->Bool->AV
 | .ints k l,_,_=> .l (.i k (l.getD i 0))
 | .eQ l,_,_=> .l (.b (l.getD i false))
 | .strs l,_,_=> .l (.s (l.getD i ByteArray.empty))
 | .rows _ l,_,_=> .l (.val p (.ints .i64 (l.getD i [])))
 | .ek sg _ l,f,agg=>bif agg then .one (.agg (sg.zipIdx.map fun (b,f)=>bif b then .val p (.ints .i64 (gl (l.getD i []) f)) else .i .i64 (gi (l.getD i []) f)))
   else match sg[f]? with
    |some true=> .l (.val p (.ints .i64 (gl (l.getD i []) f)))
    |some false=> .l (.i .i64 (gi (l.getD i []) f))
    |none=> .l .any
def yC (sg:List Bool) (r:List iQ) (f:Nat) (x:iQ):List iQ:=sg.zipIdx.map fun (b,g)=>bif g==f then x else bif b then .ints (gl r g) else .int (gi r g)
def pa (hp:Nat->Option aQ) (agg:Bool) (i:Nat) (f:Nat) (x:AV):Row->Option (Row×List Nat×Bool)
 | .ints k l=>match x with| .one (.l (.i k' n))=>bif decide (k=k') then some (.ints k (l.set i n),[],false) else none|_=>none
 | .eQ l=>match x with| .one (.l (.b n))=>some (.eQ (l.set i n),[],false)|_=>none
 | .strs l=>match x with| .one (.l (.s n))=>some (.strs (l.set i n),[],false)|_=>none
 | .rows o l=>match x with
   | .one (.l x)=>match uu hp x with|some (o',y,ks)=>some (.rows (o&&o') (l.set i y),ks,true)|none=>none
   |_=>none
 | .ek sg o l=>match x with
   | .one (.agg xs)=>bif agg then (match kx hp sg xs with|some (o',y,ks)=>some (.ek sg (o&&o') (l.set i y),ks,true)|none=>none) else none
   | .one (.l (.i .i64 n))=>bif agg then none else (match sg[f]? with|some false=>some (.ek sg o (l.set i (yC sg (l.getD i []) f (.int n))),[],true)|_=>none)
   |_=>none
def Mt (i j:Nat) (n:Int):Row->Option Row
 | .rows true l=>some (.rows true (l.set i ((l.getD i []).set j n)))
 |_=>none
def gj (r:Row) (i f:Nat):List Int:=match r with
 | .rows _ l=>l.getD i []
 | .ek _ _ l=>gl (l.getD i []) f
 |_=>[]
def rf (i f:Nat) (y:List Int):Row->Option Row
 | .rows true l=>some (.rows true (l.set i y))
 | .ek sg true l=>match sg[f]? with|some true=>some (.ek sg true (l.set i (yC sg (l.getD i []) f (.ints y))))|_=>none
 |_=>none
def strOf (l:List Int):BA:=⟨(l.map fun n=>UInt8.ofNat n.toNat).toArray⟩
def sb (s:BA) (i:Nat):Int:=((s.data[i]?).getD 0).toNat
def fT (tt:TT) (t:Nat):Bool:=match tt t with|some ⟨.struct _,_,_⟩=>true|_=>false
def nu (tt:TT) (t:Nat):Option Nat:=match tt t with|some ⟨.slice e,_,_⟩=>some e|_=>none
def bytesOf (tt:TT) (t:Nat):Nat:=match tt t with|some e=>e.bytes|none=>0
def cJ (tt:TT) (t:Nat):Nat:=match tt t with|some e=>e.size|none=>0
def fA (tt:TT) (t:Nat):Bool:=match tt t with
 |some ⟨.int _,_,_⟩=>true
 |some ⟨.bool,_,_⟩=>true
 |some ⟨.str,_,_⟩=>true
 |some ⟨.slice _,_,_⟩=>true
 |some ⟨.ptr _,_,_⟩=>true
 |some ⟨.err,_,_⟩=>true
 |_=>false
def Gd (tt:TT) (t:Nat):Nat:=match tt t with|some ⟨.slice e,_,_⟩=>cJ tt e|_=>0
def QS (tt:TT) (t:Nat) (r:Row):Bool:=Gd tt t==r.size&&Nat.blt 0 r.size
section
variable {R:Type}
def pN (nx:Nat) (v:AV) (K:kG->Option R):Option R:=K ⟨v,[],nx,[],[]⟩
def Ok (x:AV) (K:Int->Option R):Option R:=match x with| .one (.l (.i _ n))=>K n|_=>none
def tN (tt:TT) (nx:Nat) (t:Nat) (K:kG->Option R):Option R:=
 match tt t with
 |some ⟨.struct _,_,_⟩=>K ⟨.l (.je nx 0),[(nx,some (.box t ((bn tt depth t).map (ry tt))))],nx+1,[],[]⟩
 |some ⟨.array n e,_,_⟩=>match eT tt e with
  |some r=>bif Nat.blt 0 n&&r.size==1&& !r.deep then K ⟨.l (.arr nx n),[(nx,some (.row t 0 (jR n r)))],nx+1,[],[]⟩ else none
  |none=>none
 |some _=>bif fA tt t then K ⟨.l (.je nx 0),[(nx,some (.box t [ry tt t]))],nx+1,[],[]⟩ else none
 |none=>none
def xU (tt:TT) (hp:Nat->Option aQ) (nx:Nat) (t:Nat) (x:AV) (K:kG->Option R):Option R:=
 match tt t with
 |some ⟨.array _ _,_,_⟩=>none
 |some e=>match qj hp x with
  |some xs=>K ⟨.l (.je nx 0),[(nx,some (.box t xs))],nx+1,[],[]⟩
  |none=>none
 |none=>none
def pH (tt:TT) (hp:Nat->Option aQ) (fs:List (Nat×Nat)) (zero:List LV):List (Nat×AV)->Option (List LV)
 | []=>some zero
 | (i,x)::ps=>match fs[i]?,qj hp x with
   |some (off,ft),some xs=>match tt ft with
    |some e=>bif xs.length==e.size&&Nat.ble (off+xs.length) zero.length then pH tt hp fs (oE zero off xs) ps else none
    |none=>none
   |_,_=>none
def rN (tt:TT) (hp:Nat->Option aQ) (nx:Nat) (t:Nat) (parts:List (Nat×AV)) (K:kG->Option R):Option R:=
 match tt t with
 |some ⟨.struct fs,_,_⟩=>match pH tt hp fs ((bn tt depth t).map (ry tt)) parts with
  |some xs=>pN nx (.one (.agg xs)) K
  |none=>none
 |some ⟨.array n e,_,_⟩=>match parts,tt e with
  | [],some _=>pN nx (.one (.agg (List.replicate n (ry tt e)))) K
  |_,_=>none
 |_=>none
def BI:Nat->List (Nat×AV)->Option (List AV)
 |_,[]=>some []
 |i,(j,x)::ps=>bif i==j then (match BI (i+1) ps with|some xs=>some (x::xs)|none=>none) else none
def jS (tt:TT) (hp:Nat->Option aQ) (nx:Nat) (t len:Nat) (parts:List (Nat×AV)) (K:kG->Option R):Option R:=
 match nu tt t with
 |some e=>match eT tt e,BI 0 parts with
  |some r0,some xs=>bif xs.length==len&&Nat.ble (len*r0.size) 16777216 then (match rowOf hp r0 xs with
   |some (r,ks)=>K ⟨.l (.own nx),fi ks++[(nx,some (.row e 0 r))],nx+1,[],ks⟩
   |none=>none) else none
  |_,_=>none
 |none=>none
def wg (tt:TT) (hp:Nat->Option aQ) (nx:Nat) (t:Nat) (p:AV) (K:kG->Option R):Option R:=
 match p with
 | .one (.l (.je id k))=>match hp id with
   |some (.box _ cells)=>bif fT tt t then (bif Nat.ble (k+cJ tt t) cells.length then K ⟨.one (.agg ((cells.drop k).take (cJ tt t))),[],nx,[],[id]⟩ else none)
    else bif fA tt t then (match cells[k]? with|some x=>K ⟨.l x,[],nx,[],[id]⟩|none=>none) else none
   |_=>none
 | .one (.l (.vc id i f))=>match hp id with
   |some (.row _ ver r)=>bif (bif fT tt t then cJ tt t==r.size&&f==0&&r.ur else fA tt t&&Nat.blt f r.size) then K ⟨Ku id ver i r f (fT tt t),[],nx,[],[id]⟩ else none
   |_=>none
 | .one (.l (.Kh p r i f))=>bif (bif fT tt t then cJ tt t==r.size&&f==0&&r.ur else fA tt t&&Nat.blt f r.size) then pN nx (Kv p i r f (fT tt t)) K else none
 | .one (.l (.CO id ver i f j))=>match hp id with
   |some (.row _ v r)=>bif v==ver&&fA tt t then K ⟨.l (.i .i64 ((gj r i f).getD j 0)),[],nx,[],[id]⟩ else none
   |_=>none
 |_=>none
def TC (r:Row) (xs:List LV):Option Row:=match rowOf (fun _=>none) r (xs.map fun x=> .l x) with|some (r,[])=>some r|_=>none
def rO (tt:TT) (hp:Nat->Option aQ) (nx:Nat) (t:Nat) (p x:AV) (K:kG->Option R):Option R:=
 match p with
 | .one (.l (.je id k))=>match hp id,qj hp x with
   |some (.box bt cells),some xs=>bif xs.length==cJ tt t&&Nat.blt 0 xs.length then (bif decide (k+xs.length<=cells.length) then
    K ⟨.l .undef,[(id,some (.box bt (Kt cells k xs)))],nx,[],[id]⟩ else none) else none
   |_,_=>none
 | .one (.l (.vc id i f))=>match tt t with
   |some e=>match hp id with
    |some (.row bt ver r)=>bif (bif fT tt t then e.size==r.size&&f==0&&r.ur else fA tt t&&Nat.blt f r.size) then match pa hp (fT tt t) i f x r with
     |some (r',ks,bump)=>bif ks.elem id then none else K ⟨.l .undef,fi ks++[(id,some (.row bt (bif bump then ver+1 else ver) r'))],nx,[],id::ks⟩
     |none=>none
     else none
    |some (.hole bt ver (.rows true l) i' f')=>bif f==0&&fA tt t then bY (i==i') (match x with
     | .one (.l x)=>match uu hp x with
       |some (true,y,ks)=>bif ks.elem id then none else K ⟨.l .undef,fi ks++[(id,some (.row bt (ver+1) (.rows true (l.set i y))))],nx,[],id::ks⟩
       |_=>none
     |_=>none) else none
    |_=>none
   |none=>none
 | .one (.l (.arr id m))=>match tt t with
   |some ⟨.array n e,_,_⟩=>match hp id,x,eT tt e with
    |some (.row bt ver r),.one (.agg xs),some r0=>bif xs.length==n&&m==n&&r0.size==1&& !r0.deep&&r.size==1&& !r.deep&&cJ tt t==n&&Nat.blt 0 n then (match TC r0 xs with
     |some r'=>K ⟨.l .undef,[(id,some (.row bt (ver+1) r'))],nx,[],[id]⟩
     |none=>none) else none
    |_,_,_=>none
   |_=>none
 | .one (.l (.CO id ver i f j))=>match hp id,x with
   |some (.row bt v r),.one (.l (.i .i64 n))=>bif v==ver&&fA tt t then (match Mt i j n r with
    |some r'=>K ⟨.l .undef,[(id,some (.row bt v r'))],nx,[],[id]⟩
    |none=>none) else none
   |_,_=>none
 |_=>none
def lX (tt:TT) (hp:Nat->Option aQ) (nx:Nat) (t:Nat) (x ix:AV) (K:kG->Option R):Option R:=
 Ok ix fun i=>match x with
 | .one (.l (.own id))=>match ny hp id with
   |some r=>bif QS tt t r then bY (decide (0<=i)&&decide (i<r.len)) (K ⟨.l (.vc id i.toNat 0),[],nx,[id],[]⟩) else none
   |none=>none
 | .one (.l (.sub id lo hi))=>match ny hp id with
   |some r=>bif QS tt t r then bY (decide (0<=i)&&decide (i<((hi-lo:Nat):Int))) (K ⟨.l (.vc id (lo+i.toNat) 0),[],nx,[id],[]⟩) else none
   |none=>none
 | .one (.l (.val p r))=>bif QS tt t r then bY (decide (0<=i)&&decide (i<r.len)) (pN nx (.l (.Kh p r i.toNat 0)) K) else none
 | .one (.l (.inner id ver e f))=>match lenOf hp (.inner id ver e f) with
   |some (n,rl,rc)=>bif Gd tt t==1 then bY (decide (0<=i)&&decide (i<n)) (K ⟨.l (.CO id ver e f i.toNat),[],nx,rl,rc⟩) else none
   |none=>none
 | .one (.l (.arr id n))=>match tt t,ny hp id with
   |some ⟨.array m e,_,_⟩,some r=>bif m==n&&cJ tt e==r.size&&Nat.blt 0 r.size then bY (decide (0<=i)&&decide (i<n)) (K ⟨.l (.vc id i.toNat 0),[],nx,[id],[]⟩) else none
   |_,_=>none
 |_=>none
def lY (tt:TT) (hp:Nat->Option aQ) (nx:Nat) (t:Nat) (x:AV) (f:Nat) (K:kG->Option R):Option R:=
 match tt t with
 |some ⟨.struct fs,_,_⟩=>match fs[f]? with
  |some (off,_)=>match x with
   | .one (.l (.je id k))=>pN nx (.l (.je id (k+off))) K
   | .one (.l (.vc id i g))=>match ny hp id with|some _=>K ⟨.l (.vc id i (g+off)),[],nx,[id],[]⟩|none=>none
   | .one (.l (.Kh p r i g))=>pN nx (.l (.Kh p r i (g+off))) K
   |_=>none
  |none=>none
 |_=>none
def Ge (o:Option AV) (d:Int) (K:Int->Option R):Option R:=match o with|none=>K d|some x=>Ok x K
def rP (tt:TT) (hp:Nat->Option aQ) (nx:Nat) (t:Nat) (x:AV) (lo hi:Option AV) (K:kG->Option R):Option R:=
 match x with
 | .one (.l (.s s))=>match tt t with
   |some ⟨.str,_,_⟩=>Ge hi s.size fun h=>bY (decide (0<=h)&&decide (h<=s.size)) (Ge lo 0 fun l=>bY (decide (0<=l)&&decide (l<=h)) (pN nx (.l (.s (s.extract l.toNat h.toNat))) K))
   |_=>none
 | .one (.l (.own id))=>match ny hp id with
   |some r=>bif QS tt t r then (match lo,hi with
    |none,none=>pN nx (.l (.own id)) K
    |_,_=>Ge hi r.len fun h=>bY (decide (0<=h)&&decide (h<=r.len)) (Ge lo 0 fun l=>bY (decide (0<=l)&&decide (l<=h)) (K ⟨.l (.sub id l.toNat h.toNat),[],nx,[id],[]⟩))) else none
   |none=>none
 | .one (.l (.val p r))=>bif QS tt t r then match lo,hi with
  |none,none=>pN nx (.l (.val p r)) K
  |none,some h=>Ok h fun h=>bY (decide (0<=h)&&decide (h<=r.len)) (pN nx (.l (.val p (r.take h.toNat))) K)
  |some l,none=>Ok l fun l=>bY (decide (0<=l)&&decide (l<=r.len)) (pN nx (.l (.val p (r.drop l.toNat))) K)
  |some l,some h=>Ok h fun h=>bY (decide (0<=h)&&decide (h<=r.len)) (Ok l fun l=>bY (decide (0<=l)&&decide (l<=h)) (pN nx (.l (.val p ((r.take h.toNat).drop l.toNat))) K))
   else none
 |_=>none
def yD (tt:TT) (nx:Nat) (t:Nat) (x ix:AV) (K:kG->Option R):Option R:=
 match x with
 | .one (.l (.s s))=>match tt t with
   |some ⟨.str,_,_⟩=>Ok ix fun i=>bY (decide (0<=i)&&decide (i<s.size)) (pN nx (.l (.i .u8 (sb s i.toNat))) K)
   |_=>none
 |_=>none
def oF (tt:TT) (hp:Nat->Option aQ) (nx:Nat) (src dst:Nat) (x:AV) (K:kG->Option R):Option R:=
 bif fA tt src then match x with
 | .one (.l (.i _ n))=>match tt dst with|some ⟨.int k,_,_⟩=>pN nx (.l (.i k (k.wrap n))) K|_=>none
 | .one (.l (.s s))=>match tt dst with|some ⟨.str,_,_⟩=>pN nx (.l (.s s)) K|_=>none
 | .one (.l x)=>match tt dst,ku hp x with
   |some ⟨.str,_,_⟩,some (.ints .u8 l,rc)=>match (nu tt src).bind tt with
    |some ⟨.int .u8,_,_⟩=>K ⟨.l (.s (strOf l)),[],nx,[],rc⟩
    |_=>none
   |_,_=>none
 |_=>none
 else none
def xV:Operand->Operand->Bool
 | .tmp a,.tmp b=>a==b
 | .const (.int _ a),.const (.int _ b)=>a==b
 |_,_=>false
def mZ (tt:TT) (nx:Nat) (t:Nat) (l c:Operand) (x:AV) (K:kG->Option R):Option R:=
 bif xV l c then (match nu tt t with
  |some e=>match eT tt e with
   |some r=>Ok x fun n=>bY (decide (0<=n)&&decide (n.toNat*bytesOf tt e<=room)) (K ⟨.l (.own nx),[(nx,some (.row e 0 (jR n.toNat r)))],nx+1,[],[]⟩)
   |none=>none
  |none=>none) else none
def qv (hp:Nat->Option aQ) (r0:Row):LV->Option (Row×List Nat×List Nat)
 | .nil=>some (r0,[],[])
 | .own id=>match hp id with
   |some (.row _ _ r)=>match r with
    | .rows true _=>some (r,[id],[id])
    | .ek _ true _=>some (r,[id],[id])
    |_=>some (r,[],[id])
   |_=>none
 | .sub id lo hi=>match hp id with
   |some (.row _ _ r)=>match r with
    | .rows true _=>none
    | .ek _ true _=>none
    |_=>some ((r.take hi).drop lo,[],[id])
   |_=>none
 | .s s=>some (.ints .u8 (s.data.toList.map fun b=>(b.toNat:Int)),[],[])
 |x=>match ku hp x with|some (r,rc)=>some (r,[],rc)|none=>none
def uv (tt:TT) (e:Nat) (r0 base y:Row) (ks:List Nat) (up:List (Nat×Option aQ)) (nx:Nat) (rc:List Nat) (K:kG->Option R):Option R:=
 match base.HN y with
 |some r=>bif base.size==r0.size then bY (decide ((base.len+y.len)*bytesOf tt e<=room)) (K ⟨.l (.own nx),fi ks++up++[(nx,some (.row e 0 r))],nx+1,[],rc⟩) else none
 |none=>none
def qk (tt:TT) (hp:Nat->Option aQ) (nx:Nat) (t:Nat) (tx:Nat) (s x:AV) (K:kG->Option R):Option R:=
 match nu tt t,s,x with
 |some e,.one (.l s),.one (.l x)=>match eT tt e with
  |some r0=>match qv hp r0 x with
   |some (y,ks,rc)=>bif (match x with| .s _=>(match tt tx with|some ⟨.str,_,_⟩=>r0.size==1|_=>false)|_=>(nu tt tx).isSome) then (match s with
    | .nil=>uv tt e r0 r0 y ks [] nx rc K
    | .own id=>match hp id with
      |some (.row _ _ r)=>bif rc.elem id then none else uv tt e r0 r y ks [(id,none)] nx (rc++[id]) K
      |_=>none
    | .sub id lo hi=>match hp id with
      |some (.row _ _ r)=>bif rc.elem id then none else bif lo==0 then uv tt e r0 (r.take hi) y ks [(id,none)] nx (rc++[id]) K else none
      |_=>none
    | .inner id ver i f=>match hp id with
      |some (.row bt v (.rows true l))=>bif rc.elem id then none else bif v==ver then uv tt e r0 (.ints .i64 (l.getD i [])) y ks [(id,some (.hole bt v (.rows true l) i f)),(nx,none)] (nx+1) (rc++[id]) K else none
      |_=>none
    |_=>none) else none
   |none=>none
  |none=>none
 |_,_,_=>none
def wj (tt:TT) (hp:Nat->Option aQ) (nx:Nat) (t:Nat) (d s:AV) (K:kG->Option R):Option R:=
 bif (match nu tt t with|some e=>cJ tt e==1|none=>false) then match d,s with
 | .one (.l (.sub id lo hi)),.one (.l (.sub id' lK xN))=>match hp id with
   |some (.row bt ver (.ints k l))=>bif id==id' then
    K ⟨.l (.i .i64 (min (xN-lK) (hi-lo):Nat)),[(id,some (.row bt ver (.ints k (l.take lo++(((l.take xN).drop lK).take (hi-lo)++l.drop (lo+min (xN-lK) (hi-lo)))))))],nx,[],[id]⟩ else none
   |some (.row bt ver (.rows true l))=>bif id==id' then
    bY (lo==lK+1&&hi==l.length&&xN==l.length&&decide (lK<l.length)) (K ⟨.l (.i .i64 ((l.length-lo:Nat):Int)),[(id,some (.hole bt (ver+1) (.rows true (l.take lK++[]::(l.drop lK).dropLast)) lK 0))],nx,[],[id]⟩) else none
   |_=>none
 |_,_=>none
 else none
end
section
variable {R:Type}
def Ab (tt:TT) (hp:Nat->Option aQ) (m:Mode) (t:Nat):LV->Option (DL×List Nat×List Nat×List Nat)
 | .i k n=>some (.i k n,[],[],[])
 | .b x=>some (.b x,[],[],[])
 | .s x=>some (.s x,[],[],[])
 | .er x=>some (.er x,[],[],[])
 | .nil=>match nu tt t with
   |some e=>match eT tt e with
    |some r=>match m with| .qp=>some (.sl .bi r.jw,[],[],[])| .jw=>some (.sl .jw r.jw,[],[],[])|_=>some (.sl .own r,[],[],[])
    |none=>none
   |none=>none
 | .val p r=>match m with
   | .qp=>some (.sl .bi r,[],[],[])
   | .jw=>bif p then some (.sl .jw r,[],[],[]) else none
   |_=>none
 |x=>match m with
  | .qp=>match ku hp x with|some (r,rc)=>some (.sl .bi r,[],[],rc)|none=>none
  | .Hp=>match x with
    | .own id=>match hp id with|some (.row _ _ r)=>(bif r.owned then some (.sl .own r,[id],[],[]) else none)|_=>none
    | .sub id 0 hi=>match hp id with|some (.row _ _ r)=>(bif r.owned then some (.sl .own (r.take hi),[id],[],[]) else none)|_=>none
    |_=>none
  | .io=>match x with
    | .own id=>match hp id with|some (.row _ _ r)=>(bif r.owned then some (.sl .own r,[],[id],[]) else none)|_=>none
    | .inner id ver i f=>match hp id with
      |some (.row _ v r)=>bif v==ver&&r.owned then some (.sl .own (.ints .i64 (gj r i f)),[],[id],[]) else none
      |_=>none
    |_=>none
  | .jw=>none
def wI (tt:TT) (hp:Nat->Option aQ) (m:Mode):List Nat->List LV->Option (List DL×List Nat×List Nat×List Nat)
 | [],[]=>some ([],[],[],[])
 |t::ts,x::xs=>match Ab tt hp m t x with
  |some (d,ks,io,rc)=>match wI tt hp m ts xs with
   |some (ds,ks',io',RG)=>some (d::ds,ks++ks',io++io',rc++RG)
   |none=>none
  |none=>none
 |_,_=>none
def S4:LV->Option DL
 | .i k n=>some (.i k n)
 | .b x=>some (.b x)
 | .s x=>some (.s x)
 | .val true r=>some (.sl .jw r)
 |_=>none
def J1:List LV->Option (List DL)
 | []=>some []
 |x::xs=>match S4 x with
  |some d=>match J1 xs with
   |some ds=>some (d::ds)
   |none=>none
  |none=>none
def IQ:LV->Option Nat
 | .je id 0=>some id
 |_=>none
def S5 (tt:TT) (t:Nat):Bool:=match tt t with|some ⟨.ptr _,_,_⟩=>true|_=>false
def FK (tt:TT) (hp:Nat->Option aQ) (t id:Nat):Option (List DL):=bif S5 tt t then (match hp id with
 |some (.box _ cells)=>J1 cells
 |_=>none) else none
def S7 (tt:TT) (hp:Nat->Option aQ) (m:Mode) (t id:Nat):Option (DV×List Nat×List Nat×List Nat):=match m with
 | .io=>match FK tt hp t id with|some ds=>some (.ptr ds,[],[id],[])|none=>none
 |_=>none
def L_ (tt:TT) (hp:Nat->Option aQ) (m:Mode) (t:Nat):AV->Option (DV×List Nat×List Nat×List Nat)
 | .one (.l x)=>match IQ x with
   |some id=>S7 tt hp m t id
   |none=>match Ab tt hp m t x with|some (d,ks,io,rc)=>some (.l d,ks,io,rc)|none=>none
 | .one (.agg xs)=>match wI tt hp m (bn tt depth t) xs with|some (ds,ks,io,rc)=>some (.agg ds,ks,io,rc)|none=>none
 | .KY _=>none
def u4 (tt:TT) (hp:Nat->Option aQ):List Mode->List Nat->List AV->Option (List DV×List Nat×List Nat×List Nat)
 |_,[],[]=>some ([],[],[],[])
 |ms,t::ts,x::xs=>match L_ tt hp (ms.headD .qp) t x with
  |some (d,ks,io,rc)=>match u4 tt hp ms.tail ts xs with
   |some (ds,ks',io',RG)=>some (d::ds,ks++ks',io++io',rc++RG)
   |none=>none
  |none=>none
 |_,_,_=>none
def dI (k:IntKind) (d:DL) (K:Int->Option R):Option R:=match d with| .i k' n=>(bif decide (k=k') then K n else none)|_=>none
def dB (d:DL) (K:Bool->Option R):Option R:=match d with| .b x=>K x|_=>none
def dS (d:DL) (K:BA->Option R):Option R:=match d with| .s x=>K x|_=>none
def dE (d:DL) (K:Bool->Option R):Option R:=match d with| .er x=>K x|_=>none
def Br (oc:o8) (k:IntKind) (d:DL) (K:List Int->Option R):Option R:=match d with| .sl o (.ints k' l)=>(bif decide (o=oc)&&decide (k=k') then K l else none)|_=>none
def xJ (oc:o8) (d:DL) (K:List Bool->Option R):Option R:=match d with| .sl o (.eQ l)=>(bif decide (o=oc) then K l else none)|_=>none
def Dz (oc:o8) (d:DL) (K:List BA->Option R):Option R:=match d with| .sl o (.strs l)=>(bif decide (o=oc) then K l else none)|_=>none
def DA (oc:o8) (d:DL) (K:List (List Int)->Option R):Option R:=match d with| .sl o (.rows o' l)=>(bif decide (o=oc)&&o' ==decide (oc= .own) then K l else none)|_=>none
def DB (oc:o8) (sg:List Bool) (d:DL) (K:List (List iQ)->Option R):Option R:=match d with| .sl o (.ek Wz o' l)=>(bif decide (o=oc)&&o' ==decide (oc= .own)&&sg==Wz then K l else none)|_=>none
def Bs (ds:List DV) (K:DV->List DV->Option R):Option R:=match ds with|d::ds=>K d ds|_=>none
def QG (ds:List DV) (K:Option R):Option R:=match ds with| []=>K|_=>none
def dL (d:DV) (K:DL->Option R):Option R:=match d with| .l x=>K x|_=>none
def Te (d:DV) (K:List DL->Option R):Option R:=match d with| .agg x=>K x|_=>none
def N5 (d:DV) (K:List DL->Option R):Option R:=match d with| .ptr x=>K x|_=>none
def Md (ds:List DL) (K:DL->List DL->Option R):Option R:=match ds with|d::ds=>K d ds|_=>none
def Td (ds:List DL) (K:Option R):Option R:=match ds with| []=>K|_=>none
def J_ (tt:TT) (oc:o8) (t:Nat) (d:DL) (nx:Nat) (K:LV->List (Nat×Option aQ)->Nat->Option R):Option R:=
 match tt t with
 |some ⟨.int k,_,_⟩=>dI k d fun n=>K (.i k n) [] nx
 |some ⟨.bool,_,_⟩=>dB d fun x=>K (.b x) [] nx
 |some ⟨.str,_,_⟩=>dS d fun x=>K (.s x) [] nx
 |some ⟨.err,_,_⟩=>dE d fun x=>K (.er x) [] nx
 |some ⟨.slice e,_,_⟩=>
  let fin (r:Row):Option R:=match oc with
   | .own=>K (.own nx) [(nx,some (.row e 0 r))] (nx+1)
   | .jw=>K (.val true r) [] nx
   | .bi=>K (.val false r) [] nx
  match eT tt e with
  |some (.ints k _)=>Br oc k d fun l=>fin (.ints k l)
  |some (.eQ _)=>xJ oc d fun l=>fin (.eQ l)
  |some (.strs _)=>Dz oc d fun l=>fin (.strs l)
  |some (.rows _ _)=>DA oc d fun l=>fin (.rows (decide (oc= .own)) l)
  |some (.ek sg _ _)=>DB oc sg d fun l=>fin (.ek sg (decide (oc= .own)) l)
  |none=>none
 |_=>none
def EC (tt:TT) (oc:o8):List Nat->List DL->Nat->(List LV->List (Nat×Option aQ)->Nat->Option R)->Option R
 | [],ds,nx,K=>Td ds (K [] [] nx)
 |t::ts,ds,nx,K=>Md ds fun d ds=>J_ tt oc t d nx fun x up nx=>EC tt oc ts ds nx fun xs jW nx=>K (x::xs) (up++jW) nx
def N6 (tt:TT) (oc:o8) (t:Nat) (d:DV) (nx:Nat) (K:A1->List (Nat×Option aQ)->Nat->Option R):Option R:=
 match tt t with
 |some ⟨.struct _,_,_⟩=>Te d fun ds=>EC tt oc (bn tt depth t) ds nx fun xs up nx=>K (.agg xs) up nx
 |some ⟨.ptr e,_,_⟩=>N5 d fun ds=>EC tt .jw (bn tt depth e) ds (nx+1) fun xs up tO=>K (.l (.je nx 0)) (up++[(nx,some (.box e xs))]) tO
 |_=>dL d fun d=>J_ tt oc t d nx fun x up nx=>K (.l x) up nx
def Ka (tt:TT) (oc:o8):List Nat->List DV->Nat->(List A1->List (Nat×Option aQ)->Nat->List DV->Option R)->Option R
 | [],ds,nx,K=>K [] [] nx ds
 |t::ts,ds,nx,K=>Bs ds fun d ds=>N6 tt oc t d nx fun x up nx=>Ka tt oc ts ds nx fun xs jW nx ds=>K (x::xs) (up++jW) nx ds
def jh (hp:Nat->Option aQ):List (Nat×Option aQ)->Nat->Option aQ
 | []=>hp
 | (i,r)::l=>jh (fun j=>bif j==i then r else hp j) l
def FQ:List Nat->Bool
 | []=>true
 |x::l=> !l.elem x&&FQ l
def sS:List Nat->List Nat->Bool
 | [],_=>true
 |x::l,m=> !m.elem x&&sS l m
structure yb where
 params:List Nat
 results:List Nat
 kS:List Mode
 oc:o8
structure jZ (R:Type) where
 tt:TT
 Φ:Ya R
 sig:FuncId->Option yb
 nt:Nat
def Pw:List A1->AV
 | [x]=> .one x
 |xs=> .KY xs
def wN:List Mode->Bool
 | []=>true
 | .io::_=>false
 |_::ms=>wN ms
def Row.oh (r:Row) (f:Nat):Bool:=match r with
 | .rows _ _=>f==0
 | .ek sg _ _=>sg[f]?.getD false
 |_=>false
def qg (oc:o8) (rc:List Nat):List (Nat×Option aQ):=match oc with| .bi=>fi rc|_=>[]
def lz (hp:Nat->Option aQ) (x:LV) (d:DL) (K:List (Nat×Option aQ)->Option R):Option R:=
 match x with
 | .i _ _=>K []
 | .b _=>K []
 | .s _=>K []
 | .er _=>K []
 | .nil=>K []
 | .own id=>match hp id with
   |some (.row e ver (.ints k _))=>Br .own k d fun l=>K [(id,some (.row e (ver+1) (.ints k l)))]
   |some (.row e ver (.eQ _))=>xJ .own d fun l=>K [(id,some (.row e (ver+1) (.eQ l)))]
   |some (.row e ver (.strs _))=>Dz .own d fun l=>K [(id,some (.row e (ver+1) (.strs l)))]
   |some (.row e ver (.rows true _))=>DA .own d fun l=>K [(id,some (.row e (ver+1) (.rows true l)))]
   |some (.row e ver (.ek sg true _))=>DB .own sg d fun l=>K [(id,some (.row e (ver+1) (.ek sg true l)))]
   |_=>none
 |_=>none
def jU (hp:Nat->Option aQ):List LV->List DL->(List (Nat×Option aQ)->Option R)->Option R
 | [],ds,K=>Td ds (K [])
 |x::xs,ds,K=>Md ds fun d ds=>lz hp x d fun up=>jU hp xs ds fun jW=>K (up++jW)
def re (x:LV) (d:DL) (K:LV->Option R):Option R:=match x with
 | .i k _=>dI k d fun n=>K (.i k n)
 | .b _=>dB d fun x=>K (.b x)
 | .s _=>dS d fun x=>K (.s x)
 | .val true (.ints k _)=>Br .jw k d fun l=>K (.val true (.ints k l))
 |_=>none
def qG:List LV->List DL->(List LV->Option R)->Option R
 | [],ds,K=>Td ds (K [])
 |x::xs,ds,K=>Md ds fun d ds=>re x d fun y=>qG xs ds fun ys=>K (y::ys)
def yy (hp:Nat->Option aQ) (id:Nat) (d:DV) (K:List (Nat×Option aQ)->Option R):Option R:=N5 d fun ds=>match hp id with
 |some (.box t cells)=>qG cells ds fun cs=>K [(id,some (.box t cs))]
 |_=>none
def qh (hp:Nat->Option aQ) (x:AV) (d:DV) (K:List (Nat×Option aQ)->Option R):Option R:=match x with
 | .one (.l x)=>match IQ x with
   |some id=>yy hp id d K
   |none=>dL d fun d=>lz hp x d K
 | .one (.agg ys)=>Te d fun d=>jU hp ys d K
 | .KY _=>none
def mQ (hp:Nat->Option aQ):List Mode->List AV->List DV->(List (Nat×Option aQ)->Option R)->Option R
 | .io::ms,x::xs,ds,K=>Bs ds fun d ds=>qh hp x d fun up=>mQ hp ms xs ds fun jW=>K (up++jW)
 |_::ms,_::xs,ds,K=>mQ hp ms xs ds K
 |_,_,ds,K=>QG ds (K [])
def wJ:LV->List Nat
 | .own id=>[id]
 |_=>[]
def IS:AV->List Nat
 | .one (.l x)=>match IQ x with
   |some id=>[id]
   |none=>wJ x
 | .one (.agg xs)=>xs.flatMap wJ
 | .KY _=>[]
def oK:List Mode->List AV->List Nat
 | .io::ms,x::xs=>IS x++oK ms xs
 |_::ms,_::xs=>oK ms xs
 |_,_=>[]
def aaz:List DL->Option o8
 | []=>none
 | .sl c _::_=>some c
 |_::ds=>aaz ds
def Yb:Nat->List DV->Option o8
 |n+1,.l (.sl c _)::_=>some c
 |n+1,.agg xs::ds=>match aaz xs with|some c=>some c|none=>Yb n ds
 |n+1,_::ds=>Yb n ds
 |_,_=>none
def X5 (oc:o8) (n:Nat) (rs:List DV):o8:=match oc with
 | .bi=>match Yb n rs with|some .own=> .own|_=> .bi
 |c=>c
def yb.to (g:yb) (c:o8):yb:=⟨g.params,g.results,g.kS,c⟩
def ED (G:jZ R) (hp:Nat->Option aQ) (nx:Nat) (f:FuncId) (g:yb) (xs:List AV) (K:kG->Option R):Option R:=
 match u4 G.tt hp g.kS g.params xs with
  |none=>none
  |some (ds,ks,io,rc)=>bif FQ (ks++io)&&sS (ks++io) rc&&io==oK g.kS xs then G.Φ f ds fun rs=>
   Ka G.tt (X5 g.oc g.results.length rs) g.results rs nx fun vs up nx DD=>mQ hp g.kS xs DD fun jW=>K ⟨Pw vs,fi ks++qg (X5 g.oc g.results.length rs) rc++up++jW,nx,[],ks++io++rc⟩
   else none
def mR:List Mode->List AV->Option (Nat×Nat×Nat×Nat)
 | .io::_,.one (.l (.inner id ver i f))::_=>some (id,ver,i,f)
 |_::ms,_::xs=>mR ms xs
 |_,_=>none
def CN (n:Nat):List Mode->List AV->List AV
 | .io::_,.one (.l (.inner _ _ _ _))::xs=> .one (.l (.own n))::xs
 |_::ms,x::xs=>x::CN n ms xs
 |_,xs=>xs
def To (G:jZ R) (hp:Nat->Option aQ) (nx:Nat) (f:FuncId) (xs:List AV) (K:kG->Option R):Option R:=
 match G.sig f with
 |none=>none
 |some g=>match mR g.kS xs with
  |none=>ED G hp nx f g xs K
  |some (id,ver,i,fl)=>match hp id with
   |some (.row e v r)=>bif v==ver&&r.owned&&r.oh fl&&Nat.blt i r.len then
    let take:List (Nat×Option aQ):=[(id,some (.hole e v r i fl)),(nx,some (.row 0 0 (.ints .i64 (gj r i fl))))]
    ED G (jh hp take) (nx+1) f g (CN nx g.kS xs) fun E=>match jh (jh hp take) E.up nx,jh (jh hp take) E.up id with
     |some (.row _ _ (.ints .i64 l)),some (.hole _ _ _ _ _)=>match rf i fl l r with
      |some r'=>K ⟨E.v,take++E.up++[(id,some (.row e (v+1) r')),(nx,none)],E.nx,[],E.rc⟩
      |none=>none
     |_,_=>none
    else none
   |_=>none
def oG (G:jZ R) (hp:Nat->Option aQ) (nx:Nat) (b:Builtin) (ts:List Nat) (xs:List AV) (K:kG->Option R):Option R:=
 match b,xs,ts with
 | .len,[.one (.l (.s s))],[t]=>(match G.tt t with|some ⟨.str,_,_⟩=>pN nx (.l (.i .i64 s.size)) K|_=>none)
 | .len,[.one (.l x)],[t]=>(match nu G.tt t,lenOf hp x with
   |some _,some (n,rl,rc)=>K ⟨.l (.i .i64 n),[],nx,rl,rc⟩
   |_,_=>none)
 | .append,[s,x],[t,tx]=>qk G.tt hp nx t tx s x K
 | .copy,[d,s],[t,_]=>wj G.tt hp nx t d s K
 | .min,[.one (.l (.i k x)),.one (.l (.i k' y))],_=>bif decide (k=k') then pN nx (.l (.i k (if y<x then y else x))) K else none
 | .max,[.one (.l (.i k x)),.one (.l (.i k' y))],_=>bif decide (k=k') then pN nx (.l (.i k (if y>x then y else x))) K else none
 |_,_,_=>none
def VM (tt:TT) (t:Nat) (x:LV):Bool:=match x with
 | .b _=>(match tt t with|some ⟨.bool,_,_⟩=>true|_=>false)
 | .er _=>(match tt t with|some ⟨.err,_,_⟩=>true|_=>false)
 |_=>true
def aaA (y:Operand):LV->Bool
 | .er _=>(match y with| .const _=>true|_=>false)
 |_=>true
def lW (G:jZ R) (o:Op) (S:Nat->AV) (hp:Nat->Option aQ) (nx:Nat) (K:kG->Option R):Option R:=
 let rd:=St.rd G.nt S
 match o with
 | .move x| .assign x=>pN nx (rd x) K
 | .pick c a b=>match rd c with| .one (.l (.b x))=>(match x with|true=>pN nx (rd a) K|false=>pN nx (rd b) K)|_=>none
 | .alloc t=>tN G.tt nx t K
 | .box t x=>xU G.tt hp nx t (rd x) K
 | .build t ps=>rN G.tt hp nx t (ps.toList.map fun p=>(p.1,rd p.2)) K
 | .buildSlice t n ps=>jS G.tt hp nx t n (ps.toList.map fun p=>(p.1,rd p.2)) K
 | .load t p=>wg G.tt hp nx t (rd p) K
 | .store t p x=>rO G.tt hp nx t (rd p) (rd x) K
 | .nilCheck x=>match rd x with
   | .one (.l (.je id k))=>pN nx (.l (.je id k)) K
   |_=>none
 | .binOp op t x y _=>match rd x,rd y with
   | .one (.l x'),.one (.l y')=>bif VM G.tt t x' &&aaA y y' then binOp op x' y' fun v=>pN nx (.l v) K else none
   |_,_=>none
 | .unOp op _ x=>match rd x with
   | .one (.l x)=>unOp op x fun v=>pN nx (.l v) K
   |_=>none
 | .convert a b x=>oF G.tt hp nx a b (rd x) K
 | .makeSlice t l c=>mZ G.tt nx t l c (rd l) K
 | .slice t x lo hi mx=>match mx with|none=>rP G.tt hp nx t (rd x) (lo.map rd) (hi.map rd) K|some _=>none
 | .fieldAddr t x f=>lY G.tt hp nx t (rd x) f K
 | .indexAddr t x i=>lX G.tt hp nx t (rd x) (rd i) K
 | .index t x i=>yD G.tt nx t (rd x) (rd i) K
 | .extract x j=>match rd x with| .KY xs=>(match xs[j]? with|some y=>pN nx (.one y) K|none=>none)|_=>none
 | .call c=>match c.callee with
   | .builtin b=>oG G hp nx b c.argTypes.toList (c.args.toList.map rd) K
   | .value f=>match rd f with| .one (.l (.fn f))=>To G hp nx f (c.args.toList.map rd) K|_=>none
   | .invoke _ _=>none
 |_=>none
def St.put (S:St) (d:Option Tmp) (v:AV):St:=match d with|none=>S|some d=>{S with sl:=fun j=>bif j==d then v else S.sl j}
def St.HN (S:St) (d:Option Tmp) (E:kG):St:={sl:=(S.put d E.v).sl,hp:=jh S.hp E.up,nx:=E.nx}
def BD (ops:Array Oper) (j:Nat):Option Tmp:=match ops[j]? with|some o=>o.dst|none=>none
structure Oe where
 o:Oper
 w:List Nat
 ids:List Nat
def aaB:LV->List Nat
 | .own id=>[id]
 | .sub id _ _=>[id]
 | .inner id _ _ _=>[id]
 | .je id _=>[id]
 | .arr id _=>[id]
 | .vc id _ _=>[id]
 | .CO id _ _ _ _=>[id]
 |_=>[]
def aaC:A1->List Nat
 | .l x=>aaB x
 | .agg xs=>xs.flatMap aaB
def acZ:AV->List Nat
 | .one x=>aaC x
 | .KY xs=>xs.flatMap aaC
def I0 (rd:Operand->AV) (o:Op):List Nat:=match o with
 | .move _=>[]
 | .assign _=>[]
 | .pick _ _ _=>[]
 | .extract _ _=>[]
 | .nilCheck _=>[]
 | .binOp _ _ _ _ _=>[]
 | .unOp _ _ _=>[]
 |o=>o.operands.toList.flatMap fun x=>acZ (rd x)
def cut (hp:Nat->Option aQ) (ids:List Nat):Nat->Option aQ:=fun j=>bif ids.elem j then hp j else none
def Og (n:Nat) (E:kG):Bool:=Nat.ble n E.nx&&E.up.all fun p=>Nat.blt p.1 E.nx
def writes (n:Nat) (E:kG):List Nat:=E.up.map (·.1)++List.range' n (E.nx-n)
def yz (n:Nat):kG:=⟨.l .undef,[],n,[],[]⟩
def Oh (G:jZ R) (ops:Array Oper) (draw:Bool) (o:Oper) (S:St) (K:St->Oe->Option R):Option R:=
 let exec (S:St):Option R:=lW G o.op S.sl (bif draw then cut S.hp (I0 (St.rd G.nt S.sl) o.op) else S.hp) S.nx fun E=>bif Og S.nx E then K (S.HN o.dst E) ⟨o,writes S.nx E,I0 (St.rd G.nt S.sl) o.op⟩ else none
 let skip (S:St):Option R:=K (S.HN o.dst (yz S.nx)) ⟨o,[],[]⟩
 bif (match o.dst with|some d=>Nat.blt d G.nt|none=>true) then match o.guard with
 |none=>exec S
 |some (j,want)=>match BD ops j with
  |none=>none
  |some t=>bif Nat.blt t G.nt then match S.sl t with
   | .one (.l (.b x))=>(match x with
     |true=>bif want then exec (S.put (some t) (.l (.b true))) else skip (S.put (some t) (.l (.b true)))
     |false=>bif want then skip (S.put (some t) (.l (.b false))) else exec (S.put (some t) (.l (.b false))))
   | .one (.l .undef)=>skip S
   |_=>none
   else none
 else none
def PF (G:jZ R) (ops:Array Oper) (draw:Bool):List Oper->St->List Oe->(St->List Oe->Option R)->Option R
 | [],S,L,K=>K S L
 |o::rest,S,L,K=>Oh G ops draw o S fun S l=>PF G ops draw rest S (l::L) K
def BF (acc:List Nat) (o:Oper):Nat:=o.after.toList.foldr (fun e s=>bif Region.binds .any e then (2^e.on ||| (acc[e.on]?.getD 0) ||| s) else s) 0
def qP:List Nat->List Oper->List Nat
 |acc,[]=>acc
 |acc,o::ops=>qP (acc++[BF acc o]) ops
def indep (ops:Array Oper) (a b:Oe):Bool:=
 a.o.apart ops b.o&&b.o.apart ops a.o&&sS a.w b.w&&sS a.w b.ids&&sS b.w a.ids
def Km (ops:Array Oper) (bk:Nat) (lk:Oe):Nat->List Oe->Bool
 |_,[]=>true
 |i,l::ls=>(Nat.testBit bk i||indep ops l lk)&&Km ops bk lk (i+1) ls
def Kl (ops:Array Oper):List Oe->List Nat->List Oe->Bool
 |_,_,[]=>true
 |_,[],_=>false
 |done,b::bs,l::ls=>Km ops b l 0 done&&l.o.after.toList.all (fun e=> !Region.binds .any e||Nat.blt e.on done.length)&&Kl ops (done++[l]) bs ls
def F_ (G:jZ R) (ops:Array Oper) (draw:Bool) (S:St) (K:St->Option R):Option R:=
 PF G ops draw ops.toList S [] fun S L=>bif draw then (bif Kl ops [] (qP [] ops.toList) L.reverse then K S else none) else K S
def idx:Nat->List Nat->Option Nat
 |_,[]=>none
 |x,y::l=>bif x==y then some 0 else (match idx x l with|some i=>some (i+1)|none=>none)
def zB (olds:List Nat) (hp:Nat->Option aQ):LV->LV
 | .own id=>match idx id olds with|some j=> .own j|none=> .any
 | .sub id lo hi=>match idx id olds with|some j=> .sub j lo hi|none=> .any
 | .je id k=>match idx id olds with|some j=> .je j k|none=> .any
 | .vc id i f=>match idx id olds with|some j=> .vc j i f|none=> .any
 | .arr id n=>match idx id olds with|some j=> .arr j n|none=> .any
 | .inner _ _ _ _=> .any
 | .CO _ _ _ _ _=> .any
 |x=>x
def PH (olds:List Nat) (hp:Nat->Option aQ):A1->A1
 | .l x=> .l (zB olds hp x)
 | .agg xs=> .agg (xs.map (zB olds hp))
def Wx (olds:List Nat) (hp:Nat->Option aQ):AV->AV
 | .one x=> .one (PH olds hp x)
 | .KY xs=> .KY (xs.map (PH olds hp))
def yB (olds:List Nat) (hp:Nat->Option aQ):aQ->aQ
 | .row _ _ r=> .row 0 0 r
 | .hole _ _ r i f=> .hole 0 0 r i f
 | .box _ cells=> .box 0 (cells.map (zB olds hp))
 | .gW=> .gW
def Tx (l:List (Option aQ)) (j:Nat):Option aQ:=match l[j]? with|some r=>r|none=>none
def Aj (l:List (Nat×AV)) (j:Nat):AV:=match look l j with|some v=>v|none=> .l .any
def pairUp:List Nat->List AV->List (Nat×AV)
 |t::ts,v::vs=>(t,v)::pairUp ts vs
 |_,_=>[]
def bZ (live:List Nat) (vs:List AV) (hs:List (Option aQ)):St:=⟨Aj (pairUp live vs),Tx hs,hs.length⟩
def yA (hp:Nat->Option aQ):Nat->LV->List Nat->List Nat
 |d,x,acc=>match (match x with| .own id=>some id| .sub id _ _=>some id| .je id _=>some id| .vc id _ _=>some id| .arr id _=>some id|_=>none) with
  |none=>acc
  |some id=>bif acc.elem id then acc else match hp id with
   |none=>acc
   |some (.box _ cells)=>match d with
    |0=>acc++[id]
    |d+1=>cells.foldl (fun acc x=>yA hp d x acc) (acc++[id])
   |some _=>acc++[id]
def Kn (hp:Nat->Option aQ) (x:AV) (acc:List Nat):List Nat:=match x with
 | .one (.l x)=>yA hp 3 x acc
 | .one (.agg xs)=>xs.foldl (fun acc x=>yA hp 3 x acc) acc
 | .KY _=>acc
def Ah (live:List Nat) (S:St):List Nat:=live.foldl (fun acc t=>Kn S.hp (S.sl t) acc) []
def xS (live:List Nat) (S:St):List AV:=live.map fun t=>Wx (Ah live S) S.hp (S.sl t)
def wK (live:List Nat) (S:St):List (Option aQ):=(Ah live S).map fun id=>(S.hp id).map (yB (Ah live S) S.hp)
def EA (hp:Nat->Option aQ):LV->Option (LV×Option Nat)
 | .own id=>match hp id with
   |some (.row _ _ r)=>some (.val false r.jw,some id)
   |_=>none
 | .val _ r=>some (.val false r,none)
 |_=>none
def sQ (hp:Nat->Option aQ):Option Nat->Nat->Option aQ
 |some id=>fun j=>bif j==id then none else hp j
 |none=>hp
def N4 (t j:Nat) (S:St):St:=match S.sl t with
 | .one (.agg xs)=>match xs[j]? with
   |some x=>match EA S.hp x with
    |some (y,o)=>⟨fun i=>bif i==t then .one (.agg (xs.set j y)) else S.sl i,sQ S.hp o,S.nx⟩
    |none=>S
   |none=>S
 | .one (.l (.je id _))=>match S.hp id with
   |some (.box bt cells)=>match cells[j]? with
    |some x=>match EA S.hp x with
     |some (y,o)=>⟨S.sl,fun i=>bif i==id then some (.box bt (cells.set j y)) else sQ S.hp o i,S.nx⟩
     |none=>S
    |none=>S
   |_=>S
 |_=>S
def QE (t:Nat) (S:St):St:=match S.sl t with
 | .one (.l (.own id))=>match S.hp id with
   |some (.row _ _ r)=>⟨fun j=>bif j==t then .one (.l (.val false r.jw)) else S.sl j,fun j=>bif j==id then none else S.hp j,S.nx⟩
   |_=>S
 | .one (.l (.sub id lo hi))=>match S.hp id with
   |some (.row _ _ r)=>⟨fun j=>bif j==t then .one (.l (.val false ((r.jw.take hi).drop lo))) else S.sl j,fun j=>bif j==id then none else S.hp j,S.nx⟩
   |_=>S
 | .one (.l (.val _ r))=>⟨fun j=>bif j==t then .one (.l (.val false r)) else S.sl j,S.hp,S.nx⟩
 | .one (.agg xs)=>(List.range xs.length).foldl (fun S j=>N4 t j S) S
 | .one (.l (.je id _))=>match S.hp id with
   |some (.box _ cells)=>(List.range cells.length).foldl (fun S j=>N4 t j S) S
   |_=>S
 |_=>S
def S_ (n:Nat):Row:=match n%8 with
 |0=> .ints .i64 []
 |1=> .ints .u8 []
 |2=> .eQ []
 |3=> .strs []
 |4=> .rows true []
 |_=> .ek ((List.range (n/8%64)).map fun i=>Nat.testBit (n/512) i) true []
def Mb (t j:Nat) (r:Row) (S:St):St:=match S.sl t with
 | .one (.l .nil)=>⟨fun i=>bif i==t then .one (.l (.own S.nx)) else S.sl i,fun i=>bif i==S.nx then some (.row 0 0 r) else S.hp i,S.nx+1⟩
 | .one (.agg xs)=>match xs[j]? with
   |some .nil=>⟨fun i=>bif i==t then .one (.agg (xs.set j (.own S.nx))) else S.sl i,fun i=>bif i==S.nx then some (.row 0 0 r) else S.hp i,S.nx+1⟩
   |_=>S
 | .one (.l (.je id _))=>match S.hp id with
   |some (.box bt cells)=>match cells[j]? with
    |some .nil=>⟨S.sl,fun i=>bif i==id then some (.box bt (cells.set j (.own S.nx))) else bif i==S.nx then some (.row 0 0 r) else S.hp i,S.nx+1⟩
    |_=>S
   |_=>S
 |_=>S
def aaf (x:Nat) (S:St):St:=Mb (x%4096) (x/4096%64) (S_ (x/262144)) S
def uk (ts:List Nat) (S:St):St:=ts.foldl (fun S t=>bif Nat.blt 999999999 t then aaf (t-1000000000) S else QE t S) S
def kD:Code->Option Nat
 | .region id _ _=>some id
 | .seq a b=>match kD a with|some i=>some i|none=>kD b
 | .cond _ a b=>match kD a with|some i=>some i|none=>kD b
 | .block _ b=>kD b
 | .loop b=>kD b
 |_=>none
def oO (live:List (Nat×List Nat)) (c:Code):List Nat:=match kD c with|some i=>(look live i).getD []|none=>[]
def Kq (live:List (Nat×List Nat)) (c:Code):List Nat:=match kD c with|some i=>(look live (i+100000)).getD []|none=>[]
def wL (live:List (Nat×List Nat)) (c:Code):List Nat:=match kD c with|some i=>(look live (i+200000)).getD []|none=>[]
def Gc (live:List (Nat×List Nat)) (c:Code):List Nat:=match kD c with|some i=>(look live (i+300000)).getD []|none=>[]
def Tz (live:List Nat) (S:St):St:=bZ live (xS live S) (wK live S)
abbrev yV (R:Type):=Nat->(X->St->Option R)->List AV->List (Option aQ)->Option R
def keyOf (c:Code):Nat:=match kD c with|some i=>i|none=>0
def ac0 (f:(X->St->Option R)->St->Option R) (K:X->St->Option R):X->St->Option R:=fun x S=>match x with| .normal=>f K S|x=>K x S
def TB (id:Nat) (K:X->St->Option R):X->St->Option R:=fun x S=>match x with| .exit j=>(bif j==id then K .normal S else K (.exit j) S)|x=>K x S
def ev (G:jZ R) (live:List (Nat×List Nat)) (Λ:yV R):Code->(X->St->Option R)->St->Option R
 | .skip,K,S=>K .normal S
 | .region _ ops draw,K,S=>F_ G ops draw S (K .normal)
 | .seq a b,K,S=>ev G live Λ a (ac0 (ev G live Λ b) K) S
 | .cond c a b,K,S=>match St.rd G.nt S.sl c with
   | .one (.l (.b x))=>(match x with
     |true=>ev G live Λ a K (match c with| .tmp t=>S.put (some t) (.l (.b true))|_=>S)
     |false=>ev G live Λ b K (match c with| .tmp t=>S.put (some t) (.l (.b false))|_=>S))
   |_=>none
 | .block id body,K,S=>ev G live Λ body (TB id K) S
 | .loop body,K,S=>Λ (keyOf body) K (xS (oO live body) (uk (wL live body) S)) (wK (oO live body) (uk (wL live body) S))
 | .exit id,K,S=>K (.exit id) S
 | .ret,K,S=>K .ret S
 |_,_,_=>none
def iter {A:Type} (step:(A->Option R)->A->Option R):Nat->A->Option R
 |0,_=>none
 |n+1,a=>step (iter step n) a
def vT (tt:TT) (t:Nat) (d:DL) (nx:Nat):Option (LV×List (Nat×Option aQ)×Nat):=
 match d with
 | .i k n=>some (.i k n,[],nx)
 | .b x=>some (.b x,[],nx)
 | .s x=>some (.s x,[],nx)
 | .er x=>some (.er x,[],nx)
 | .sl .jw r=>some (.val true r,[],nx)
 | .sl .bi r=>some (.val false r,[],nx)
 | .sl .own r=>match nu tt t with
   |some e=>some (.own nx,[(nx,some (.row e 0 r))],nx+1)
   |none=>none
def nK (tt:TT):List Nat->List DL->Nat->Option (List LV×List (Nat×Option aQ)×Nat)
 | [],[],nx=>some ([],[],nx)
 |t::ts,d::ds,nx=>match vT tt t d nx with
  |some (x,up,nx)=>match nK tt ts ds nx with
   |some (xs,jW,nx)=>some (x::xs,up++jW,nx)
   |none=>none
  |none=>none
 |_,_,_=>none
def aaL (tt:TT) (t:Nat) (d:DV) (nx:Nat):Option (AV×List (Nat×Option aQ)×Nat):=
 match d with
 | .l d=>match vT tt t d nx with|some (x,up,nx)=>some (.l x,up,nx)|none=>none
 | .agg ds=>match nK tt (bn tt depth t) ds nx with|some (xs,up,nx)=>some (.one (.agg xs),up,nx)|none=>none
 | .ptr ds=>match tt t with
   |some ⟨.ptr e,_,_⟩=>match nK tt (bn tt depth e) ds (nx+1) with
    |some (xs,up,tO)=>some (.l (.je nx 0),up++[(nx,some (.box e xs))],tO)
    |none=>none
   |_=>none
def kC (tt:TT):List Nat->List DV->Nat->Option (List AV×List (Nat×Option aQ)×Nat)
 | [],[],nx=>some ([],[],nx)
 |t::ts,d::ds,nx=>match aaL tt t d nx with
  |some (x,up,nx)=>match kC tt ts ds nx with
   |some (xs,jW,nx)=>some (x::xs,up++jW,nx)
   |none=>none
  |none=>none
 |_,_,_=>none
def kT:Nat->List AV->List (Nat×AV)
 |_,[]=>[]
 |i,x::xs=>(i,x)::kT (i+1) xs
def yv (tt:TT) (hp:Nat->Option aQ) (oc:o8) (t:Nat) (x:LV):Option (DL×List Nat×List Nat):=
 match x with
 | .i k n=>some (.i k n,[],[])
 | .b x=>some (.b x,[],[])
 | .s x=>some (.s x,[],[])
 | .er x=>some (.er x,[],[])
 | .nil=>match nu tt t with
   |some e=>match eT tt e with
    |some r=>(match oc with| .own=>some (.sl .own r,[],[])|c=>some (.sl c r.jw,[],[]))
    |none=>none
   |none=>none
 | .own id=>match hp id with
   |some (.row _ _ r)=>(match oc with
    | .own=>bif r.owned then some (.sl .own r,[id],[]) else none
    | .jw=>bif r.owned then some (.sl .jw r.jw,[],[id]) else none
    | .bi=>some (.sl .bi r.jw,[],[id]))
   |_=>none
 | .sub id lo hi=>match hp id with
   |some (.row _ _ r)=>(match oc with
    | .own=>(bif Nat.beq lo 0&&r.owned then some (.sl .own (r.take hi),[id],[]) else none)
    | .jw=>(bif r.owned then some (.sl .jw ((r.jw.take hi).drop lo),[],[id]) else none)
    |_=>none)
   |_=>none
 | .val p r=>(match oc with| .own=>none| .jw=>(bif p then some (.sl .jw r,[],[]) else none)| .bi=>some (.sl .bi r,[],[]))
 |_=>none
def sP (tt:TT) (hp:Nat->Option aQ) (oc:o8):List Nat->List LV->Option (List DL×List Nat×List Nat)
 | [],[]=>some ([],[],[])
 |t::ts,x::xs=>match yv tt hp oc t x with
  |some (d,ks,fk)=>match sP tt hp oc ts xs with
   |some (ds,ks',M_)=>some (d::ds,ks++ks',fk++M_)
   |none=>none
  |none=>none
 |_,_=>none
def J5 (tt:TT) (hp:Nat->Option aQ) (oc:o8) (t:Nat) (x:AV):Option (DV×List Nat×List Nat):=
 match x with
 | .one (.l x)=>match IQ x with
  |some id=>match FK tt hp t id with|some ds=>some (.ptr ds,[id],[])|none=>none
  |none=>match yv tt hp oc t x with|some (d,ks,fk)=>some (.l d,ks,fk)|none=>none
 | .one (.agg xs)=>match sP tt hp oc (bn tt depth t) xs with|some (ds,ks,fk)=>some (.agg ds,ks,fk)|none=>none
 | .KY _=>none
def tI (tt:TT) (hp:Nat->Option aQ) (oc:o8):List Nat->List AV->Option (List DV×List Nat×List Nat)
 | [],[]=>some ([],[],[])
 |t::ts,x::xs=>match J5 tt hp oc t x with
  |some (d,ks,fk)=>match tI tt hp oc ts xs with
   |some (ds,ks',M_)=>some (d::ds,ks++ks',fk++M_)
   |none=>none
  |none=>none
 |_,_=>none
def qe (tt:TT) (nt:Nat) (S:St):List ResultVar->Option (List AV)
 | []=>some []
 | .tmp t::rs=>bif Nat.blt t nt then (match qe tt nt S rs with|some xs=>some (S.sl t::xs)|none=>none) else none
 | .cell p t::rs=>bif Nat.blt p nt&&fT tt t then (match S.sl p with
   | .one (.l (.je id 0))=>match S.hp id with
     |some (.box _ cells)=>bif cells.length==cJ tt t then (match qe tt nt S rs with|some xs=>some (.one (.agg cells)::xs)|none=>none) else none
     |_=>none
   |_=>none) else none
def xH:Nat->List Mode->List Nat->List (Nat×Nat)
 |i,m::ms,t::ts=>(match m with| .io=>[(t,i)]|_=>[])++xH (i+1) ms ts
 |_,_,_=>[]
def finish (tt:TT) (g:yb) (fn:Func) (S:St) (K:List DV->Option R):Option R:=
 match qe tt fn.ntmps S fn.results.toList with
 |none=>none
 |some vs=>match tI tt S.hp g.oc g.results vs with
  |none=>none
  |some (ds,ks,fk)=>
   let ios:=xH fn.ntmps g.kS g.params
   match tI tt S.hp .own (ios.map (·.1)) (ios.map fun p=>S.sl p.2) with
   |none=>none
   |some (Aw,ks',M_)=>bif FQ (ks++ks' ++(fk++M_)) then K (ds++Aw) else none
def Wy (live:List (Nat×List Nat)):Bool:=match look live 400000 with|some _=>true|none=>false
def EE (UA:Bool) (tt:TT) (g:yb) (fn:Func) (S:St) (K:List DV->Option R):Option R:=bif UA then (match finish (R:=List DV) tt (g.to .own) fn S some with
 |some rs=>K rs
 |none=>finish tt g fn S K) else finish tt g fn S K
def NW (G:jZ R) (live:List (Nat×List Nat)) (Λ:yV R) (g:yb) (fn:Func) (ds:List DV) (K:List DV->Option R):Option R:=
 match kC G.tt g.params ds 0,fn.body with
 |some (xs,up,nx),some body=>
  ev G live Λ body (fun x S=>match x with
   | .exit _=>none
   |_=>EE (Wy live) G.tt g fn S K) ⟨Aj (bif wN g.kS then kT 0 xs else kT 0 xs++kT fn.ntmps xs),jh (fun _=>none) up,nx⟩
 |_,_=>none
def WA (vs:List AV) (K:AV->List AV->Option R):Option R:=match vs with|v::vs=>K v vs|_=>none
def aaD (vs:List AV) (K:Option R):Option R:=match vs with| []=>K|_=>none
def WB (hs:List (Option aQ)) (K:Option aQ->List (Option aQ)->Option R):Option R:=match hs with|r::hs=>K r hs|_=>none
def aaE (hs:List (Option aQ)) (K:Option R):Option R:=match hs with| []=>K|_=>none
def vL (v:AV) (K:LV->Option R):Option R:=match v with| .one (.l x)=>K x|_=>none
def Yc (v:AV) (K:List LV->Option R):Option R:=match v with| .one (.agg x)=>K x|_=>none
def WC (xs:List LV) (K:LV->List LV->Option R):Option R:=match xs with|x::xs=>K x xs|_=>none
def aaF (xs:List LV) (K:Option R):Option R:=match xs with| []=>K|_=>none
def lI (k:IntKind) (x:LV) (K:Int->Option R):Option R:=match x with| .i k' n=>(bif decide (k=k') then K n else none)|_=>none
def lB (x:LV) (K:Bool->Option R):Option R:=match x with| .b b=>K b|_=>none
def lS (x:LV) (K:BA->Option R):Option R:=match x with| .s s=>K s|_=>none
def lE (x:LV) (K:Bool->Option R):Option R:=match x with| .er b=>K b|_=>none
def Yd (id:Nat) (x:LV) (K:Option R):Option R:=match x with| .own j=>(bif j==id then K else none)|_=>none
def Ye (id:Nat) (x:LV) (K:Nat->Nat->Option R):Option R:=match x with| .sub j lo hi=>(bif j==id then K lo hi else none)|_=>none
def Yf (id k:Nat) (x:LV) (K:Option R):Option R:=match x with| .je j k'=>(bif j==id&&k' ==k then K else none)|_=>none
def Yg (id n:Nat) (x:LV) (K:Option R):Option R:=match x with| .arr j m=>(bif j==id&&m==n then K else none)|_=>none
def Yh (x:LV) (K:Option R):Option R:=match x with| .any=>K|_=>none
def TD (x:LV) (K:Option R):Option R:=match x with| .nil=>K|_=>none
def Yi (p:Bool) (x:LV) (K:Row->Option R):Option R:=match x with| .val p' r=>(bif p' ==p then K r else none)|_=>none
def Ol (k:IntKind) (r:Row) (K:List Int->Option R):Option R:=match r with| .ints k' l=>(bif decide (k=k') then K l else none)|_=>none
def Kw (r:Row) (K:List Bool->Option R):Option R:=match r with| .eQ l=>K l|_=>none
def Om (r:Row) (K:List BA->Option R):Option R:=match r with| .strs l=>K l|_=>none
def On (o:Bool) (r:Row) (K:List (List Int)->Option R):Option R:=match r with| .rows o' l=>(bif o' ==o then K l else none)|_=>none
def Oo (sg:List Bool) (o:Bool) (r:Row) (K:List (List iQ)->Option R):Option R:=match r with| .ek Wz o' l=>(bif Wz==sg&&o' ==o then K l else none)|_=>none
def Yj (x:Option aQ) (K:Row->Option R):Option R:=match x with|some (.row 0 0 r)=>K r|_=>none
def Yk (x:Option aQ) (K:List LV->Option R):Option R:=match x with|some (.box 0 cells)=>K cells|_=>none
end
