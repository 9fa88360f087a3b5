/- The abstract evaluator's operations. Conditions: none; nothing is proved in this text. -/
import Derived.Test.YtfkejiljabmaaaaVDefs
set_option linter.unusedVariables false
namespace Go.Proofs.Ytfkejiljabmaaaa.V
open Go

/-- One slice as an element: is it owned, what it holds, the roots that are used up. -/
def elemSl (hp : Nat → Option Root) : LV → Option (Bool × List Int × List Nat)
  | .nil => some (true, [], [])
  | .val _ (.ints .i64 l) => some (false, l, [])
  | .own id => match hp id with | some (.row _ _ (.ints .i64 l)) => some (true, l, [id]) | _ => none
  | .sub id 0 hi => match hp id with | some (.row _ _ (.ints .i64 l)) => some (true, l.take hi, [id]) | _ => none
  | _ => none
def kill (hp : Nat → Option Root) (ids : List Nat) : Nat → Option Root := fun j => bif ids.elem j then none else hp j
/-- A struct's cells as an element. -/
def elemRec (hp : Nat → Option Root) : List Bool → List LV → Option (Bool × List Leaf × List Nat)
  | [], [] => some (true, [], [])
  | false :: sg, .i .i64 n :: xs => match elemRec hp sg xs with
    | some (o, r, ks) => some (o, .int n :: r, ks)
    | none => none
  | true :: sg, x :: xs => match elemSl hp x with
    | some (o, l, ks) => match elemRec (kill hp ks) sg xs with
      | some (o', r, ks') => some (o && o', .ints l :: r, ks ++ ks')
      | none => none
    | none => none
  | _, _ => none
/-- Values as a row of the given empty row's kind: the row, the roots used up. -/
def rowOf (hp : Nat → Option Root) : Row → List AV → Option (Row × List Nat)
  | r, [] => some (r, [])
  | .ints k _, .one (.l (.i k' n)) :: xs => bif decide (k = k') then
      match rowOf hp (.ints k []) xs with | some (.ints _ l, ks) => some (.ints k (n :: l), ks) | _ => none else none
  | .bools _, .one (.l (.b x)) :: xs => match rowOf hp (.bools []) xs with | some (.bools l, ks) => some (.bools (x :: l), ks) | _ => none
  | .strs _, .one (.l (.s x)) :: xs => match rowOf hp (.strs []) xs with | some (.strs l, ks) => some (.strs (x :: l), ks) | _ => none
  | .rows _ _, .one (.l x) :: xs => match elemSl hp x with
    | some (o, y, ks) => match rowOf (kill hp ks) (.rows true []) xs with
      | some (.rows o' l, ks') => some (.rows (o && o') (y :: l), ks ++ ks')
      | _ => none
    | none => none
  | .recs sg _ _, .one (.agg x) :: xs => match elemRec hp sg x with
    | some (o, y, ks) => match rowOf (kill hp ks) (.recs sg true []) xs with
      | some (.recs _ o' l, ks') => some (.recs sg (o && o') (y :: l), ks ++ ks')
      | _ => none
    | none => none
  | _, _ => none
def killUp (ids : List Nat) : List (Nat × Option Root) := ids.map fun j => (j, none)
/-- Two rows one behind the other. -/
def Row.app : Row → Row → Option Row
  | .ints k l, .ints k' l' => bif decide (k = k') then some (.ints k (l ++ l')) else none
  | .bools l, .bools l' => some (.bools (l ++ l'))
  | .strs l, .strs l' => some (.strs (l ++ l'))
  | .rows o l, .rows o' l' => some (.rows (o && o') (l ++ l'))
  | .recs sg o l, .recs sg' o' l' => bif sg == sg' then some (.recs sg (o && o') (l ++ l')) else none
  | _, _ => none
def setMany (l : List LV) (k : Nat) : List LV → List LV
  | [] => l
  | x :: xs => setMany (l.set k x) (k + 1) xs
/-- An element's cell as it is loaded from a row of the call's own. -/
def loadOwn (id ver i : Nat) : Row → (f : Nat) → Bool → AV
  | .ints k l, _, _ => .l (.i k (l.getD i 0))
  | .bools l, _, _ => .l (.b (l.getD i false))
  | .strs l, _, _ => .l (.s (l.getD i ByteArray.empty))
  | .rows _ _, _, _ => .l (.inner id ver i 0)
  | .recs sg _ l, f, agg => bif agg then .one (.agg (sg.zipIdx.map fun (b, f) => bif b then .inner id ver i f else .i .i64 (gi (l.getD i []) f)))
    else match sg[f]? with
      | some true => .l (.inner id ver i f)
      | some false => .l (.i .i64 (gi (l.getD i []) f))
      | none => .l .any
def loadVal (p : Bool) (i : Nat) : Row → (f : Nat) → Bool → AV
  | .ints k l, _, _ => .l (.i k (l.getD i 0))
  | .bools l, _, _ => .l (.b (l.getD i false))
  | .strs l, _, _ => .l (.s (l.getD i ByteArray.empty))
  | .rows _ l, _, _ => .l (.val p (.ints .i64 (l.getD i [])))
  | .recs sg _ l, f, agg => bif agg then .one (.agg (sg.zipIdx.map fun (b, f) => bif b then .val p (.ints .i64 (gl (l.getD i []) f)) else .i .i64 (gi (l.getD i []) f)))
    else match sg[f]? with
      | some true => .l (.val p (.ints .i64 (gl (l.getD i []) f)))
      | some false => .l (.i .i64 (gi (l.getD i []) f))
      | none => .l .any
/-- One leaf anew. -/
def setLeaf (sg : List Bool) (r : List Leaf) (f : Nat) (x : Leaf) : List Leaf := sg.zipIdx.map fun (b, g) => bif g == f then x else bif b then .ints (gl r g) else .int (gi r g)
/-- An element's cell stored. -/
def storeOwn (hp : Nat → Option Root) (agg : Bool) (i : Nat) (f : Nat) (x : AV) : Row → Option (Row × List Nat × Bool)
  | .ints k l => match x with | .one (.l (.i k' n)) => bif decide (k = k') then some (.ints k (l.set i n), [], false) else none | _ => none
  | .bools l => match x with | .one (.l (.b n)) => some (.bools (l.set i n), [], false) | _ => none
  | .strs l => match x with | .one (.l (.s n)) => some (.strs (l.set i n), [], false) | _ => none
  | .rows o l => match x with
    | .one (.l x) => match elemSl hp x with | some (o', y, ks) => some (.rows (o && o') (l.set i y), ks, true) | none => none
    | _ => none
  | .recs sg o l => match x with
    | .one (.agg xs) => bif agg then (match elemRec hp sg xs with | some (o', y, ks) => some (.recs sg (o && o') (l.set i y), ks, true) | none => none) else none
    | .one (.l (.i .i64 n)) => bif agg then none else (match sg[f]? with | some false => some (.recs sg o (l.set i (setLeaf sg (l.getD i []) f (.int n))), [], true) | _ => none)
    | _ => none
def setInner (i j : Nat) (n : Int) : Row → Option Row
  | .rows true l => some (.rows true (l.set i ((l.getD i []).set j n)))
  | _ => none
def innerOf (r : Row) (i f : Nat) : List Int := match r with
  | .rows _ l => l.getD i []
  | .recs _ _ l => gl (l.getD i []) f
  | _ => []
def setInnerRow (i f : Nat) (y : List Int) : Row → Option Row
  | .rows true l => some (.rows true (l.set i y))
  | .recs sg true l => match sg[f]? with | some true => some (.recs sg true (l.set i (setLeaf sg (l.getD i []) f (.ints y)))) | _ => none
  | _ => none
def strOf (l : List Int) : ByteArray := ⟨(l.map fun n => UInt8.ofNat n.toNat).toArray⟩
def sb (s : ByteArray) (i : Nat) : Int := ((s.data[i]?).getD 0).toNat
def isStruct (tt : TT) (t : Nat) : Bool := match tt t with | some ⟨.struct _, _, _⟩ => true | _ => false
def elemTy (tt : TT) (t : Nat) : Option Nat := match tt t with | some ⟨.slice e, _, _⟩ => some e | _ => none
def bytesOf (tt : TT) (t : Nat) : Nat := match tt t with | some e => e.bytes | none => 0
def sizeOf' (tt : TT) (t : Nat) : Nat := match tt t with | some e => e.size | none => 0
/-- A type of one cell. -/
def scalarTy (tt : TT) (t : Nat) : Bool := match tt t with
  | some ⟨.int _, _, _⟩ => true
  | some ⟨.bool, _, _⟩ => true
  | some ⟨.str, _, _⟩ => true
  | some ⟨.slice _, _, _⟩ => true
  | some ⟨.ptr _, _, _⟩ => true
  | some ⟨.err, _, _⟩ => true
  | _ => false
def elSize (tt : TT) (t : Nat) : Nat := match tt t with | some ⟨.slice e, _, _⟩ => sizeOf' tt e | _ => 0
def szOK (tt : TT) (t : Nat) (r : Row) : Bool := elSize tt t == r.size && Nat.blt 0 r.size

section
variable {R : Type}
def ret1 (nx : Nat) (v : AV) (K : Eff → Option R) : Option R := K ⟨v, [], nx, [], []⟩
def asI (x : AV) (K : Int → Option R) : Option R := match x with | .one (.l (.i _ n)) => K n | _ => none

def evAlloc (tt : TT) (nx : Nat) (t : Nat) (K : Eff → Option R) : Option R :=
  match tt t with
  | some ⟨.struct _, _, _⟩ => K ⟨.l (.bptr nx 0), [(nx, some (.box t ((leafTypes tt depth t).map (zeroLV tt))))], nx + 1, [], []⟩
  | some ⟨.array n e, _, _⟩ => match emptyRow tt e with
    | some r => bif Nat.blt 0 n && r.size == 1 && !r.deep then K ⟨.l (.arr nx n), [(nx, some (.row t 0 (zeroRow n r)))], nx + 1, [], []⟩ else none
    | none => none
  | some _ => bif scalarTy tt t then K ⟨.l (.bptr nx 0), [(nx, some (.box t [zeroLV tt t]))], nx + 1, [], []⟩ else none
  | none => none
def evBox (tt : TT) (hp : Nat → Option Root) (nx : Nat) (t : Nat) (x : AV) (K : Eff → Option R) : Option R :=
  match tt t with
  | some ⟨.array _ _, _, _⟩ => none
  | some e => match aggCells hp x with
    | some xs => K ⟨.l (.bptr nx 0), [(nx, some (.box t xs))], nx + 1, [], []⟩
    | none => none
  | none => none
def fillParts (tt : TT) (hp : Nat → Option Root) (fs : List (Nat × Nat)) (zero : List LV) : List (Nat × AV) → Option (List LV)
  | [] => some zero
  | (i, x) :: ps => match fs[i]?, aggCells hp x with
    | some (off, ft), some xs => match tt ft with
      | some e => bif xs.length == e.size && Nat.ble (off + xs.length) zero.length then fillParts tt hp fs (setMany zero off xs) ps else none
      | none => none
    | _, _ => none
def evBuild (tt : TT) (hp : Nat → Option Root) (nx : Nat) (t : Nat) (parts : List (Nat × AV)) (K : Eff → Option R) : Option R :=
  match tt t with
  | some ⟨.struct fs, _, _⟩ => match fillParts tt hp fs ((leafTypes tt depth t).map (zeroLV tt)) parts with
    | some xs => ret1 nx (.one (.agg xs)) K
    | none => none
  | some ⟨.array n e, _, _⟩ => match parts, tt e with
    | [], some _ => ret1 nx (.one (.agg (List.replicate n (zeroLV tt e)))) K
    | _, _ => none
  | _ => none
def inOrder : Nat → List (Nat × AV) → Option (List AV)
  | _, [] => some []
  | i, (j, x) :: ps => bif i == j then (match inOrder (i + 1) ps with | some xs => some (x :: xs) | none => none) else none
def evBuildSlice (tt : TT) (hp : Nat → Option Root) (nx : Nat) (t len : Nat) (parts : List (Nat × AV)) (K : Eff → Option R) : Option R :=
  match elemTy tt t with
  | some e => match emptyRow tt e, inOrder 0 parts with
    | some r0, some xs => bif xs.length == len && Nat.ble (len * r0.size) 16777216 then (match rowOf hp r0 xs with
      | some (r, ks) => K ⟨.l (.own nx), killUp ks ++ [(nx, some (.row e 0 r))], nx + 1, [], ks⟩
      | none => none) else none
    | _, _ => none
  | none => none
def evLoad (tt : TT) (hp : Nat → Option Root) (nx : Nat) (t : Nat) (p : AV) (K : Eff → Option R) : Option R :=
  match p with
  | .one (.l (.bptr id k)) => match hp id with
    | some (.box _ cells) => bif isStruct tt t then (bif Nat.ble (k + sizeOf' tt t) cells.length then K ⟨.one (.agg ((cells.drop k).take (sizeOf' tt t))), [], nx, [], [id]⟩ else none)
      else bif scalarTy tt t then (match cells[k]? with | some x => K ⟨.l x, [], nx, [], [id]⟩ | none => none) else none
    | _ => none
  | .one (.l (.eptr id i f)) => match hp id with
    | some (.row _ ver r) => bif (bif isStruct tt t then sizeOf' tt t == r.size && f == 0 && r.isRecs else scalarTy tt t && Nat.blt f r.size) then K ⟨loadOwn id ver i r f (isStruct tt t), [], nx, [], [id]⟩ else none
    | _ => none
  | .one (.l (.vptr p r i f)) => bif (bif isStruct tt t then sizeOf' tt t == r.size && f == 0 && r.isRecs else scalarTy tt t && Nat.blt f r.size) then ret1 nx (loadVal p i r f (isStruct tt t)) K else none
  | .one (.l (.iptr id ver i f j)) => match hp id with
    | some (.row _ v r) => bif v == ver && scalarTy tt t then K ⟨.l (.i .i64 ((innerOf r i f).getD j 0)), [], nx, [], [id]⟩ else none
    | _ => none
  | _ => none
def arrRow (r : Row) (xs : List LV) : Option Row := match rowOf (fun _ => none) r (xs.map fun x => .l x) with | some (r, []) => some r | _ => none
def evStore (tt : TT) (hp : Nat → Option Root) (nx : Nat) (t : Nat) (p x : AV) (K : Eff → Option R) : Option R :=
  match p with
  | .one (.l (.bptr id k)) => match hp id, aggCells hp x with
    | some (.box bt cells), some xs => bif xs.length == sizeOf' tt t && Nat.blt 0 xs.length then (bif decide (k + xs.length ≤ cells.length) then
        K ⟨.l .undef, [(id, some (.box bt (setMany cells k xs)))], nx, [], [id]⟩ else none) else none
    | _, _ => none
  | .one (.l (.eptr id i f)) => match tt t with
    | some e => match hp id with
      | some (.row bt ver r) => bif (bif isStruct tt t then e.size == r.size && f == 0 && r.isRecs else scalarTy tt t && Nat.blt f r.size) then match storeOwn hp (isStruct tt t) i f x r with
        | some (r', ks, bump) => bif ks.elem id then none else K ⟨.l .undef, killUp ks ++ [(id, some (.row bt (bif bump then ver + 1 else ver) r'))], nx, [], id :: ks⟩
        | none => none
        else none
      | some (.hole bt ver (.rows true l) i' f') => bif f == 0 && scalarTy tt t then chk (i == i') (match x with
        | .one (.l x) => match elemSl hp x with
          | some (true, y, ks) => bif ks.elem id then none else K ⟨.l .undef, killUp ks ++ [(id, some (.row bt (ver + 1) (.rows true (l.set i y))))], nx, [], id :: ks⟩
          | _ => none
        | _ => none) else none
      | _ => none
    | none => none
  | .one (.l (.arr id m)) => match tt t with
    | some ⟨.array n e, _, _⟩ => match hp id, x, emptyRow tt e with
      | some (.row bt ver r), .one (.agg xs), some r0 => bif xs.length == n && m == n && r0.size == 1 && !r0.deep && r.size == 1 && !r.deep && sizeOf' tt t == n && Nat.blt 0 n then (match arrRow r0 xs with
        | some r' => K ⟨.l .undef, [(id, some (.row bt (ver + 1) r'))], nx, [], [id]⟩
        | none => none) else none
      | _, _, _ => none
    | _ => none
  | .one (.l (.iptr id ver i f j)) => match hp id, x with
    | some (.row bt v r), .one (.l (.i .i64 n)) => bif v == ver && scalarTy tt t then (match setInner i j n r with
      | some r' => K ⟨.l .undef, [(id, some (.row bt v r'))], nx, [], [id]⟩
      | none => none) else none
    | _, _ => none
  | _ => none
def evIndexAddr (tt : TT) (hp : Nat → Option Root) (nx : Nat) (t : Nat) (x ix : AV) (K : Eff → Option R) : Option R :=
  asI ix fun i => match x with
  | .one (.l (.own id)) => match rowAt? hp id with
    | some r => bif szOK tt t r then chk (decide (0 ≤ i) && decide (i < r.len)) (K ⟨.l (.eptr id i.toNat 0), [], nx, [id], []⟩) else none
    | none => none
  | .one (.l (.sub id lo hi)) => match rowAt? hp id with
    | some r => bif szOK tt t r then chk (decide (0 ≤ i) && decide (i < ((hi - lo : Nat) : Int))) (K ⟨.l (.eptr id (lo + i.toNat) 0), [], nx, [id], []⟩) else none
    | none => none
  | .one (.l (.val p r)) => bif szOK tt t r then chk (decide (0 ≤ i) && decide (i < r.len)) (ret1 nx (.l (.vptr p r i.toNat 0)) K) else none
  | .one (.l (.inner id ver e f)) => match lenOf hp (.inner id ver e f) with
    | some (n, rl, rc) => bif elSize tt t == 1 then chk (decide (0 ≤ i) && decide (i < n)) (K ⟨.l (.iptr id ver e f i.toNat), [], nx, rl, rc⟩) else none
    | none => none
  | .one (.l (.arr id n)) => match tt t, rowAt? hp id with
    | some ⟨.array m e, _, _⟩, some r => bif m == n && sizeOf' tt e == r.size && Nat.blt 0 r.size then chk (decide (0 ≤ i) && decide (i < n)) (K ⟨.l (.eptr id i.toNat 0), [], nx, [id], []⟩) else none
    | _, _ => none
  | _ => none
def evFieldAddr (tt : TT) (hp : Nat → Option Root) (nx : Nat) (t : Nat) (x : AV) (f : Nat) (K : Eff → Option R) : Option R :=
  match tt t with
  | some ⟨.struct fs, _, _⟩ => match fs[f]? with
    | some (off, _) => match x with
      | .one (.l (.bptr id k)) => ret1 nx (.l (.bptr id (k + off))) K
      | .one (.l (.eptr id i g)) => match rowAt? hp id with | some _ => K ⟨.l (.eptr id i (g + off)), [], nx, [id], []⟩ | none => none
      | .one (.l (.vptr p r i g)) => ret1 nx (.l (.vptr p r i (g + off))) K
      | _ => none
    | none => none
  | _ => none
def optI (o : Option AV) (d : Int) (K : Int → Option R) : Option R := match o with | none => K d | some x => asI x K
def evSlice (tt : TT) (hp : Nat → Option Root) (nx : Nat) (t : Nat) (x : AV) (lo hi : Option AV) (K : Eff → Option R) : Option R :=
  match x with
  | .one (.l (.s s)) => match tt t with
    | some ⟨.str, _, _⟩ => optI hi s.size fun h => chk (decide (0 ≤ h) && decide (h ≤ s.size)) (optI lo 0 fun l => chk (decide (0 ≤ l) && decide (l ≤ h)) (ret1 nx (.l (.s (s.extract l.toNat h.toNat))) K))
    | _ => none
  | .one (.l (.own id)) => match rowAt? hp id with
    | some r => bif szOK tt t r then (match lo, hi with
      | none, none => ret1 nx (.l (.own id)) K
      | _, _ => optI hi r.len fun h => chk (decide (0 ≤ h) && decide (h ≤ r.len)) (optI lo 0 fun l => chk (decide (0 ≤ l) && decide (l ≤ h)) (K ⟨.l (.sub id l.toNat h.toNat), [], nx, [id], []⟩))) else none
    | none => none
  | .one (.l (.val p r)) => bif szOK tt t r then match lo, hi with
      | none, none => ret1 nx (.l (.val p r)) K
      | none, some h => asI h fun h => chk (decide (0 ≤ h) && decide (h ≤ r.len)) (ret1 nx (.l (.val p (r.take h.toNat))) K)
      | some l, none => asI l fun l => chk (decide (0 ≤ l) && decide (l ≤ r.len)) (ret1 nx (.l (.val p (r.drop l.toNat))) K)
      | some l, some h => asI h fun h => chk (decide (0 ≤ h) && decide (h ≤ r.len)) (asI l fun l => chk (decide (0 ≤ l) && decide (l ≤ h)) (ret1 nx (.l (.val p ((r.take h.toNat).drop l.toNat))) K))
    else none
  | _ => none
def evIndex (tt : TT) (nx : Nat) (t : Nat) (x ix : AV) (K : Eff → Option R) : Option R :=
  match x with
  | .one (.l (.s s)) => match tt t with
    | some ⟨.str, _, _⟩ => asI ix fun i => chk (decide (0 ≤ i) && decide (i < s.size)) (ret1 nx (.l (.i .u8 (sb s i.toNat))) K)
    | _ => none
  | _ => none
def evConvert (tt : TT) (hp : Nat → Option Root) (nx : Nat) (src dst : Nat) (x : AV) (K : Eff → Option R) : Option R :=
  bif scalarTy tt src then match x with
  | .one (.l (.i _ n)) => match tt dst with | some ⟨.int k, _, _⟩ => ret1 nx (.l (.i k (k.wrap n))) K | _ => none
  | .one (.l (.s s)) => match tt dst with | some ⟨.str, _, _⟩ => ret1 nx (.l (.s s)) K | _ => none
  | .one (.l x) => match tt dst, viewRow hp x with
    | some ⟨.str, _, _⟩, some (.ints .u8 l, rc) => match (elemTy tt src).bind tt with
      | some ⟨.int .u8, _, _⟩ => K ⟨.l (.s (strOf l)), [], nx, [], rc⟩
      | _ => none
    | _, _ => none
  | _ => none
  else none
def sameOperand : Operand → Operand → Bool
  | .tmp a, .tmp b => a == b
  | .const (.int _ a), .const (.int _ b) => a == b
  | _, _ => false
def evMakeSlice (tt : TT) (nx : Nat) (t : Nat) (l c : Operand) (x : AV) (K : Eff → Option R) : Option R :=
  bif sameOperand l c then (match elemTy tt t with
    | some e => match emptyRow tt e with
      | some r => asI x fun n => chk (decide (0 ≤ n) && decide (n.toNat * bytesOf tt e ≤ room)) (K ⟨.l (.own nx), [(nx, some (.row e 0 (zeroRow n.toNat r)))], nx + 1, [], []⟩)
      | none => none
    | none => none) else none
/-- append: what is added: a row, the roots used up, those read. -/
def added (hp : Nat → Option Root) (r0 : Row) : LV → Option (Row × List Nat × List Nat)
  | .nil => some (r0, [], [])
  | .own id => match hp id with
    | some (.row _ _ r) => match r with
      | .rows true _ => some (r, [id], [id])
      | .recs _ true _ => some (r, [id], [id])
      | _ => some (r, [], [id])
    | _ => none
  | .sub id lo hi => match hp id with
    | some (.row _ _ r) => match r with
      | .rows true _ => none
      | .recs _ true _ => none
      | _ => some ((r.take hi).drop lo, [], [id])
    | _ => none
  | .s s => some (.ints .u8 (s.data.toList.map fun b => (b.toNat : Int)), [], [])
  | x => match viewRow hp x with | some (r, rc) => some (r, [], rc) | none => none
/-- The new row. -/
def appFin (tt : TT) (e : Nat) (r0 base y : Row) (ks : List Nat) (up : List (Nat × Option Root)) (nx : Nat) (rc : List Nat) (K : Eff → Option R) : Option R :=
  match base.app y with
  | some r => bif base.size == r0.size then chk (decide ((base.len + y.len) * bytesOf tt e ≤ room)) (K ⟨.l (.own nx), killUp ks ++ up ++ [(nx, some (.row e 0 r))], nx + 1, [], rc⟩) else none
  | none => none
def evAppend (tt : TT) (hp : Nat → Option Root) (nx : Nat) (t : Nat) (tx : Nat) (s x : AV) (K : Eff → Option R) : Option R :=
  match elemTy tt t, s, x with
  | some e, .one (.l s), .one (.l x) => match emptyRow tt e with
    | some r0 => match added hp r0 x with
      | some (y, ks, rc) => bif (match x with | .s _ => (match tt tx with | some ⟨.str, _, _⟩ => r0.size == 1 | _ => false) | _ => (elemTy tt tx).isSome) then (match s with
        | .nil => appFin tt e r0 r0 y ks [] nx rc K
        | .own id => match hp id with
          | some (.row _ _ r) => bif rc.elem id then none else appFin tt e r0 r y ks [(id, none)] nx (rc ++ [id]) K
          | _ => none
        | .sub id lo hi => match hp id with
          | some (.row _ _ r) => bif rc.elem id then none else bif lo == 0 then appFin tt e r0 (r.take hi) y ks [(id, none)] nx (rc ++ [id]) K else none
          | _ => none
        | .inner id ver i f => match hp id with
          | some (.row bt v (.rows true l)) => bif rc.elem id then none else bif v == ver then appFin tt e r0 (.ints .i64 (l.getD i [])) y ks [(id, some (.hole bt v (.rows true l) i f)), (nx, none)] (nx + 1) (rc ++ [id]) K else none
          | _ => none
        | _ => none) else none
      | none => none
    | none => none
  | _, _, _ => none
def evCopy (tt : TT) (hp : Nat → Option Root) (nx : Nat) (t : Nat) (d s : AV) (K : Eff → Option R) : Option R :=
  bif (match elemTy tt t with | some e => sizeOf' tt e == 1 | none => false) then match d, s with
  | .one (.l (.sub id lo hi)), .one (.l (.sub id' lo' hi')) => match hp id with
    | some (.row bt ver (.ints k l)) => bif id == id' then
        K ⟨.l (.i .i64 (min (hi' - lo') (hi - lo) : Nat)), [(id, some (.row bt ver (.ints k (l.take lo ++ (((l.take hi').drop lo').take (hi - lo) ++ l.drop (lo + min (hi' - lo') (hi - lo)))))))], nx, [], [id]⟩ else none
    | some (.row bt ver (.rows true l)) => bif id == id' then   -- the shift by one to the right: the place that gets free is a hole
        chk (lo == lo' + 1 && hi == l.length && hi' == l.length && decide (lo' < l.length)) (K ⟨.l (.i .i64 ((l.length - lo : Nat) : Int)), [(id, some (.hole bt (ver + 1) (.rows true (l.take lo' ++ [] :: (l.drop lo').dropLast)) lo' 0))], nx, [], [id]⟩) else none
    | _ => none
  | _, _ => none
  else none
end
end Go.Proofs.Ytfkejiljabmaaaa.V
