/- The abstract evaluator: Go code over abstract values (lists of numbers in place of memory). Conditions: none; nothing is proved in this text. -/
import Derived.Below
import Derived.OwnWalk
import Derived.KernelRfl
set_option linter.unusedVariables false
namespace Go.Proofs.Ytfkejiljabmaaaa.V
open Go

/-! ### Types -/
inductive TK where
  | int (k : IntKind) | bool | str | slice (e : Nat) | struct (fs : List (Nat × Nat)) | array (n e : Nat) | ptr (e : Nat) | err | other
structure TE where
  k : TK
  size : Nat
  bytes : Nat
def look {α : Type} : List (Nat × α) → Nat → Option α
  | [], _ => none
  | (j, x) :: l, i => bif j == i then some x else look l i
abbrev TT := Nat → Option TE

/-! ### Contents of rows -/
inductive Leaf where
  | int (n : Int) | ints (l : List Int)
def gi (r : List Leaf) (f : Nat) : Int := match r[f]? with | some (.int n) => n | _ => 0
def gl (r : List Leaf) (f : Nat) : List Int := match r[f]? with | some (.ints l) => l | _ => []
inductive Row where
  | ints (k : IntKind) (l : List Int)
  | bools (l : List Bool)
  | strs (l : List ByteArray)
  | rows (own : Bool) (l : List (List Int))
  | recs (sg : List Bool) (own : Bool) (l : List (List Leaf))
def Row.len : Row → Nat
  | .ints _ l => l.length
  | .bools l => l.length
  | .strs l => l.length
  | .rows _ l => l.length
  | .recs _ _ l => l.length
def Row.size : Row → Nat
  | .recs sg _ _ => sg.length
  | _ => 1
/-- One cell of a row: a plain value, a slice of ints, or a place of which nothing is told. -/
inductive Cell where
  | sc (v : Value) | sl (own : Bool) (l : List Int) | free
def recCells (own : Bool) (r : List Leaf) : Nat → List Bool → List Cell
  | _, [] => []
  | f, true :: sg => .sl own (gl r f) :: recCells own r (f + 1) sg
  | f, false :: sg => .sc (.int .i64 (gi r f)) :: recCells own r (f + 1) sg
def Row.cells : Row → List Cell
  | .ints k l => l.map fun n => .sc (.int k n)
  | .bools l => l.map fun x => .sc (.bool x)
  | .strs l => l.map fun x => .sc (.string x)
  | .rows own l => l.map fun x => .sl own x
  | .recs sg own l => l.flatMap fun r => recCells own r 0 sg
def Row.frz : Row → Row
  | .rows _ l => .rows false l
  | .recs sg _ l => .recs sg false l
  | r => r
def Row.take (n : Nat) : Row → Row
  | .ints k l => .ints k (l.take n)
  | .bools l => .bools (l.take n)
  | .strs l => .strs (l.take n)
  | .rows own l => .rows own (l.take n)
  | .recs sg own l => .recs sg own (l.take n)
def Row.drop (n : Nat) : Row → Row
  | .ints k l => .ints k (l.drop n)
  | .bools l => .bools (l.drop n)
  | .strs l => .strs (l.drop n)
  | .rows own l => .rows own (l.drop n)
  | .recs sg own l => .recs sg own (l.drop n)
def Row.isRecs : Row → Bool
  | .recs _ _ _ => true
  | _ => false
def Row.deep : Row → Bool
  | .rows _ _ => true
  | .recs _ _ _ => true
  | _ => false
def Row.owned : Row → Bool
  | .rows own _ => own
  | .recs _ own _ => own
  | _ => true

/-! ### Abstract values -/
/-- A value of one cell. -/
inductive LV where
  | any | undef
  | i (k : IntKind) (n : Int) | b (x : Bool) | s (x : ByteArray)
  | nil
  | val (p : Bool) (r : Row)      -- a row that isn't the call's own; p: it stays as it is for good, else for the length of this call
  | own (id : Nat)
  | sub (id lo hi : Nat)
  | inner (id ver i f : Nat)
  | bptr (id k : Nat)
  | arr (id n : Nat)
  | eptr (id i f : Nat)
  | vptr (p : Bool) (r : Row) (i f : Nat)
  | iptr (id ver i f j : Nat)
  | er (isNil : Bool)
  | fn (f : Nat)
inductive A1 where
  | l (x : LV) | agg (xs : List LV)
inductive AV where
  | one (x : A1) | tup (xs : List A1)
abbrev AV.l (x : LV) : AV := .one (.l x)
/-- 'ghost': a name that is kept for a root to come; 'hole': a row of the call's own of which the slice in the cell (i, f) is out. -/
inductive Root where
  | row (e ver : Nat) (r : Row)
  | hole (e ver : Nat) (r : Row) (i f : Nat)
  | box (t : Nat) (cells : List LV)
  | ghost
structure St where
  sl : Nat → AV
  hp : Nat → Option Root
  nx : Nat
inductive X where
  | normal | exit (id : Nat) | ret

/-! ### Values across calls -/
/-- Whose a slice is: the taker's own; nobody's any more; lent for the length of a call. -/
inductive Cls where
  | own | frz | lent
  deriving DecidableEq
inductive DL where
  | i (k : IntKind) (n : Int) | b (x : Bool) | s (x : ByteArray)
  | sl (c : Cls) (r : Row)
  | er (isNil : Bool)
inductive DV where
  | l (x : DL) | agg (xs : List DL) | ptr (xs : List DL)
inductive Mode where
  | bor | mov | io
  deriving DecidableEq

/-- What one operation does. -/
structure Eff where
  v : AV
  up : List (Nat × Option Root)
  nx : Nat
  rl : List Nat
  rc : List Nat

section
variable {R : Type}

/-- A check without which Go would panic, or a bound be passed. -/
def chk (p : Bool) (x : Option R) : Option R := bif p then x else none

abbrev Oracle (R : Type) := FuncId → List DV → (List DV → Option R) → Option R

/-! ### Types of cells -/
/-- The types of the cells of a type. -/
def leafTypes (tt : TT) : Nat → Nat → List Nat
  | 0, t => [t]
  | d + 1, t => match tt t with
    | some ⟨.struct fs, _, _⟩ => fs.flatMap fun f => leafTypes tt d f.2
    | _ => [t]
def depth : Nat := 6
def isSl (tt : TT) (t : Nat) : Bool := match tt t with | some ⟨.slice _, _, _⟩ => true | _ => false
def leafOK (tt : TT) (t : Nat) : Bool := match tt t with | some ⟨.slice _, _, _⟩ => true | some ⟨.int k, _, _⟩ => decide (k = .i64) | _ => false
/-- The empty row of an element type. -/
def emptyRow (tt : TT) (e : Nat) : Option Row := match tt e with
  | some ⟨.int k, _, _⟩ => some (.ints k [])
  | some ⟨.bool, _, _⟩ => some (.bools [])
  | some ⟨.str, _, _⟩ => some (.strs [])
  | some ⟨.slice _, _, _⟩ => some (.rows true [])
  | some ⟨.struct _, _, _⟩ => bif (leafTypes tt depth e).all (leafOK tt) then some (.recs ((leafTypes tt depth e).map (isSl tt)) true []) else none
  | _ => none
/-- The zero of a type of one cell. -/
def zeroLV (tt : TT) (t : Nat) : LV := match tt t with
  | some ⟨.int k, _, _⟩ => .i k 0
  | some ⟨.bool, _, _⟩ => .b false
  | some ⟨.str, _, _⟩ => .s ByteArray.empty
  | some ⟨.slice _, _, _⟩ => .nil
  | some ⟨.err, _, _⟩ => .er true
  | _ => .any
def zeroLeaf : Bool → Leaf
  | true => .ints []
  | false => .int 0
def zeroRow (n : Nat) : Row → Row
  | .ints k _ => .ints k (List.replicate n 0)
  | .bools _ => .bools (List.replicate n false)
  | .strs _ => .strs (List.replicate n ByteArray.empty)
  | .rows _ _ => .rows true (List.replicate n [])
  | .recs sg _ _ => .recs sg true (List.replicate n (sg.map zeroLeaf))

/-! ### Reading the state -/
def ofConst : Value → LV
  | .int k n => .i k n
  | .bool x => .b x
  | .string x => .s x
  | .slice none 0 0 => .nil
  | .nilIface => .er true
  | _ => .any
def St.rd (nt : Nat) (S : Nat → AV) : Operand → AV
  | .tmp t => bif Nat.blt t nt then S t else .l .any
  | .const v => .l (ofConst v)
  | .func f => .l (.fn f)
  | .global _ => .l .any
/-- The row that a slice shows, frozen; and the roots that it is read from. -/
def viewRow (hp : Nat → Option Root) : LV → Option (Row × List Nat)
  | .val _ r => some (r, [])
  | .own id => match hp id with | some (.row _ _ r) => some (r.frz, [id]) | _ => none
  | .sub id lo hi => match hp id with | some (.row _ _ r) => some (((r.frz).take hi).drop lo, [id]) | _ => none
  | .inner id ver i f => match hp id with
    | some (.row _ v (.rows _ l)) => bif v == ver then some (.ints .i64 (l.getD i []), [id]) else none
    | some (.row _ v (.recs _ _ l)) => bif v == ver then some (.ints .i64 (gl (l.getD i []) f), [id]) else none
    | _ => none
  | _ => none
def rowAt? (hp : Nat → Option Root) (id : Nat) : Option Row := match hp id with
  | some (.row _ _ r) => some r
  | some (.hole _ _ r _ _) => some r
  | _ => none

/-- The length of a slice, and the roots whose length is read, and those whose contents are. -/
def lenOf (hp : Nat → Option Root) : LV → Option (Nat × List Nat × List Nat)
  | .nil => some (0, [], [])
  | .val _ r => some (r.len, [], [])
  | .own id => match rowAt? hp id with | some r => some (r.len, [id], []) | none => none
  | .sub id lo hi => match rowAt? hp id with | some r => some (hi - lo, [id], []) | none => none
  | .inner id ver i f => match hp id with
    | some (.row _ v (.rows _ l)) => bif v == ver then some ((l.getD i []).length, [], [id]) else none
    | some (.row _ v (.recs _ _ l)) => bif v == ver then some ((gl (l.getD i []) f).length, [], [id]) else none
    | _ => none
  | _ => none
/-- May it lie in memory: is its value known to be of one cell. -/
def storable (hp : Nat → Option Root) : LV → Bool
  | .any => false
  | .undef => false
  | .own id => (rowAt? hp id).isSome
  | .sub id _ _ => (rowAt? hp id).isSome
  | .eptr id _ _ => (rowAt? hp id).isSome
  | .arr id _ => (rowAt? hp id).isSome
  | .inner id ver _ _ => (match hp id with | some (.row _ v _) => v == ver | _ => false)
  | .iptr id ver _ _ _ => (match hp id with | some (.row _ v _) => v == ver | _ => false)
  | _ => true
def aggCells (hp : Nat → Option Root) : AV → Option (List LV)
  | .one (.l x) => bif storable hp x then some [x] else none
  | .one (.agg xs) => bif xs.all (storable hp) then some xs else none
  | .tup _ => none
/-! ### Arithmetic -/
def ibits (op : BinOp) (k : IntKind) (x y : Int) : Int :=
  let a := BitVec.ofInt k.bits x
  let b := BitVec.ofInt k.bits y
  match op with
  | .and => k.wrap (a &&& b).toNat
  | .or => k.wrap (a ||| b).toNat
  | .xor => k.wrap (a ^^^ b).toNat
  | _ => k.wrap (a &&& ~~~b).toNat
def maxI : Nat := 9223372036854775807
/-- How many bytes a slice may take that is made here. -/
def room : Nat := 140737488355328
def binOp (op : BinOp) (x y : LV) (K : LV → Option R) : Option R :=
  match op, x, y with
  | .shl, .i k a, .i _ b => chk (decide (0 ≤ b)) (K (.i k (k.wrap (a * 2 ^ (min b.toNat k.bits)))))
  | .shr, .i k a, .i _ b => chk (decide (0 ≤ b)) (K (.i k (a.fdiv (2 ^ (min b.toNat k.bits)))))
  | _, .i k a, .i k' b =>
    bif decide (k = k') then
      match op with
      | .add => K (.i k (k.wrap (a + b)))
      | .sub => K (.i k (k.wrap (a - b)))
      | .mul => K (.i k (k.wrap (a * b)))
      | .quo => chk (!decide (b = 0)) (K (.i k (k.wrap (a.tdiv b))))
      | .rem => chk (!decide (b = 0)) (K (.i k (a.tmod b)))
      | .eql => K (.b (a == b))
      | .neq => K (.b (a != b))
      | .lss => K (.b (decide (a < b)))
      | .leq => K (.b (decide (a ≤ b)))
      | .gtr => K (.b (decide (a > b)))
      | .geq => K (.b (decide (a ≥ b)))
      | .and | .or | .xor | .andNot => K (.i k (ibits op k a b))
      | _ => none
    else none
  | .add, .s a, .s b => chk (decide (a.size + b.size ≤ maxI)) (K (.s (a ++ b)))
  | .eql, .s a, .s b => K (.b (a.toList == b.toList))
  | .neq, .s a, .s b => K (.b !(a.toList == b.toList))
  | .eql, .b a, .b b => K (.b (a == b))
  | .neq, .b a, .b b => K (.b !(a == b))
  | .eql, .er a, .er true => K (.b a)
  | .neq, .er a, .er true => K (.b !a)
  | _, _, _ => none
def unOp (op : UnOp) (x : LV) (K : LV → Option R) : Option R :=
  match op, x with
  | .neg, .i k n => K (.i k (k.wrap (0 - n)))
  | .not, .b x => K (.b !x)
  | _, _ => none
end
end Go.Proofs.Ytfkejiljabmaaaa.V
