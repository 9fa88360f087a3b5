/- The abstract evaluator: regions, statements, loops, calls. Conditions: none; nothing is proved in this text. -/
import Derived.Test.YtfkejiljabmaaaaVOps
import Derived.Orders
set_option linter.unusedVariables false
namespace Go.Proofs.Ytfkejiljabmaaaa.V
open Go

section
variable {R : Type}

/-! ### Arguments and results -/
/-- A leaf as an argument: the value, the roots used up, the roots lent for writing, the roots that are read. -/
def toDL (tt : TT) (hp : Nat → Option Root) (m : Mode) (t : Nat) : LV → Option (DL × List Nat × List Nat × List Nat)
  | .i k n => some (.i k n, [], [], [])
  | .b x => some (.b x, [], [], [])
  | .s x => some (.s x, [], [], [])
  | .er x => some (.er x, [], [], [])
  | .nil => match elemTy tt t with
    | some e => match emptyRow tt e with
      | some r => match m with | .bor => some (.sl .lent r.frz, [], [], []) | _ => some (.sl .own r, [], [], [])
      | none => none
    | none => none
  | .val true r => some (.sl .frz r, [], [], [])
  | x => match m with
    | .bor => match viewRow hp x with | some (r, rc) => some (.sl .lent r, [], [], rc) | none => none
    | .mov => match x with
      | .own id => match hp id with | some (.row _ _ r) => (bif r.owned then some (.sl .own r, [id], [], []) else none) | _ => none
      | .sub id 0 hi => match hp id with | some (.row _ _ r) => (bif r.owned then some (.sl .own (r.take hi), [id], [], []) else none) | _ => none
      | _ => none
    | .io => match x with
      | .own id => match hp id with | some (.row _ _ r) => (bif r.owned then some (.sl .own r, [], [id], []) else none) | _ => none
      | .inner id ver i f => match hp id with
        | some (.row _ v r) => bif v == ver && r.owned then some (.sl .own (.ints .i64 (innerOf r i f)), [], [id], []) else none
        | _ => none
      | _ => none
def toDLs (tt : TT) (hp : Nat → Option Root) (m : Mode) : List Nat → List LV → Option (List DL × List Nat × List Nat × List Nat)
  | [], [] => some ([], [], [], [])
  | t :: ts, x :: xs => match toDL tt hp m t x with
    | some (d, ks, io, rc) => match toDLs tt hp m ts xs with
      | some (ds, ks', io', rc') => some (d :: ds, ks ++ ks', io ++ io', rc ++ rc')
      | none => none
    | none => none
  | _, _ => none
/-- An argument. -/
def toDV (tt : TT) (hp : Nat → Option Root) (m : Mode) (t : Nat) : AV → Option (DV × List Nat × List Nat × List Nat)
  | .one (.l x) => match toDL tt hp m t x with | some (d, ks, io, rc) => some (.l d, ks, io, rc) | none => none
  | .one (.agg xs) => match toDLs tt hp m (leafTypes tt depth t) xs with | some (ds, ks, io, rc) => some (.agg ds, ks, io, rc) | none => none
  | .tup _ => none
def toDVs (tt : TT) (hp : Nat → Option Root) : List Mode → List Nat → List AV → Option (List DV × List Nat × List Nat × List Nat)
  | _, [], [] => some ([], [], [], [])
  | ms, t :: ts, x :: xs => match toDV tt hp (ms.headD .bor) t x with
    | some (d, ks, io, rc) => match toDVs tt hp ms.tail ts xs with
      | some (ds, ks', io', rc') => some (d :: ds, ks ++ ks', io ++ io', rc ++ rc')
      | none => none
    | none => none
  | _, _, _ => none

/-! ### Telling what came back -/
def dI (k : IntKind) (d : DL) (K : Int → Option R) : Option R := match d with | .i k' n => (bif decide (k = k') then K n else none) | _ => none
def dB (d : DL) (K : Bool → Option R) : Option R := match d with | .b x => K x | _ => none
def dS (d : DL) (K : ByteArray → Option R) : Option R := match d with | .s x => K x | _ => none
def dE (d : DL) (K : Bool → Option R) : Option R := match d with | .er x => K x | _ => none
def dInts (oc : Cls) (k : IntKind) (d : DL) (K : List Int → Option R) : Option R := match d with | .sl o (.ints k' l) => (bif decide (o = oc) && decide (k = k') then K l else none) | _ => none
def dBools (oc : Cls) (d : DL) (K : List Bool → Option R) : Option R := match d with | .sl o (.bools l) => (bif decide (o = oc) then K l else none) | _ => none
def dStrs (oc : Cls) (d : DL) (K : List ByteArray → Option R) : Option R := match d with | .sl o (.strs l) => (bif decide (o = oc) then K l else none) | _ => none
def dRows (oc : Cls) (d : DL) (K : List (List Int) → Option R) : Option R := match d with | .sl o (.rows o' l) => (bif decide (o = oc) && o' == decide (oc = .own) then K l else none) | _ => none
def dRecs (oc : Cls) (sg : List Bool) (d : DL) (K : List (List Leaf) → Option R) : Option R := match d with | .sl o (.recs sg' o' l) => (bif decide (o = oc) && o' == decide (oc = .own) && sg == sg' then K l else none) | _ => none
def dHead (ds : List DV) (K : DV → List DV → Option R) : Option R := match ds with | d :: ds => K d ds | _ => none
def dNil (ds : List DV) (K : Option R) : Option R := match ds with | [] => K | _ => none
def dL (d : DV) (K : DL → Option R) : Option R := match d with | .l x => K x | _ => none
def dAgg (d : DV) (K : List DL → Option R) : Option R := match d with | .agg x => K x | _ => none
def dPtr (d : DV) (K : List DL → Option R) : Option R := match d with | .ptr x => K x | _ => none
def lHead (ds : List DL) (K : DL → List DL → Option R) : Option R := match ds with | d :: ds => K d ds | _ => none
def lNil (ds : List DL) (K : Option R) : Option R := match ds with | [] => K | _ => none

/-- A leaf that came back, as a value: the new root, if it has one. oc: is it expected to be owned. -/
def fromDL (tt : TT) (oc : Cls) (t : Nat) (d : DL) (nx : Nat) (K : LV → List (Nat × Option Root) → Nat → Option R) : Option R :=
  match tt t with
  | some ⟨.int k, _, _⟩ => dI k d fun n => K (.i k n) [] nx
  | some ⟨.bool, _, _⟩ => dB d fun x => K (.b x) [] nx
  | some ⟨.str, _, _⟩ => dS d fun x => K (.s x) [] nx
  | some ⟨.err, _, _⟩ => dE d fun x => K (.er x) [] nx
  | some ⟨.slice e, _, _⟩ =>
    let fin (r : Row) : Option R := match oc with
      | .own => K (.own nx) [(nx, some (.row e 0 r))] (nx + 1)
      | .frz => K (.val true r) [] nx
      | .lent => K (.val false r) [] nx
    match emptyRow tt e with
    | some (.ints k _) => dInts oc k d fun l => fin (.ints k l)
    | some (.bools _) => dBools oc d fun l => fin (.bools l)
    | some (.strs _) => dStrs oc d fun l => fin (.strs l)
    | some (.rows _ _) => dRows oc d fun l => fin (.rows (decide (oc = .own)) l)
    | some (.recs sg _ _) => dRecs oc sg d fun l => fin (.recs sg (decide (oc = .own)) l)
    | none => none
  | _ => none
def fromDLs (tt : TT) (oc : Cls) : List Nat → List DL → Nat → (List LV → List (Nat × Option Root) → Nat → Option R) → Option R
  | [], ds, nx, K => lNil ds (K [] [] nx)
  | t :: ts, ds, nx, K => lHead ds fun d ds => fromDL tt oc t d nx fun x up nx => fromDLs tt oc ts ds nx fun xs up' nx => K (x :: xs) (up ++ up') nx
/-- A result. -/
def fromDV (tt : TT) (oc : Cls) (t : Nat) (d : DV) (nx : Nat) (K : A1 → List (Nat × Option Root) → Nat → Option R) : Option R :=
  match tt t with
  | some ⟨.struct _, _, _⟩ => dAgg d fun ds => fromDLs tt oc (leafTypes tt depth t) ds nx fun xs up nx => K (.agg xs) up nx
  | _ => dL d fun d => fromDL tt oc t d nx fun x up nx => K (.l x) up nx
def fromDVs (tt : TT) (oc : Cls) : List Nat → List DV → Nat → (List A1 → List (Nat × Option Root) → Nat → List DV → Option R) → Option R
  | [], ds, nx, K => K [] [] nx ds
  | t :: ts, ds, nx, K => dHead ds fun d ds => fromDV tt oc t d nx fun x up nx => fromDVs tt oc ts ds nx fun xs up' nx ds => K (x :: xs) (up ++ up') nx ds

/-! ### Updates -/
def upd (hp : Nat → Option Root) : List (Nat × Option Root) → Nat → Option Root
  | [] => hp
  | (i, r) :: l => upd (fun j => bif j == i then r else hp j) l
def nodupB : List Nat → Bool
  | [] => true
  | x :: l => !l.elem x && nodupB l
def disjoint : List Nat → List Nat → Bool
  | [], _ => true
  | x :: l, m => !m.elem x && disjoint l m
structure Sig where
  params : List Nat
  results : List Nat
  modes : List Mode
  oc : Cls
structure Glob (R : Type) where
  tt : TT
  Φ : Oracle R
  sig : FuncId → Option Sig
  nt : Nat
def resAV : List A1 → AV
  | [x] => .one x
  | xs => .tup xs
def noIO : List Mode → Bool
  | [] => true
  | .io :: _ => false
  | _ :: ms => noIO ms
def Row.slAt (r : Row) (f : Nat) : Bool := match r with
  | .rows _ _ => f == 0
  | .recs sg _ _ => sg[f]?.getD false
  | _ => false
def lentKill (oc : Cls) (rc : List Nat) : List (Nat × Option Root) := match oc with | .lent => killUp rc | _ => []
/-- A slice that was written by the callee, put back. -/
def backLeaf (hp : Nat → Option Root) (x : LV) (d : DL) (K : List (Nat × Option Root) → Option R) : Option R :=
  match x with
  | .i _ _ => K []
  | .b _ => K []
  | .s _ => K []
  | .er _ => K []
  | .nil => K []
  | .own id => match hp id with
    | some (.row e ver (.ints k _)) => dInts .own k d fun l => K [(id, some (.row e (ver + 1) (.ints k l)))]
    | some (.row e ver (.bools _)) => dBools .own d fun l => K [(id, some (.row e (ver + 1) (.bools l)))]
    | some (.row e ver (.strs _)) => dStrs .own d fun l => K [(id, some (.row e (ver + 1) (.strs l)))]
    | some (.row e ver (.rows true _)) => dRows .own d fun l => K [(id, some (.row e (ver + 1) (.rows true l)))]
    | some (.row e ver (.recs sg true _)) => dRecs .own sg d fun l => K [(id, some (.row e (ver + 1) (.recs sg true l)))]
    | _ => none
  | _ => none
def backLeafs (hp : Nat → Option Root) : List LV → List DL → (List (Nat × Option Root) → Option R) → Option R
  | [], ds, K => lNil ds (K [])
  | x :: xs, ds, K => lHead ds fun d ds => backLeaf hp x d fun up => backLeafs hp xs ds fun up' => K (up ++ up')
def backAV (hp : Nat → Option Root) (x : AV) (d : DV) (K : List (Nat × Option Root) → Option R) : Option R := match x with
  | .one (.l x) => dL d fun d => backLeaf hp x d K
  | .one (.agg ys) => dAgg d fun d => backLeafs hp ys d K
  | .tup _ => none
/-- The arguments that came back, in their order. -/
def backs (hp : Nat → Option Root) : List Mode → List AV → List DV → (List (Nat × Option Root) → Option R) → Option R
  | .io :: ms, x :: xs, ds, K => dHead ds fun d ds => backAV hp x d fun up => backs hp ms xs ds fun up' => K (up ++ up')
  | _ :: ms, _ :: xs, ds, K => backs hp ms xs ds K
  | _, _, ds, K => dNil ds (K [])
def ownLV : LV → List Nat
  | .own id => [id]
  | _ => []
def ownAV : AV → List Nat
  | .one (.l x) => ownLV x
  | .one (.agg xs) => xs.flatMap ownLV
  | .tup _ => []
/-- The roots that are lent for writing. -/
def ioIds : List Mode → List AV → List Nat
  | .io :: ms, x :: xs => ownAV x ++ ioIds ms xs
  | _ :: ms, _ :: xs => ioIds ms xs
  | _, _ => []
def evCall0 (G : Glob R) (hp : Nat → Option Root) (nx : Nat) (f : FuncId) (g : Sig) (xs : List AV) (K : Eff → Option R) : Option R :=
  match toDVs G.tt hp g.modes g.params xs with
    | none => none
    | some (ds, ks, io, rc) => bif nodupB (ks ++ io) && disjoint (ks ++ io) rc && io == ioIds g.modes xs then G.Φ f ds fun rs =>
        fromDVs G.tt g.oc g.results rs nx fun vs up nx rs => backs hp g.modes xs rs fun up' => K ⟨resAV vs, killUp ks ++ lentKill g.oc rc ++ up ++ up', nx, [], ks ++ io ++ rc⟩
      else none
/-- An argument that is a slice within a row: where it stands. -/
def innerArg : List Mode → List AV → Option (Nat × Nat × Nat × Nat)
  | .io :: _, .one (.l (.inner id ver i f)) :: _ => some (id, ver, i, f)
  | _ :: ms, _ :: xs => innerArg ms xs
  | _, _ => none
def putArg (n : Nat) : List Mode → List AV → List AV
  | .io :: _, .one (.l (.inner _ _ _ _)) :: xs => .one (.l (.own n)) :: xs
  | _ :: ms, x :: xs => x :: putArg n ms xs
  | _, xs => xs
def evCall (G : Glob R) (hp : Nat → Option Root) (nx : Nat) (f : FuncId) (xs : List AV) (K : Eff → Option R) : Option R :=
  match G.sig f with
  | none => none
  | some g => match innerArg g.modes xs with
    | none => evCall0 G hp nx f g xs K
    | some (id, ver, i, fl) => match hp id with
      | some (.row e v r) => bif v == ver && r.owned && r.slAt fl && Nat.blt i r.len then
          let take : List (Nat × Option Root) := [(id, some (.hole e v r i fl)), (nx, some (.row 0 0 (.ints .i64 (innerOf r i fl))))]
          evCall0 G (upd hp take) (nx + 1) f g (putArg nx g.modes xs) fun E => match upd (upd hp take) E.up nx, upd (upd hp take) E.up id with
            | some (.row _ _ (.ints .i64 l)), some (.hole _ _ _ _ _) => match setInnerRow i fl l r with
              | some r' => K ⟨E.v, take ++ E.up ++ [(id, some (.row e (v + 1) r')), (nx, none)], E.nx, [], E.rc⟩
              | none => none
            | _, _ => none
        else none
      | _ => none

/-! ### Operations -/
def evBuiltin (G : Glob R) (hp : Nat → Option Root) (nx : Nat) (b : Builtin) (ts : List Nat) (xs : List AV) (K : Eff → Option R) : Option R :=
  match b, xs, ts with
  | .len, [.one (.l (.s s))], [t] => (match G.tt t with | some ⟨.str, _, _⟩ => ret1 nx (.l (.i .i64 s.size)) K | _ => none)
  | .len, [.one (.l x)], [t] => (match elemTy G.tt t, lenOf hp x with
    | some _, some (n, rl, rc) => K ⟨.l (.i .i64 n), [], nx, rl, rc⟩
    | _, _ => none)
  | .append, [s, x], [t, tx] => evAppend G.tt hp nx t tx s x K
  | .copy, [d, s], [t, _] => evCopy G.tt hp nx t d s K
  | .min, [.one (.l (.i k x)), .one (.l (.i k' y))], _ => bif decide (k = k') then ret1 nx (.l (.i k (if y < x then y else x))) K else none
  | .max, [.one (.l (.i k x)), .one (.l (.i k' y))], _ => bif decide (k = k') then ret1 nx (.l (.i k (if y > x then y else x))) K else none
  | _, _, _ => none
/-- Has the operation the type that its operand wants. -/
def tyOK (tt : TT) (t : Nat) (x : LV) : Bool := match x with
  | .b _ => (match tt t with | some ⟨.bool, _, _⟩ => true | _ => false)
  | .er _ => (match tt t with | some ⟨.err, _, _⟩ => true | _ => false)
  | _ => true
/-- An error is compared with the literal nil alone. -/
def nilOK (y : Operand) : LV → Bool
  | .er _ => (match y with | .const _ => true | _ => false)
  | _ => true
def evOp (G : Glob R) (o : Op) (S : Nat → AV) (hp : Nat → Option Root) (nx : Nat) (K : Eff → Option R) : Option R :=
  let rd := St.rd G.nt S
  match o with
  | .move x | .assign x => ret1 nx (rd x) K
  | .pick c a b => match rd c with | .one (.l (.b x)) => (match x with | true => ret1 nx (rd a) K | false => ret1 nx (rd b) K) | _ => none
  | .alloc t => evAlloc G.tt nx t K
  | .box t x => evBox G.tt hp nx t (rd x) K
  | .build t ps => evBuild G.tt hp nx t (ps.toList.map fun p => (p.1, rd p.2)) K
  | .buildSlice t n ps => evBuildSlice G.tt hp nx t n (ps.toList.map fun p => (p.1, rd p.2)) K
  | .load t p => evLoad G.tt hp nx t (rd p) K
  | .store t p x => evStore G.tt hp nx t (rd p) (rd x) K
  | .nilCheck x => match rd x with
    | .one (.l (.bptr id k)) => ret1 nx (.l (.bptr id k)) K
    | _ => none
  | .binOp op t x y _ => match rd x, rd y with
    | .one (.l x'), .one (.l y') => bif tyOK G.tt t x' && nilOK y y' then binOp op x' y' fun v => ret1 nx (.l v) K else none
    | _, _ => none
  | .unOp op _ x => match rd x with
    | .one (.l x) => unOp op x fun v => ret1 nx (.l v) K
    | _ => none
  | .convert a b x => evConvert G.tt hp nx a b (rd x) K
  | .makeSlice t l c => evMakeSlice G.tt nx t l c (rd l) K
  | .slice t x lo hi mx => match mx with | none => evSlice G.tt hp nx t (rd x) (lo.map rd) (hi.map rd) K | some _ => none
  | .fieldAddr t x f => evFieldAddr G.tt hp nx t (rd x) f K
  | .indexAddr t x i => evIndexAddr G.tt hp nx t (rd x) (rd i) K
  | .index t x i => evIndex G.tt nx t (rd x) (rd i) K
  | .extract x j => match rd x with | .tup xs => (match xs[j]? with | some y => ret1 nx (.one y) K | none => none) | _ => none
  | .call c => match c.callee with
    | .builtin b => evBuiltin G hp nx b c.argTypes.toList (c.args.toList.map rd) K
    | .value f => match rd f with | .one (.l (.fn f)) => evCall G hp nx f (c.args.toList.map rd) K | _ => none
    | .invoke _ _ => none
  | _ => none

/-! ### Regions -/
def St.put (S : St) (d : Option Tmp) (v : AV) : St := match d with | none => S | some d => { S with sl := fun j => bif j == d then v else S.sl j }
def St.app (S : St) (d : Option Tmp) (E : Eff) : St := { sl := (S.put d E.v).sl, hp := upd S.hp E.up, nx := E.nx }
def dstOf (ops : Array Oper) (j : Nat) : Option Tmp := match ops[j]? with | some o => o.dst | none => none
/-- What an operation touched: for a region whose order is open. -/
structure Log where
  o : Oper
  w : List Nat
  ids : List Nat
/-- The roots that a value names. -/
def idLV : LV → List Nat
  | .own id => [id]
  | .sub id _ _ => [id]
  | .inner id _ _ _ => [id]
  | .bptr id _ => [id]
  | .arr id _ => [id]
  | .eptr id _ _ => [id]
  | .iptr id _ _ _ _ => [id]
  | _ => []
def idA1 : A1 → List Nat
  | .l x => idLV x
  | .agg xs => xs.flatMap idLV
def idAV : AV → List Nat
  | .one x => idA1 x
  | .tup xs => xs.flatMap idA1
/-- The roots that an operation may touch. -/
def opIds (rd : Operand → AV) (o : Op) : List Nat := match o with
  | .move _ => []
  | .assign _ => []
  | .pick _ _ _ => []
  | .extract _ _ => []
  | .nilCheck _ => []
  | .binOp _ _ _ _ _ => []
  | .unOp _ _ _ => []
  | o => o.operands.toList.flatMap fun x => idAV (rd x)
def cut (hp : Nat → Option Root) (ids : List Nat) : Nat → Option Root := fun j => bif ids.elem j then hp j else none
/-- Does an effect keep to its names. -/
def okUp (n : Nat) (E : Eff) : Bool := Nat.ble n E.nx && E.up.all fun p => Nat.blt p.1 E.nx
def writes (n : Nat) (E : Eff) : List Nat := E.up.map (·.1) ++ List.range' n (E.nx - n)
def skipEff (n : Nat) : Eff := ⟨.l .undef, [], n, [], []⟩
def evOper (G : Glob R) (ops : Array Oper) (draw : Bool) (o : Oper) (S : St) (K : St → Log → Option R) : Option R :=
  let exec (S : St) : Option R := evOp G o.op S.sl (bif draw then cut S.hp (opIds (St.rd G.nt S.sl) o.op) else S.hp) S.nx fun E => bif okUp S.nx E then K (S.app o.dst E) ⟨o, writes S.nx E, opIds (St.rd G.nt S.sl) o.op⟩ else none
  let skip (S : St) : Option R := K (S.app o.dst (skipEff S.nx)) ⟨o, [], []⟩
  bif (match o.dst with | some d => Nat.blt d G.nt | none => true) then match o.guard with
  | none => exec S
  | some (j, want) => match dstOf ops j with
    | none => none
    | some t => bif Nat.blt t G.nt then match S.sl t with
      | .one (.l (.b x)) => (match x with
        | true => bif want then exec (S.put (some t) (.l (.b true))) else skip (S.put (some t) (.l (.b true)))
        | false => bif want then skip (S.put (some t) (.l (.b false))) else exec (S.put (some t) (.l (.b false))))
      | .one (.l .undef) => skip S
      | _ => none
      else none
  else none
def evOps (G : Glob R) (ops : Array Oper) (draw : Bool) : List Oper → St → List Log → (St → List Log → Option R) → Option R
  | [], S, L, K => K S L
  | o :: rest, S, L, K => evOper G ops draw o S fun S l => evOps G ops draw rest S (l :: L) K
/-- The operations that bind an operation, and theirs: as the bits of a number. -/
def bindsOf (acc : List Nat) (o : Oper) : Nat := o.after.toList.foldr (fun e s => bif Region.binds .any e then (2 ^ e.on ||| (acc[e.on]?.getD 0) ||| s) else s) 0
def befores : List Nat → List Oper → List Nat
  | acc, [] => acc
  | acc, o :: ops => befores (acc ++ [bindsOf acc o]) ops
def indep (ops : Array Oper) (a b : Log) : Bool :=
  a.o.apart ops b.o && b.o.apart ops a.o && disjoint a.w b.w && disjoint a.w b.ids && disjoint b.w a.ids
def indeps (ops : Array Oper) (bk : Nat) (lk : Log) : Nat → List Log → Bool
  | _, [] => true
  | i, l :: ls => (Nat.testBit bk i || indep ops l lk) && indeps ops bk lk (i + 1) ls
/-- Are all that are not ordered independent of each other. L: in the text's order; done: those before. -/
def drawOk (ops : Array Oper) : List Log → List Nat → List Log → Bool
  | _, _, [] => true
  | _, [], _ => false
  | done, b :: bs, l :: ls => indeps ops b l 0 done && l.o.after.toList.all (fun e => !Region.binds .any e || Nat.blt e.on done.length) && drawOk ops (done ++ [l]) bs ls
def noSel (ops : List Oper) : Bool := ops.all fun o => match o.op with | .select _ _ => false | _ => true
def evRegion (G : Glob R) (ops : Array Oper) (draw : Bool) (S : St) (K : St → Option R) : Option R :=
  evOps G ops draw ops.toList S [] fun S L => bif draw then (bif drawOk ops [] (befores [] ops.toList) L.reverse then K S else none) else K S

/-! ### Loops: the state at a loop's head, with names of its oc -/
def idx : Nat → List Nat → Option Nat
  | _, [] => none
  | x, y :: l => bif x == y then some 0 else (match idx x l with | some i => some (i + 1) | none => none)
def renLV (olds : List Nat) (hp : Nat → Option Root) : LV → LV
  | .own id => match idx id olds with | some j => .own j | none => .any
  | .sub id lo hi => match idx id olds with | some j => .sub j lo hi | none => .any
  | .bptr id k => match idx id olds with | some j => .bptr j k | none => .any
  | .eptr id i f => match idx id olds with | some j => .eptr j i f | none => .any
  | .arr id n => match idx id olds with | some j => .arr j n | none => .any
  | .inner _ _ _ _ => .any
  | .iptr _ _ _ _ _ => .any
  | x => x
def renA1 (olds : List Nat) (hp : Nat → Option Root) : A1 → A1
  | .l x => .l (renLV olds hp x)
  | .agg xs => .agg (xs.map (renLV olds hp))
def renAV (olds : List Nat) (hp : Nat → Option Root) : AV → AV
  | .one x => .one (renA1 olds hp x)
  | .tup xs => .tup (xs.map (renA1 olds hp))
def renRoot (olds : List Nat) (hp : Nat → Option Root) : Root → Root
  | .row _ _ r => .row 0 0 r
  | .hole _ _ r i f => .hole 0 0 r i f
  | .box _ cells => .box 0 (cells.map (renLV olds hp))
  | .ghost => .ghost
def hpOf (l : List (Option Root)) (j : Nat) : Option Root := match l[j]? with | some r => r | none => none
def slOf (l : List (Nat × AV)) (j : Nat) : AV := match look l j with | some v => v | none => .l .any
def pairUp : List Nat → List AV → List (Nat × AV)
  | t :: ts, v :: vs => (t, v) :: pairUp ts vs
  | _, _ => []
def stOf (live : List Nat) (vs : List AV) (hs : List (Option Root)) : St := ⟨slOf (pairUp live vs), hpOf hs, hs.length⟩
/-- The roots that a value leads to, in order; those met already stay where they are. -/
def reachLV (hp : Nat → Option Root) : Nat → LV → List Nat → List Nat
  | d, x, acc => match (match x with | .own id => some id | .sub id _ _ => some id | .bptr id _ => some id | .eptr id _ _ => some id | .arr id _ => some id | _ => none) with
    | none => acc
    | some id => bif acc.elem id then acc else match hp id with
      | none => acc
      | some (.box _ cells) => match d with
        | 0 => acc ++ [id]
        | d + 1 => cells.foldl (fun acc x => reachLV hp d x acc) (acc ++ [id])
      | some _ => acc ++ [id]
def reachAV (hp : Nat → Option Root) (x : AV) (acc : List Nat) : List Nat := match x with
  | .one (.l x) => reachLV hp 3 x acc
  | .one (.agg xs) => xs.foldl (fun acc x => reachLV hp 3 x acc) acc
  | .tup _ => acc
def oldsOf (live : List Nat) (S : St) : List Nat := live.foldl (fun acc t => reachAV S.hp (S.sl t) acc) []
def normV (live : List Nat) (S : St) : List AV := live.map fun t => renAV (oldsOf live S) S.hp (S.sl t)
def normH (live : List Nat) (S : St) : List (Option Root) := (oldsOf live S).map fun id => (S.hp id).map (renRoot (oldsOf live S) S.hp)

/-! ### Statements -/
def firstRegion : Code → Option Nat
  | .region id _ _ => some id
  | .seq a b => match firstRegion a with | some i => some i | none => firstRegion b
  | .cond _ a b => match firstRegion a with | some i => some i | none => firstRegion b
  | .block _ b => firstRegion b
  | .loop b => firstRegion b
  | _ => none
def liveAt (live : List (Nat × List Nat)) (c : Code) : List Nat := match firstRegion c with | some i => (look live i).getD [] | none => []
def liveOut (live : List (Nat × List Nat)) (c : Code) : List Nat := match firstRegion c with | some i => (look live (i + 100000)).getD [] | none => []
/-- A state as it is told at a loop's end. -/
def canon (live : List Nat) (S : St) : St := stOf live (normV live S) (normH live S)
/-- The loops of a function: what they answer, by the state at their heads. -/
abbrev LTab (R : Type) := Nat → (X → St → Option R) → List AV → List (Option Root) → Option R
def keyOf (c : Code) : Nat := match firstRegion c with | some i => i | none => 0
def seqK (f : (X → St → Option R) → St → Option R) (K : X → St → Option R) : X → St → Option R := fun x S => match x with | .normal => f K S | x => K x S
def blockK (id : Nat) (K : X → St → Option R) : X → St → Option R := fun x S => match x with | .exit j => (bif j == id then K .normal S else K (.exit j) S) | x => K x S
def ev (G : Glob R) (live : List (Nat × List Nat)) (Λ : LTab R) : Code → (X → St → Option R) → St → Option R
  | .skip, K, S => K .normal S
  | .region _ ops draw, K, S => evRegion G ops draw S (K .normal)
  | .seq a b, K, S => ev G live Λ a (seqK (ev G live Λ b) K) S
  | .cond c a b, K, S => match St.rd G.nt S.sl c with
    | .one (.l (.b x)) => (match x with
      | true => ev G live Λ a K (match c with | .tmp t => S.put (some t) (.l (.b true)) | _ => S)
      | false => ev G live Λ b K (match c with | .tmp t => S.put (some t) (.l (.b false)) | _ => S))
    | _ => none
  | .block id body, K, S => ev G live Λ body (blockK id K) S
  | .loop body, K, S => Λ (keyOf body) K (normV (liveAt live body) S) (normH (liveAt live body) S)
  | .exit id, K, S => K (.exit id) S
  | .ret, K, S => K .ret S
  | _, _, _ => none
/-- A loop, round by round. -/
def iter {A : Type} (step : (A → Option R) → A → Option R) : Nat → A → Option R
  | 0, _ => none
  | n + 1, a => step (iter step n) a

/-! ### Functions -/
/-- A parameter: its value, its new roots. -/
def inLeaf (tt : TT) (t : Nat) (d : DL) (nx : Nat) : Option (LV × List (Nat × Option Root) × Nat) :=
  match d with
  | .i k n => some (.i k n, [], nx)
  | .b x => some (.b x, [], nx)
  | .s x => some (.s x, [], nx)
  | .er x => some (.er x, [], nx)
  | .sl .frz r => some (.val true r, [], nx)
  | .sl .lent r => some (.val false r, [], nx)
  | .sl .own r => match elemTy tt t with
    | some e => some (.own nx, [(nx, some (.row e 0 r))], nx + 1)
    | none => none
def inLeafs (tt : TT) : List Nat → List DL → Nat → Option (List LV × List (Nat × Option Root) × Nat)
  | [], [], nx => some ([], [], nx)
  | t :: ts, d :: ds, nx => match inLeaf tt t d nx with
    | some (x, up, nx) => match inLeafs tt ts ds nx with
      | some (xs, up', nx) => some (x :: xs, up ++ up', nx)
      | none => none
    | none => none
  | _, _, _ => none
def inArg (tt : TT) (t : Nat) (d : DV) (nx : Nat) : Option (AV × List (Nat × Option Root) × Nat) :=
  match d with
  | .l d => match inLeaf tt t d nx with | some (x, up, nx) => some (.l x, up, nx) | none => none
  | .agg ds => match inLeafs tt (leafTypes tt depth t) ds nx with | some (xs, up, nx) => some (.one (.agg xs), up, nx) | none => none
  | .ptr ds => match tt t with
    | some ⟨.ptr e, _, _⟩ => match inLeafs tt (leafTypes tt depth e) ds (nx + 1) with
      | some (xs, up, nx') => some (.l (.bptr nx 0), up ++ [(nx, some (.box e xs))], nx')
      | none => none
    | _ => none
def inArgs (tt : TT) : List Nat → List DV → Nat → Option (List AV × List (Nat × Option Root) × Nat)
  | [], [], nx => some ([], [], nx)
  | t :: ts, d :: ds, nx => match inArg tt t d nx with
    | some (x, up, nx) => match inArgs tt ts ds nx with
      | some (xs, up', nx) => some (x :: xs, up ++ up', nx)
      | none => none
    | none => none
  | _, _, _ => none
def numbered : Nat → List AV → List (Nat × AV)
  | _, [] => []
  | i, x :: xs => (i, x) :: numbered (i + 1) xs
/-- A result's leaf: the value, the roots handed on, the roots frozen. -/
def outLeaf (tt : TT) (hp : Nat → Option Root) (oc : Cls) (t : Nat) (x : LV) : Option (DL × List Nat × List Nat) :=
  match x with
  | .i k n => some (.i k n, [], [])
  | .b x => some (.b x, [], [])
  | .s x => some (.s x, [], [])
  | .er x => some (.er x, [], [])
  | .nil => match elemTy tt t with
    | some e => match emptyRow tt e with
      | some r => (match oc with | .own => some (.sl .own r, [], []) | c => some (.sl c r.frz, [], []))
      | none => none
    | none => none
  | .own id => match hp id with
    | some (.row _ _ r) => (match oc with
      | .own => bif r.owned then some (.sl .own r, [id], []) else none
      | .frz => bif r.owned then some (.sl .frz r.frz, [], [id]) else none
      | .lent => some (.sl .lent r.frz, [], [id]))
    | _ => none
  | .sub id 0 hi => match hp id with
    | some (.row _ _ r) => (match oc with | .own => (bif r.owned then some (.sl .own (r.take hi), [id], []) else none) | _ => none)
    | _ => none
  | .val p r => (match oc with | .own => none | .frz => (bif p then some (.sl .frz r, [], []) else none) | .lent => some (.sl .lent r, [], []))
  | _ => none
def outLeafs (tt : TT) (hp : Nat → Option Root) (oc : Cls) : List Nat → List LV → Option (List DL × List Nat × List Nat)
  | [], [] => some ([], [], [])
  | t :: ts, x :: xs => match outLeaf tt hp oc t x with
    | some (d, ks, fk) => match outLeafs tt hp oc ts xs with
      | some (ds, ks', fk') => some (d :: ds, ks ++ ks', fk ++ fk')
      | none => none
    | none => none
  | _, _ => none
def outArg (tt : TT) (hp : Nat → Option Root) (oc : Cls) (t : Nat) (x : AV) : Option (DV × List Nat × List Nat) :=
  match x with
  | .one (.l x) => match outLeaf tt hp oc t x with | some (d, ks, fk) => some (.l d, ks, fk) | none => none
  | .one (.agg xs) => match outLeafs tt hp oc (leafTypes tt depth t) xs with | some (ds, ks, fk) => some (.agg ds, ks, fk) | none => none
  | .tup _ => none
def outArgs (tt : TT) (hp : Nat → Option Root) (oc : Cls) : List Nat → List AV → Option (List DV × List Nat × List Nat)
  | [], [] => some ([], [], [])
  | t :: ts, x :: xs => match outArg tt hp oc t x with
    | some (d, ks, fk) => match outArgs tt hp oc ts xs with
      | some (ds, ks', fk') => some (d :: ds, ks ++ ks', fk ++ fk')
      | none => none
    | none => none
  | _, _ => none
/-- The values of a function's results. -/
def resVals (tt : TT) (nt : Nat) (S : St) : List ResultVar → Option (List AV)
  | [] => some []
  | .tmp t :: rs => bif Nat.blt t nt then (match resVals tt nt S rs with | some xs => some (S.sl t :: xs) | none => none) else none
  | .cell p t :: rs => bif Nat.blt p nt && isStruct tt t then (match S.sl p with
    | .one (.l (.bptr id 0)) => match S.hp id with
      | some (.box _ cells) => bif cells.length == sizeOf' tt t then (match resVals tt nt S rs with | some xs => some (.one (.agg cells) :: xs) | none => none) else none
      | _ => none
    | _ => none) else none
/-- The arguments that go back: their types, and the slots in which they are kept. -/
def ioArgs : Nat → List Mode → List Nat → List (Nat × Nat)
  | i, m :: ms, t :: ts => (match m with | .io => [(t, i)] | _ => []) ++ ioArgs (i + 1) ms ts
  | _, _, _ => []
def finish (tt : TT) (g : Sig) (fn : Func) (S : St) (K : List DV → Option R) : Option R :=
  match resVals tt fn.ntmps S fn.results.toList with
  | none => none
  | some vs => match outArgs tt S.hp g.oc g.results vs with
    | none => none
    | some (ds, ks, fk) =>
      let ios := ioArgs fn.ntmps g.modes g.params
      match outArgs tt S.hp .own (ios.map (·.1)) (ios.map fun p => S.sl p.2) with
      | none => none
      | some (ds', ks', fk') => bif nodupB (ks ++ ks' ++ (fk ++ fk')) then K (ds ++ ds') else none
def evFn (G : Glob R) (live : List (Nat × List Nat)) (Λ : LTab R) (g : Sig) (fn : Func) (ds : List DV) (K : List DV → Option R) : Option R :=
  match inArgs G.tt g.params ds 0, fn.body with
  | some (xs, up, nx), some body =>
    ev G live Λ body (fun x S => match x with
      | .exit _ => none
      | _ => finish G.tt g fn S K) ⟨slOf (bif noIO g.modes then numbered 0 xs else numbered 0 xs ++ numbered fn.ntmps xs), upd (fun _ => none) up, nx⟩
  | _, _ => none

/-! ### Telling what stands at a loop's head -/
def aHead (vs : List AV) (K : AV → List AV → Option R) : Option R := match vs with | v :: vs => K v vs | _ => none
def aNil (vs : List AV) (K : Option R) : Option R := match vs with | [] => K | _ => none
def hHead (hs : List (Option Root)) (K : Option Root → List (Option Root) → Option R) : Option R := match hs with | r :: hs => K r hs | _ => none
def hNil (hs : List (Option Root)) (K : Option R) : Option R := match hs with | [] => K | _ => none
def vL (v : AV) (K : LV → Option R) : Option R := match v with | .one (.l x) => K x | _ => none
def vAgg (v : AV) (K : List LV → Option R) : Option R := match v with | .one (.agg x) => K x | _ => none
def cHead (xs : List LV) (K : LV → List LV → Option R) : Option R := match xs with | x :: xs => K x xs | _ => none
def cNil (xs : List LV) (K : Option R) : Option R := match xs with | [] => K | _ => none
def lI (k : IntKind) (x : LV) (K : Int → Option R) : Option R := match x with | .i k' n => (bif decide (k = k') then K n else none) | _ => none
def lB (x : LV) (K : Bool → Option R) : Option R := match x with | .b b => K b | _ => none
def lS (x : LV) (K : ByteArray → Option R) : Option R := match x with | .s s => K s | _ => none
def lE (x : LV) (K : Bool → Option R) : Option R := match x with | .er b => K b | _ => none
def lOwn (id : Nat) (x : LV) (K : Option R) : Option R := match x with | .own j => (bif j == id then K else none) | _ => none
def lSub (id : Nat) (x : LV) (K : Nat → Nat → Option R) : Option R := match x with | .sub j lo hi => (bif j == id then K lo hi else none) | _ => none
def lPtr (id k : Nat) (x : LV) (K : Option R) : Option R := match x with | .bptr j k' => (bif j == id && k' == k then K else none) | _ => none
def lArr (id n : Nat) (x : LV) (K : Option R) : Option R := match x with | .arr j m => (bif j == id && m == n then K else none) | _ => none
def lAny (x : LV) (K : Option R) : Option R := match x with | .any => K | _ => none
def lNilS (x : LV) (K : Option R) : Option R := match x with | .nil => K | _ => none
def lVal (p : Bool) (x : LV) (K : Row → Option R) : Option R := match x with | .val p' r => (bif p' == p then K r else none) | _ => none
def rwInts (k : IntKind) (r : Row) (K : List Int → Option R) : Option R := match r with | .ints k' l => (bif decide (k = k') then K l else none) | _ => none
def rwBools (r : Row) (K : List Bool → Option R) : Option R := match r with | .bools l => K l | _ => none
def rwStrs (r : Row) (K : List ByteArray → Option R) : Option R := match r with | .strs l => K l | _ => none
def rwRows (o : Bool) (r : Row) (K : List (List Int) → Option R) : Option R := match r with | .rows o' l => (bif o' == o then K l else none) | _ => none
def rwRecs (sg : List Bool) (o : Bool) (r : Row) (K : List (List Leaf) → Option R) : Option R := match r with | .recs sg' o' l => (bif sg' == sg && o' == o then K l else none) | _ => none
def hRow (x : Option Root) (K : Row → Option R) : Option R := match x with | some (.row 0 0 r) => K r | _ => none
def hBox (x : Option Root) (K : List LV → Option R) : Option R := match x with | some (.box 0 cells) => K cells | _ => none
end
end Go.Proofs.Ytfkejiljabmaaaa.V
