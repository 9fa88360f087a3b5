/- What the operations do: those that leave memory alone. Conditions: the types' table holds of the program. -/
import Derived.Test.YtfkejiljabmaaaaVSrel
import Derived.WalkKit
import Derived.WalkLawsBesides
import Derived.Stop.IfaceNil
set_option linter.unusedVariables false
set_option linter.unusedSimpArgs false
namespace Go.Proofs.Ytfkejiljabmaaaa.V
open Go

/-! ### The types' table -/
def zeroV (tt : TT) (t : Nat) : Value := match tt t with
  | some ⟨.int k, _, _⟩ => .int k 0
  | some ⟨.bool, _, _⟩ => .bool false
  | some ⟨.str, _, _⟩ => .string ByteArray.empty
  | some ⟨.slice _, _, _⟩ => .slice none 0 0
  | some ⟨.err, _, _⟩ => .nilIface
  | _ => .pointer none
def descOK (P : Program) (t : Nat) : TK → Prop
  | .int k => P.underlying t = some (.int k)
  | .bool => P.underlying t = some .bool
  | .str => P.underlying t = some .string
  | .slice e => P.underlying t = some (.slice e)
  | .array n e => P.underlying t = some (.array n e)
  | .ptr e => P.underlying t = some (.pointer e)
  | .struct fs => ∃ fields : Array Field, P.underlying t = some (.struct fields) ∧ fields.toList.map (fun f => (f.offset, f.type)) = fs ∧ ∀ f ∈ fields.toList, ∃ i, P.info? f.type = some i ∧ i.size ≠ 0
  | .err => ∃ ms, P.underlying t = some (.interface ms)
  | .other => True
def zeroOK (tt : TT) (t : Nat) (z : Value) : TK → Prop
  | .array n e => z.cells.toList = List.replicate n (zeroV tt e)
  | _ => z.cells.toList = (leafTypes tt depth t).map (zeroV tt)
structure TFact (P : Program) (tt : TT) (t : Nat) (e : TE) : Prop where
  desc : descOK P t e.k
  info : ∃ i, P.info? t = some i ∧ i.size = e.size ∧ i.bytes = e.bytes ∧ ∃ z, i.zero = some z ∧ zeroOK tt t z e.k
  cells : (∀ n x, e.k ≠ .array n x) → e.size = (leafTypes tt depth t).length
  some : 0 < e.size ∧ 0 < e.bytes
def TOK (P : Program) (tt : TT) : Prop := ∀ t e, tt t = some e → TFact P tt t e

/-! ### The outcome of an operation -/
/-- The new roots have their names already: see 'ghost'. -/
structure Out (P : Program) (C : Cx) (S : St) (o : Oper) (E : Eff) (a : Act) (w : World) (w' : World) (ρ' : Place) (Fs' : Nat → FP) (u : Value) : Prop where
  run : (execOp a.eval o).run P w = .ok (.value u) w' ∨ ((execOp a.eval o).run P w = .ok .skip w' ∧ u = undef)
  rel : SRel C ⟨S.sl, upd S.hp E.up, S.nx⟩ a w' ρ' Fs'
  val : AVRel (C.env w' ρ' (upd S.hp E.up) S.nx Fs') E.v u
/-- An operation that leaves memory alone. -/
theorem Out.pure {P : Program} {C : Cx} {S : St} {o : Oper} {E : Eff} {a : Act} {w : World} {ρ : Place} {Fs : Nat → FP} {u : Value} (h : SRel C S a w ρ Fs) (hu : E.up = []) (hr : (execOp a.eval o).run P w = .ok (.value u) w) (hv : AVRel (C.env w ρ S.hp S.nx Fs) E.v u) : Out P C S o E a w w ρ Fs u := by
  refine ⟨.inl hr, ?_, ?_⟩
  · rw [hu]; exact h
  · rw [hu]; exact hv

theorem run_v {P : Program} {s : Sem Value} {v : Value} {w w' : World} (h : s.run P w = .ok v w') : ((do pure (.value (← s))) : Sem Next).run P w = .ok (.value v) w' := by
  have e := Sem.run_bind' P s (fun v => Sem.pure (Next.value v)) w
  rw [h] at e
  exact e
theorem run_u {P : Program} {s : Sem Unit} {x : Unit} {w w' : World} (h : s.run P w = .ok x w') : ((do s; pure .skip) : Sem Next).run P w = .ok .skip w' := by
  have e := Sem.run_bind' P s (fun _ => Sem.pure Next.skip) w
  rw [h] at e
  exact e
theorem run_then {P : Program} {α β : Type} {s : Sem α} {f : α → Sem β} {x : α} {w w' : World} (h : s.run P w = .ok x w') : ((do let y ← s; f y) : Sem β).run P w = (f x).run P w' := by
  have e := Sem.run_bind' P s f w
  rw [h] at e
  exact e
theorem run_move {P : Program} {ρ : Operand → Value} {o : Oper} {x : Operand} (h : o.op = .move x ∨ o.op = .assign x) (w : World) : (execOp ρ o).run P w = .ok (.value (ρ x)) w := by
  rcases h with h | h <;> simp [execOp, h, go_sem] <;> rfl
theorem run_pick {P : Program} {ρ : Operand → Value} {o : Oper} {c x y : Operand} {b : Bool} (h : o.op = .pick c x y) (hc : ρ c = .bool b) (w : World) : (execOp ρ o).run P w = .ok (.value (if b then ρ x else ρ y)) w := by
  simp [execOp, h, hc, go_sem, asBool]
theorem run_extract {P : Program} {ρ : Operand → Value} {o : Oper} {x : Operand} {j : Nat} {vs : Array Value} {v : Value} (h : o.op = .extract x j) (hx : ρ x = .tuple vs) (hv : vs[j]? = some v) (w : World) : (execOp ρ o).run P w = .ok (.value v) w := by
  simp [execOp, h, hx, go_sem, Instr.extract, hv]
theorem run_nilCheck {P : Program} {ρ : Operand → Value} {o : Oper} {x : Operand} {a : Addr} (h : o.op = .nilCheck x) (hx : ρ x = .pointer (some a)) (w : World) : (execOp ρ o).run P w = .ok (.value (.pointer (some a))) w := by
  simp [execOp, h, hx, go_sem]
theorem run_binOp {P : Program} {ρ : Operand → Value} {o : Oper} {op : BinOp} {t u : TypeId} {x y : Operand} {v : Value} {w : World} (h : o.op = .binOp op t x y u) (hv : ((do eqGuard op t x y (ρ x) (ρ y); Go.binOp op t (ρ x) (ρ y)) : Sem Value).run P w = .ok v w) : (execOp ρ o).run P w = .ok (.value v) w := by
  simp only [execOp, h]
  exact run_v hv
theorem run_unOp {P : Program} {ρ : Operand → Value} {o : Oper} {op : UnOp} {t : TypeId} {x : Operand} {v : Value} {w : World} (h : o.op = .unOp op t x) (hv : (Op.unary op (ρ x)).run P w = .ok v w) : (execOp ρ o).run P w = .ok (.value v) w := by
  simp only [execOp, h]
  exact run_v hv

/-! ### Arithmetic -/
theorem chk_some {α : Type} {p : Bool} {x : Option α} {y : α} (h : chk p x = some y) : p = true ∧ x = some y := by
  cases p
  · simp [chk] at h
  · exact ⟨rfl, h⟩
theorem binOp_ints {P : Program} {op : BinOp} {k k' : IntKind} {a b : Int} {z : LV} (he : binOp (R := LV) op (.i k a) (.i k' b) some = some z) (t : TypeId) (ox oy : Operand) (E : Env) (w : World) :
    ∃ r, LVRel E z r ∧ ((do eqGuard op t ox oy (.int k a) (.int k' b); Go.binOp op t (.int k a) (.int k' b)) : Sem Value).run P w = .ok r w := by
  have hg : eqGuard op t ox oy (.int k a) (.int k' b) = pure () := by cases op <;> rfl
  rw [hg]
  show ∃ r, LVRel E z r ∧ (Go.binOp op t (.int k a) (.int k' b)).run P w = .ok r w
  by_cases hs : op = .shl ∨ op = .shr
  · rcases hs with rfl | rfl
    all_goals
      simp only [binOp] at he
      obtain ⟨h1, h2⟩ := chk_some he
      have h0 : ¬ b < 0 := by have := of_decide_eq_true h1; omega
      cases h2
      refine ⟨_, rfl, ?_⟩
      simp only [Go.binOp, Op.shift, h0, if_false]
      rfl
  · by_cases hk : k = k'
    · subst hk
      cases op <;> first | (exfalso; exact hs (.inl rfl)) | (exfalso; exact hs (.inr rfl)) | skip
      all_goals simp only [binOp, decide_true, cond_true, Option.some.injEq] at he
      all_goals first
        | (subst he; exact ⟨_, rfl, by simp [Go.binOp, Op.intArith, Op.intCmp, Op.intBits, ibits] <;> rfl⟩)
        | (obtain ⟨h1, h2⟩ := chk_some he
           have hb0 : ¬ b = 0 := by simpa using h1
           cases h2
           exact ⟨_, rfl, by simp [Go.binOp, Op.intDiv, hb0] <;> rfl⟩)
    · exfalso
      cases op <;> first | (exact hs (.inl rfl)) | (exact hs (.inr rfl)) | simp [binOp, hk] at he
theorem binOp_sound {P : Program} {tt : TT} (T : TOK P tt) {op : BinOp} {x y z : LV} (he : binOp (R := LV) op x y some = some z) (t : TypeId) (ox oy : Operand) (ht : tyOK tt t x = true) (E : Env) (u v : Value) (hu : LVRel E x u) (hv : LVRel E y v)
    (hn : y = .er true → ∃ c, oy = .const c) (w : World) :
    ∃ r, LVRel E z r ∧ ((do eqGuard op t ox oy u v; Go.binOp op t u v) : Sem Value).run P w = .ok r w := by
  cases x <;> cases y <;> first | (exfalso; cases op <;> simp [binOp] at he; done) | skip
  case i.i => cases hu; cases hv; exact binOp_ints he t ox oy E w
  case s.s a b =>
    cases hu; cases hv
    have hg : eqGuard op t ox oy (.string a) (.string b) = pure () := by cases op <;> rfl
    rw [hg]
    show ∃ r, LVRel E z r ∧ (Go.binOp op t (.string a) (.string b)).run P w = .ok r w
    cases op <;> first | (exfalso; simp [binOp] at he; done) | skip
    · simp only [binOp] at he
      obtain ⟨h1, h2⟩ := chk_some he
      cases h2
      refine ⟨_, rfl, ?_⟩
      have := of_decide_eq_true h1
      simp [Go.binOp, Op.stringOp]
      simp [maxI] at this
      omega
    · simp only [binOp, Option.some.injEq] at he; subst he; exact ⟨_, rfl, by simp [Go.binOp, Op.stringOp] <;> rfl⟩
    · simp only [binOp, Option.some.injEq] at he; subst he; exact ⟨_, rfl, by simp [Go.binOp, Op.stringOp] <;> rfl⟩
  case b.b a b =>
    cases hu; cases hv
    have hg : eqGuard op t ox oy (.bool a) (.bool b) = pure () := by cases op <;> rfl
    rw [hg]
    show ∃ r, LVRel E z r ∧ (Go.binOp op t (.bool a) (.bool b)).run P w = .ok r w
    have hbt : P.underlying t = some .bool := by
      simp only [tyOK] at ht
      split at ht
      · rename_i sz bs hq; exact (T t _ hq).desc
      · cases ht
    cases op <;> first | (exfalso; simp [binOp] at he; done) | skip
    · simp only [binOp, Option.some.injEq] at he; subst he; exact ⟨_, rfl, run_eql_bool _ _ _ _ hbt⟩
    · simp only [binOp, Option.some.injEq] at he; subst he; exact ⟨_, rfl, run_neq_bool _ _ _ _ hbt⟩
  case er.er a b =>
    cases b with
    | false => exfalso; cases op <;> cases a <;> simp [binOp] at he
    | true =>
      cases hv
      have hit : P.isIface t = true := by
        simp only [tyOK] at ht
        split at ht
        · rename_i sz bs hq
          obtain ⟨ms, h⟩ := (T t _ hq).desc
          simp [Program.isIface, h]
        · cases ht
      obtain ⟨c, rfl⟩ := hn rfl
      cases a with
      | true =>
        cases hu
        have hg : eqGuard op t ox (.const c) .nilIface .nilIface = pure () := by cases op <;> cases ox <;> rfl
        rw [hg]
        show ∃ r, LVRel E z r ∧ (Go.binOp op t .nilIface .nilIface).run P w = .ok r w
        cases op <;> first | (exfalso; simp [binOp] at he; done) | skip
        · simp only [binOp, Option.some.injEq] at he; subst he; exact ⟨_, rfl, run_eql_nil_nil_at _ _ hit⟩
        · simp only [binOp, Option.some.injEq] at he; subst he; exact ⟨_, rfl, run_neq_nil_nil_at _ _ hit⟩
      | false =>
        obtain ⟨d, q, rfl⟩ := hu
        have hg : eqGuard op t ox (.const c) (.iface d q) .nilIface = pure () := by cases op <;> rfl
        rw [hg]
        show ∃ r, LVRel E z r ∧ (Go.binOp op t (.iface d q) .nilIface).run P w = .ok r w
        cases op <;> first | (exfalso; simp [binOp] at he; done) | skip
        · simp only [binOp, Option.some.injEq] at he; subst he; exact ⟨_, rfl, run_eql_iface_nil _ _ hit _ _⟩
        · simp only [binOp, Option.some.injEq] at he; subst he; exact ⟨_, rfl, run_neq_iface_nil _ _ hit _ _⟩
theorem unOp_sound {P : Program} {op : UnOp} {x z : LV} (he : unOp (R := LV) op x some = some z) (E : Env) (u : Value) (hu : LVRel E x u) (w : World) : ∃ r, LVRel E z r ∧ (Op.unary op u).run P w = .ok r w := by
  cases op <;> cases x <;> simp only [unOp, Option.some.injEq] at he <;> first | cases he | skip
  · cases hu; exact ⟨_, rfl, rfl⟩
  · cases hu; exact ⟨_, rfl, rfl⟩
end Go.Proofs.Ytfkejiljabmaaaa.V
