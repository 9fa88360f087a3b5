/- Loop heads, statements, functions. Conditions: as in VDo; what the table of loops answers is what its rounds give. -/
import Derived.Test.YtfkejiljabmaaaaVDraw
import Derived.LoopN
set_option linter.unusedVariables false
set_option linter.unusedSimpArgs false
namespace Go.Proofs.Ytfkejiljabmaaaa.V
open Go

/-! ### Names at a loop's head -/
section
theorem idx_get : ∀ {x : Nat} {l : List Nat} {j : Nat}, idx x l = some j → l[j]? = some x
  | x, y :: l, j, h => by
    simp only [idx] at h
    cases e : x == y with
    | true => rw [e] at h; simp at h; subst h; simp [eq_of_beq e]
    | false =>
      rw [e] at h
      simp only [cond_false] at h
      split at h
      · rename_i i hi
        cases h
        simpa using idx_get hi
      · cases h
def Named1 (hp : Nat → Option Root) (acc : List Nat) : Prop := acc.Nodup ∧ ∀ id ∈ acc, ∃ r, hp id = some r
theorem Named1.add {hp : Nat → Option Root} {acc : List Nat} (h : Named1 hp acc) {id : Nat} {r : Root} (hn : acc.elem id = false) (hr : hp id = some r) : Named1 hp (acc ++ [id]) := by
  have hn : id ∉ acc := fun h => by rw [List.elem_iff.2 h] at hn; cases hn
  refine ⟨List.nodup_append.2 ⟨h.1, by simp, fun a ha b hb => ?_⟩, fun j hj => ?_⟩
  · simp at hb; subst hb; exact fun e => hn (e ▸ ha)
  · rcases List.mem_append.1 hj with hj | hj
    · exact h.2 j hj
    · simp at hj; subst hj; exact ⟨r, hr⟩
theorem foldl_keeps' {α β : Type} (f : β → α → β) (Pr : β → Prop) (hf : ∀ b a, Pr b → Pr (f b a)) : ∀ (l : List α) (b : β), Pr b → Pr (l.foldl f b)
  | [], b, h => h
  | x :: l, b, h => foldl_keeps' f Pr hf l _ (hf b x h)
theorem reachLV_named {hp : Nat → Option Root} : ∀ (d : Nat) (x : LV) (acc : List Nat), Named1 hp acc → Named1 hp (reachLV hp d x acc) := by
  intro d
  induction d with
  | zero =>
    intro x acc h
    unfold reachLV
    split
    · exact h
    · rename_i id hid
      cases hb : acc.elem id with
      | true => exact h
      | false =>
        simp only [cond_false]
        split
        · exact h
        · rename_i hr; exact h.add hb hr
        · rename_i hr; exact h.add hb hr
  | succ d ih =>
    intro x acc h
    unfold reachLV
    split
    · exact h
    · rename_i id hid
      cases hb : acc.elem id with
      | true => exact h
      | false =>
        simp only [cond_false]
        split
        · exact h
        · rename_i cells hr; exact foldl_keeps' _ (Named1 hp) (fun b a hb => ih a b hb) cells _ (h.add hb hr)
        · rename_i hr; exact h.add hb hr
theorem reachAV_named {hp : Nat → Option Root} (x : AV) (acc : List Nat) (h : Named1 hp acc) : Named1 hp (reachAV hp x acc) := by
  unfold reachAV
  split
  · exact reachLV_named _ _ _ h
  · exact foldl_keeps' _ (Named1 hp) (fun b a hb => reachLV_named _ a b hb) _ _ h
  · exact h
theorem oldsOf_named (live : List Nat) (S : St) : Named1 S.hp (oldsOf live S) :=
  foldl_keeps' _ (Named1 S.hp) (fun b a hb => reachAV_named _ b hb) live [] ⟨by simp, by simp⟩
def ofOld {α : Type} (f : Nat → α) (z : α) (olds : List Nat) (j : Nat) : α := match olds[j]? with | some id => f id | none => z
theorem sumTo_olds (Fs : Nat → FP) (b : Nat) (l : List Nat) : ∀ (n : Nat), n ≤ l.length → sumTo n (ofOld Fs fz l) b = sumL Fs (l.take n) b := by
  intro n
  induction n with
  | zero => intro _; rfl
  | succ n ih =>
    intro h
    have e : l.take (n + 1) = l.take n ++ [l[n]'(by omega)] := by rw [List.take_succ_eq_append_getElem (by omega)]
    rw [e, sumL_append]
    simp only [sumTo, fadd_at]
    rw [ih (by omega)]
    congr 1
    simp [ofOld, List.getElem?_eq_getElem (show n < l.length by omega), sumL]
theorem look_pair (live : List Nat) (f : Nat → AV) (t : Nat) : look (pairUp live (live.map f)) t = if t ∈ live then some (f t) else none := by
  induction live with
  | nil => rfl
  | cons u l ih =>
    simp only [List.map_cons, pairUp, look]
    by_cases e : u = t
    · subst e; simp
    · have e1 : (u == t) = false := by simp [e]
      have e2 : ¬ t = u := fun h => e h.symm
      simp [e1, e2, ih]
variable {C : Cx} {S : St} {a : Act} {w : World} {ρ : Place} {Fs : Nat → FP}
section
variable {olds : List Nat}
def renHp (olds : List Nat) (hp : Nat → Option Root) : Nat → Option Root := hpOf (olds.map fun id => (hp id).map (renRoot olds hp))
theorem renHp_at {hp : Nat → Option Root} {j : Nat} {root' : Root} (h : renHp olds hp j = some root') : ∃ id root, olds[j]? = some id ∧ hp id = some root ∧ root' = renRoot olds hp root := by
  unfold renHp hpOf at h
  split at h
  · rename_i r hr
    rw [List.getElem?_map] at hr
    cases ho : olds[j]? with
    | none => rw [ho] at hr; cases hr
    | some id =>
      rw [ho] at hr
      simp only [Option.map_some, Option.some.injEq] at hr
      subst hr
      cases hq : hp id with
      | none => rw [hq] at h; cases h
      | some root => rw [hq] at h; cases h; exact ⟨id, root, rfl, hq, rfl⟩
  · cases h
theorem renRoot_row {hp : Nat → Option Root} {root : Root} {r : Row} (h : root.row? = some r) : (renRoot olds hp root).row? = some r := by cases root <;> exact h
theorem renRoot_real {hp : Nat → Option Root} {root : Root} (h : root.real) : (renRoot olds hp root).real := by cases root <;> exact h
structure RenEnv (olds : List Nat) (E E' : Env) : Prop where
  w : E'.w = E.w
  zf : ∀ b, E.Zf b → E'.Zf b
  zl : ∀ b, E.ZL b → E'.ZL b
  ρ : ∀ j id, olds[j]? = some id → E'.ρ j = E.ρ id
  hp : E'.hp = renHp olds E.hp
  nx : E'.nx = olds.length
theorem renLV_rel {E E' : Env} (h : RenEnv olds E E') {x : LV} {v : Value} (hx : LVRel E x v) : LVRel E' (renLV olds E.hp x) v := by
  have get : ∀ {id j : Nat}, idx id olds = some j → j < E'.nx ∧ E'.ρ j = E.ρ id ∧ ∀ root', E'.hp j = some root' → ∃ root, E.hp id = some root ∧ root' = renRoot olds E.hp root := fun {id j} hj => by
    have h1 := idx_get hj
    refine ⟨by rw [h.nx]; exact (List.getElem?_eq_some_iff.1 h1).1, h.ρ j id h1, fun root' hr => ?_⟩
    rw [h.hp] at hr
    obtain ⟨id', root, e1, e2, e3⟩ := renHp_at hr
    rw [h1] at e1; cases e1
    exact ⟨root, e2, e3⟩
  cases x with
  | own id =>
    simp only [renLV]
    split
    · rename_i j hj
      obtain ⟨g1, g2, g3⟩ := get hj
      obtain ⟨_, hx⟩ := hx
      refine ⟨g1, fun root' hr => ?_⟩
      obtain ⟨root, e1, rfl⟩ := g3 root' hr
      obtain ⟨r, k1, k2⟩ := hx root e1
      exact ⟨r, renRoot_row k1, by rw [g2]; exact k2⟩
    · trivial
  | sub id lo hi =>
    simp only [renLV]
    split
    · rename_i j hj
      obtain ⟨g1, g2, g3⟩ := get hj
      obtain ⟨_, hx⟩ := hx
      refine ⟨g1, fun root' hr => ?_⟩
      obtain ⟨root, e1, rfl⟩ := g3 root' hr
      obtain ⟨r, k1, k2, k3, k4⟩ := hx root e1
      exact ⟨r, renRoot_row k1, k2, k3, by rw [g2]; exact k4⟩
    · trivial
  | bptr id k =>
    simp only [renLV]
    split
    · rename_i j hj
      obtain ⟨g1, g2, g3⟩ := get hj
      obtain ⟨_, hre, b, cap, k1, k2⟩ := hx
      refine ⟨g1, fun root' hr => ?_, b, cap, by rw [g2]; exact k1, k2⟩
      obtain ⟨root, e1, rfl⟩ := g3 root' hr
      exact renRoot_real (hre root e1)
    · trivial
  | eptr id i f =>
    simp only [renLV]
    split
    · rename_i j hj
      obtain ⟨g1, g2, g3⟩ := get hj
      obtain ⟨_, hx⟩ := hx
      refine ⟨g1, fun root' hr => ?_⟩
      obtain ⟨root, e1, rfl⟩ := g3 root' hr
      obtain ⟨r, k1, k2, b, cap, k3, k4⟩ := hx root e1
      exact ⟨r, renRoot_row k1, k2, b, cap, by rw [g2]; exact k3, k4⟩
    · trivial
  | arr id n =>
    simp only [renLV]
    split
    · rename_i j hj
      obtain ⟨g1, g2, g3⟩ := get hj
      obtain ⟨_, hx⟩ := hx
      refine ⟨g1, fun root' hr => ?_⟩
      obtain ⟨root, e1, rfl⟩ := g3 root' hr
      obtain ⟨r, k1, k2, b, cap, k3, k4⟩ := hx root e1
      exact ⟨r, renRoot_row k1, k2, b, cap, by rw [g2]; exact k3, k4⟩
    · trivial
  | inner id ver i f => trivial
  | iptr id ver i f j => trivial
  | val p r =>
    show FrzRow E'.w (if p then E'.Zf else E'.ZL) r v
    rw [h.w]
    cases p with
    | true => exact FrzRow.grow hx h.zf
    | false => exact FrzRow.grow hx h.zl
  | vptr p r i f =>
    obtain ⟨h1, ad, h2, h3⟩ := hx
    refine ⟨h1, ad, h2, ?_⟩
    rw [h.w]
    cases p with
    | true => exact FrzAt.mono h3 (fun b hb => ⟨h.zf b hb, rfl⟩)
    | false => exact FrzAt.mono h3 (fun b hb => ⟨h.zl b hb, rfl⟩)
  | er z => cases z <;> exact hx
  | _ => exact hx
theorem renLVs_rel {E E' : Env} (h : RenEnv olds E E') : ∀ {xs : List LV} {vs : List Value}, LVsRel E xs vs → LVsRel E' (xs.map (renLV olds E.hp)) vs
  | [], [], _ => trivial
  | x :: xs, v :: vs, hx => ⟨renLV_rel h hx.1, renLVs_rel h hx.2⟩
theorem renA1_rel {E E' : Env} (h : RenEnv olds E E') {x : A1} {v : Value} (hx : A1Rel E x v) : A1Rel E' (renA1 olds E.hp x) v := by
  cases x with
  | l x => exact renLV_rel h hx
  | agg xs => obtain ⟨vs, e, hx⟩ := hx; exact ⟨vs, e, renLVs_rel h hx⟩
theorem renA1s_rel {E E' : Env} (h : RenEnv olds E E') : ∀ {xs : List A1} {vs : List Value}, A1sRel E xs vs → A1sRel E' (xs.map (renA1 olds E.hp)) vs
  | [], [], _ => trivial
  | x :: xs, v :: vs, hx => ⟨renA1_rel h hx.1, renA1s_rel h hx.2⟩
theorem renAV_rel {E E' : Env} (h : RenEnv olds E E') {x : AV} {v : Value} (hx : AVRel E x v) : AVRel E' (renAV olds E.hp x) v := by
  cases x with
  | one x => exact renA1_rel h hx
  | tup xs => obtain ⟨vs, e, hx⟩ := hx; exact ⟨vs, e, renA1s_rel h hx⟩
end
theorem SRel.norm (h : SRel C S a w ρ Fs) (live : List Nat) : SRel C (stOf live (normV live S) (normH live S)) a w (ofOld ρ none (oldsOf live S)) (ofOld Fs fz (oldsOf live S)) := by
  obtain ⟨hnd, hlive⟩ := oldsOf_named live S
  generalize holds : oldsOf live S = olds at hnd hlive ⊢
  have hlt : ∀ id ∈ olds, id < S.nx := fun id hid => by obtain ⟨r, hr⟩ := hlive id hid; exact live_lt h.mem hr
  have hsum : ∀ b, sumTo olds.length (ofOld Fs fz olds) b ≤ sumTo S.nx Fs b := fun b => by
    rw [sumTo_olds Fs b olds _ (Nat.le_refl _), List.take_length]
    exact sumL_le Fs b S.nx hnd hlt
  have hHl : (normH live S).length = olds.length := by simp [normH, holds]
  have hHp : hpOf (normH live S) = renHp olds S.hp := by simp only [normH, holds]; rfl
  have hst : stOf live (normV live S) (normH live S) = ⟨slOf (pairUp live (normV live S)), renHp olds S.hp, olds.length⟩ := by
    unfold stOf; rw [hHl, hHp]
  have hzf : ∀ b, C.Zf w (sumTo S.nx Fs) b → C.Zf w (sumTo olds.length (ofOld Fs fz olds)) b := fun b hb => by
    rcases hb with hb | ⟨h1, h2, h3⟩
    · exact .inl hb
    · exact .inr ⟨h1, h2, by have := hsum b; omega⟩
  have hE : RenEnv olds (C.env w ρ S.hp S.nx Fs) (C.env w (ofOld ρ none olds) (renHp olds S.hp) olds.length (ofOld Fs fz olds)) :=
    ⟨rfl, hzf, fun b hb => hb.imp id (hzf b), fun j id hj => by simp [Cx.env, ofOld, hj], rfl, rfl⟩
  rw [hst]
  refine ⟨⟨fun id hid => ?_, fun j root' hr => ?_, fun j hj => ?_, fun b => ?_, fun b hb => ?_, h.mem.frame⟩, h.defers, h.size, fun t => ?_⟩
  · cases hq : renHp olds S.hp id with
    | none => exact hq
    | some root =>
      obtain ⟨i, _, e, _⟩ := renHp_at hq
      have := (List.getElem?_eq_some_iff.1 e).1
      have hid : olds.length ≤ id := hid
      omega
  · have hr : renHp olds S.hp j = some root' := hr
    obtain ⟨id, root, e1, e2, rfl⟩ := renHp_at hr
    have h1 := h.mem.roots id root e2
    have eF : ofOld Fs fz olds j = Fs id := by simp [ofOld, e1]
    have eρ : ofOld ρ none olds j = ρ id := by simp [ofOld, e1]
    rw [eF]
    cases root with
    | row e v r =>
      show RowRel w _ (ofOld ρ none olds j) r.cells r.len r.size (Fs id)
      rw [eρ]
      exact RowRel.mono h1 (fun b hb => ⟨hb.imp (fun x => x) (hzf b), rfl⟩) (fun _ _ => rfl)
    | hole e v r i f =>
      obtain ⟨k1, k2, k3⟩ := h1
      refine ⟨k1, k2, ?_⟩
      show RowRel w _ (ofOld ρ none olds j) _ r.len r.size (Fs id)
      rw [eρ]
      exact RowRel.mono k3 (fun b hb => ⟨hb.imp (fun x => x) (hzf b), rfl⟩) (fun _ _ => rfl)
    | box t cells =>
      obtain ⟨b, cap, vs, ty, k1, k2, k3, k4⟩ := h1
      exact ⟨b, cap, vs, ty, by show ofOld ρ none olds j = _; rw [eρ]; exact k1, k2, renLVs_rel hE k3, k4⟩
    | ghost => exact h1
  · have hj : renHp olds S.hp j = none := hj
    cases ho : olds[j]? with
    | none => simp [ofOld, ho]
    | some id =>
      simp only [ofOld, ho]
      refine h.mem.dead id ?_
      cases hq : S.hp id with
      | none => rfl
      | some root =>
        exfalso
        unfold renHp hpOf at hj
        rw [List.getElem?_map, ho] at hj
        simp [hq] at hj
  · show sumTo olds.length (ofOld Fs fz olds) b ≤ 1
    have := hsum b; have := h.mem.one b; omega
  · have hb : 1 ≤ sumTo olds.length (ofOld Fs fz olds) b := hb
    exact h.mem.mine b (by have := hsum b; omega)
  · show AVRel _ (slOf (pairUp live (normV live S)) t) _
    unfold slOf normV
    rw [look_pair]
    by_cases ht : t ∈ live
    · simp only [ht, if_true, holds]
      exact renAV_rel hE (h.slots t)
    · simp only [ht, if_false]
      trivial
end

/-! ### Statements -/
section
variable {R : Type} {P : Program} {G : Glob R} {live : List (Nat × List Nat)} {Λ : LTab R}
def exitOf : X → Exit
  | .normal => .normal
  | .exit id => .exit id
  | .ret => .ret
/-- A loop's answer is what its rounds give. -/
def LoopFit (G : Glob R) (live : List (Nat × List Nat)) (Λ : LTab R) (body : Code) (K : X → St → Option R) (vs : List AV) (hs : List (Option Root)) (r : R) : Prop :=
  ∃ (A : Type) (enc : A → List AV × List (Option Root)) (un : List AV → List (Option Root) → Option A) (step : (A → Option R) → A → Option R) (n : Nat) (a : A),
    enc a = (vs, hs) ∧ (∀ a, un (enc a).1 (enc a).2 = some a) ∧
    (∀ (Lp : List AV → List (Option Root) → Option R) a, ev G live Λ body (fun x S' => match x with | .normal => Lp (normV (liveAt live body) S') (normH (liveAt live body) S') | x => K x (canon (liveOut live body) S')) (stOf (liveAt live body) (enc a).1 (enc a).2) = step (fun a' => Lp (enc a').1 (enc a').2) a) ∧
    iter step n a = some r
def LoopsOK (G : Glob R) (live : List (Nat × List Nat)) (Λ : LTab R) : Code → Prop
  | .loop body => (∀ K vs hs r, Λ (keyOf body) K vs hs = some r → LoopFit G live Λ body K vs hs r) ∧ LoopsOK G live Λ body
  | .seq a b => LoopsOK G live Λ a ∧ LoopsOK G live Λ b
  | .cond _ a b => LoopsOK G live Λ a ∧ LoopsOK G live Λ b
  | .block _ b => LoopsOK G live Λ b
  | _ => True
variable {C : Cx}
open Classical in
theorem ev_sound (hG : GOK P G) (hm : P.follows .mixedOrders = true) (hN : G.nt = C.N) : ∀ (c : Code), LoopsOK G live Λ c → ∀ {K : X → St → Option R} {S : St} {r : R}, ev G live Λ c K S = some r → ∀ {a : Act} {w : World} {ρ : Place} {Fs : Nat → FP}, SRel C S a w ρ Fs → ∀ {Q : Exit → Act → World → Prop},
    (∀ x S', K x S' = some r → ∀ a' w' ρ' Fs', SRel C S' a' w' ρ' Fs' → Q (exitOf x) a' w') → c.wp P Q a w := by
  intro c
  induction c with
  | skip => intro _ K S r he a w ρ Fs h Q hQ; exact wp_skip (hQ .normal S he _ _ _ _ h)
  | region id ops draw =>
    intro _ K S r he a w ρ Fs h Q hQ
    simp only [ev] at he
    exact evRegion_sound hG hm hN he h (fun S' hK a' w' ρ' Fs' h' => hQ .normal S' hK _ _ _ _ h')
  | seq c d ihc ihd =>
    intro hl K S r he a w ρ Fs h Q hQ
    simp only [ev] at he
    refine wp_seq (ihc hl.1 he h fun x S' hK a' w' ρ' Fs' h' => ?_)
    cases x with
    | normal => exact ihd hl.2 hK h' hQ
    | exit i => exact hQ (.exit i) S' hK _ _ _ _ h'
    | ret => exact hQ .ret S' hK _ _ _ _ h'
  | cond x c d ihc ihd =>
    intro hl K S r he a w ρ Fs h Q hQ
    simp only [ev] at he
    split at he
    · rename_i b hb
      have hv := h.rd x
      rw [← hN, hb] at hv
      have hv : a.eval x = .bool b := hv
      have same : ∀ (t : Tmp), x = .tmp t → S.put (some t) (.l (.b b)) = S := fun t hy => by
        subst hy
        cases hlt : Nat.blt t G.nt with
        | true => rw [St.rd, hlt] at hb; exact put_same hb
        | false => rw [St.rd, hlt] at hb; cases hb
      cases b with
      | true =>
        have he2 : ev G live Λ c K S = some r := by
          cases x with
          | tmp t => simp only [same t rfl] at he; exact he
          | _ => exact he
        exact wp_cond_true hv (ihc hl.1 he2 h hQ)
      | false =>
        have he2 : ev G live Λ d K S = some r := by
          cases x with
          | tmp t => simp only [same t rfl] at he; exact he
          | _ => exact he
        exact wp_cond_false hv (ihd hl.2 he2 h hQ)
    · cases he
  | block id c ih =>
    intro hl K S r he a w ρ Fs h Q hQ
    simp only [ev] at he
    refine wp_block (ih hl he h fun x S' hK a' w' ρ' Fs' h' => ?_)
    cases x with
    | normal => exact hQ .normal S' hK _ _ _ _ h'
    | exit i =>
      simp only [blockK] at hK
      by_cases e : i = id
      · subst e
        simp only [beq_self_eq_true, cond_true] at hK
        simp only [exitOf, Exit.inBlock, if_true]
        exact hQ .normal S' hK _ _ _ _ h'
      · have e2 : (i == id) = false := by simp [e]
        simp only [e2, cond_false] at hK
        simp only [exitOf, Exit.inBlock, if_neg e]
        exact hQ (.exit i) S' hK _ _ _ _ h'
    | ret => exact hQ .ret S' hK _ _ _ _ h'
  | loop body ih =>
    intro hl K S r he a w ρ Fs h Q hQ
    simp only [ev] at he
    obtain ⟨A, enc, un, step, n, a0, e1, hun, hstep, hit⟩ := hl.1 _ _ _ _ he
    have hinj : ∀ a b : A, enc a = enc b → a = b := fun a b e => by
      have h1 := hun a
      rw [e, hun b] at h1
      exact (Option.some.inj h1).symm
    have key : ∀ (n : Nat) (a0 : A), iter step n a0 = some r → ∀ (a : Act) (w : World) (ρ : Place) (Fs : Nat → FP), SRel C (stOf (liveAt live body) (enc a0).1 (enc a0).2) a w ρ Fs → Code.rounds P body Q n a w := by
      intro n
      induction n with
      | zero => intro a0 h0; cases h0
      | succ n ihn =>
        intro a0 h0 a w ρ Fs h
        rw [rounds_succ]
        have h0 : step (iter step n) a0 = some r := h0
        let Lp : List AV → List (Option Root) → Option R := fun vs hs => if hh : ∃ a, enc a = (vs, hs) then iter step n hh.choose else none
        have hLp : (fun a' => Lp (enc a').1 (enc a').2) = iter step n := by
          funext a'
          have hh : ∃ a, enc a = ((enc a').1, (enc a').2) := ⟨a', rfl⟩
          show (if hh : ∃ a, enc a = ((enc a').1, (enc a').2) then iter step n hh.choose else none) = _
          rw [dif_pos hh, hinj _ a' hh.choose_spec]
        rw [← hLp, ← hstep] at h0
        refine ih hl.2 h0 h fun x S' hK a' w' ρ' Fs' h' => ?_
        cases x with
        | normal =>
          have hK : (if hh : ∃ a, enc a = (normV (liveAt live body) S', normH (liveAt live body) S') then iter step n hh.choose else none) = some r := hK
          split at hK
          · rename_i hh
            have h2 := h'.norm (liveAt live body)
            exact ihn hh.choose hK a' w' _ _ (by rw [hh.choose_spec]; exact h2)
          · cases hK
        | exit i => exact hQ (.exit i) _ hK _ _ _ _ (h'.norm _)
        | ret => exact hQ .ret _ hK _ _ _ _ (h'.norm _)
    have h2 := h.norm (liveAt live body)
    exact wp_loop_rounds n (key n a0 hit a w _ _ (by rw [e1]; exact h2))
  | exit id => intro _ K S r he a w ρ Fs h Q hQ; exact wp_exit (hQ (.exit id) S he _ _ _ _ h)
  | ret => intro _ K S r he a w ρ Fs h Q hQ; exact wp_ret (hQ .ret S he _ _ _ _ h)
  | _ => intro _ K S r he; cases he

/-! ### Functions -/
theorem finish_bind {tt : TT} {g : Sig} {fn : Func} {S : St} {K : List DV → Option R} {r : R} (h : finish tt g fn S K = some r) : ∃ rs, finish (R := List DV) tt g fn S some = some rs ∧ K rs = some r := by
  unfold finish at h
  split at h
  · cases h
  · rename_i vs hvs
    split at h
    · cases h
    · rename_i ds ks fk hds
      simp only [] at h
      split at h
      · cases h
      · rename_i ds' ks' fk' hds'
        obtain ⟨h1, h2⟩ := bif_some h
        refine ⟨_, ?_, h2⟩
        unfold finish
        rw [hvs]
        simp only []
        rw [hds]
        simp only []
        rw [hds']
        simp only []
        rw [h1]
        rfl
theorem inArgs_length {tt : TT} : ∀ (ts : List Nat) (ds : List DV) (n : Nat) {xs : List AV} {up : List (Nat × Option Root)} {n' : Nat}, inArgs tt ts ds n = some (xs, up, n') → xs.length = ts.length ∧ ds.length = ts.length
  | [], [], n, xs, up, n', h => by simp only [inArgs, Option.some.injEq, Prod.mk.injEq] at h; obtain ⟨rfl, _⟩ := h; exact ⟨rfl, rfl⟩
  | [], _ :: _, _, _, _, _, h => by simp [inArgs] at h
  | _ :: _, [], _, _, _, _, h => by simp [inArgs] at h
  | t :: ts, d :: ds, n, xs, up, n', h => by
    simp only [inArgs] at h
    split at h
    · split at h
      · rename_i h2
        cases h
        obtain ⟨k1, k2⟩ := inArgs_length ts ds _ h2
        exact ⟨by simp [k1], by simp [k2]⟩
      · cases h
    · cases h
theorem look_numbered : ∀ (xs : List AV) (i t : Nat), look (numbered i xs) t = if i ≤ t then xs[t - i]? else none
  | [], i, t => by simp [numbered, look]
  | x :: xs, i, t => by
    simp only [numbered, look, look_numbered xs (i + 1) t]
    by_cases e : i = t
    · subst e; simp
    · have e1 : (i == t) = false := by simp [e]
      simp only [e1, cond_false]
      by_cases h : i ≤ t
      · have h2 : i + 1 ≤ t := by omega
        simp only [h, h2, if_true]
        rw [show t - i = (t - (i + 1)) + 1 by omega, List.getElem?_cons_succ]
      · simp [h, show ¬ i + 1 ≤ t by omega]
theorem AVsRel.at {E : Env} : ∀ {xs : List AV} {vs : List Value}, AVsRel E xs vs → ∀ {j : Nat} {x : AV}, xs[j]? = some x → ∃ v, vs[j]? = some v ∧ AVRel E x v
  | x :: xs, v :: vs, h, 0, y, hy => by simp at hy; subst hy; exact ⟨v, rfl, h.1⟩
  | x :: xs, v :: vs, h, j + 1, y, hy => by
    obtain ⟨u, h1, h2⟩ := AVsRel.at h.2 (j := j) (by simpa using hy)
    exact ⟨u, by simpa using h1, h2⟩
theorem look_append : ∀ (l m : List (Nat × AV)) (t : Nat), look (l ++ m) t = match look l t with | some v => some v | none => look m t
  | [], m, t => rfl
  | (i, x) :: l, m, t => by
    simp only [List.cons_append, look, look_append l m t]
    cases i == t <;> rfl
theorem fn_contract (hG : GOK P G) (hm : P.follows .mixedOrders = true) {f : FuncId} {fn : Func} {g : Sig} {body : Code} (hf : P.funcs[f]? = some fn) (hb : fn.body = some body) (hl : LoopsOK G live Λ body) (hN : G.nt = fn.ntmps) (hp : g.params.length ≤ fn.ntmps) (hres : fn.results.size = g.results.length)
    {ds rs : List DV} {K : List DV → Option R} {r : R} (hK : ∀ rs', K rs' = some r → rs' = rs) (he : evFn G live Λ g fn ds K = some r) : Contract P f g ds rs := by
  intro C0 args hargs h1 h2
  let C : Cx := { C0 with N := fn.ntmps, kv := args }
  unfold evFn at he
  split at he
  case h_2 => cases he
  rename_i xs up nx body' hin hb'
  rw [hb] at hb'; cases hb'
  have hlen := inArgs_length _ _ _ hin
  obtain ⟨ρ1, Fs1, hfr, hrel⟩ := inArgs_sound (w := C.w0) (Zf := C.Zf0) (ZL := C.Zl) _ _ _ _ _ _ _ _ hin hargs
  obtain ⟨hm0, hext⟩ := Frag.start (C := C) hfr h1 h2
  have hxs := hrel _ hext
  have hal : args.length = g.params.length := by rw [← hxs.length]; exact hlen.1
  have hxl : xs.length ≤ fn.ntmps := by rw [hlen.1]; exact hp
  have h0 : SRel C ⟨slOf (bif noIO g.modes then numbered 0 xs else numbered 0 xs ++ numbered fn.ntmps xs), upd nohp up, nx⟩ { tmps := args.toArray ++ Array.replicate (fn.ntmps - args.toArray.size) undef, defers := [] } C.w0 ρ1 Fs1 := by
    have low : ∀ t, AVRel (C.env C.w0 ρ1 (upd nohp up) nx Fs1) (slOf (numbered 0 xs) t) (C.val { tmps := args.toArray ++ Array.replicate (fn.ntmps - args.toArray.size) undef, defers := [] } t) := fun t => by
      unfold slOf
      rw [look_numbered]
      simp only [Nat.zero_le, if_true, Nat.sub_zero]
      cases hx : xs[t]? with
      | none => trivial
      | some x =>
        obtain ⟨v, hv, hr⟩ := hxs.at hx
        have ht : t < args.length := (List.getElem?_eq_some_iff.1 hv).1
        have htN : t < C.N := by show t < fn.ntmps; omega
        simp only [Cx.val, if_pos htN]
        have e : (args.toArray ++ Array.replicate (fn.ntmps - args.toArray.size) undef).getD t undef = v := by
          rw [Array.getD_eq_getD_getElem?, Array.getElem?_append_left (by simpa using ht)]
          simp [hv]
        rw [e]; exact hr
    refine ⟨hm0, rfl, ?_, fun t => ?_⟩
    · show (args.toArray ++ Array.replicate (fn.ntmps - args.toArray.size) undef).size = fn.ntmps
      simp; omega
    · show AVRel _ (slOf (bif noIO g.modes then numbered 0 xs else numbered 0 xs ++ numbered fn.ntmps xs) t) _
      cases noIO g.modes with
      | true => exact low t
      | false =>
        have hla : ∀ (l m : List (Nat × AV)), slOf (l ++ m) t = match look l t with | some v => v | none => slOf m t := fun l m => by
          unfold slOf
          rw [look_append]
          cases look l t <;> rfl
        simp only [cond_false]
        rw [hla]
        cases hq : look (numbered 0 xs) t with
        | some v =>
          have := low t
          unfold slOf at this
          rw [hq] at this
          exact this
        | none =>
          show AVRel _ (slOf (numbered fn.ntmps xs) t) _
          unfold slOf
          rw [look_numbered]
          by_cases ht : fn.ntmps ≤ t
          · rw [if_pos ht]
            cases hx : xs[t - fn.ntmps]? with
            | none => trivial
            | some x =>
              obtain ⟨v, hv, hr⟩ := hxs.at hx
              have e1 : ¬ t < C.N := by show ¬ t < fn.ntmps; omega
              simp only [Cx.val, if_neg e1]
              have e : C.kv.getD (t - C.N) undef = v := by
                show args.getD (t - fn.ntmps) undef = v
                rw [List.getD_eq_getElem?_getD, hv]; rfl
              rw [e]; exact hr
          · rw [if_neg ht]; trivial
  refine calls_of_wp hf hb ?_
  refine ev_sound hG hm (C := C) hN body hl he h0 fun x S' hK' a' w' ρ' Fs' h' => ?_
  have fin : finish G.tt g fn S' K = some r → bodyPost P fn (Ends C0 g args rs) .normal a' w' := fun hf => by
    obtain ⟨rs', f1, f2⟩ := finish_bind hf
    obtain rfl := hK rs' f2
    obtain ⟨v, k1, vs, F', k2, k3, k4, k5, k6, k7⟩ := finish_sound hG.tt h' (C := C) rfl rfl hal.symm hres f1
    exact ⟨h'.defers, v, k1, vs, F', k2, k3, ⟨k4.size, k4.os, k4.tape, k4.output, k4.block⟩, k5, k6, k7⟩
  cases x with
  | normal => exact fin hK'
  | exit i => cases hK'
  | ret => exact fin hK'
end
end Go.Proofs.Ytfkejiljabmaaaa.V
