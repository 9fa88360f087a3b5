/- What the operations do: all but calls of functions. Conditions: the types' table holds of the program. -/
import Derived.Test.YtfkejiljabmaaaaVOpM
import Derived.Laws.Small
set_option linter.unusedVariables false
set_option linter.unusedSimpArgs false
namespace Go.Proofs.Ytfkejiljabmaaaa.V
open Go

section
variable {P : Program} {tt : TT} {C : Cx} {S : St} {a : Act} {w : World} {ρ : Place} {Fs : Nat → FP} {n : Nat}

theorem evAlloc_nx {t : Nat} {E : Eff} (he : evAlloc (R := Eff) tt n t some = some E) : E.nx = n + 1 := by
  unfold evAlloc at he
  split at he
  · cases he; rfl
  · split at he
    · replace he := bif_some he; obtain ⟨_, he⟩ := he; cases he; rfl
    · cases he
  · replace he := bif_some he; obtain ⟨_, he⟩ := he; cases he; rfl
  · cases he
theorem evBox_nx {hp : Nat → Option Root} {t : Nat} {x : AV} {E : Eff} (he : evBox (R := Eff) tt hp n t x some = some E) : E.nx = n + 1 := by
  unfold evBox at he
  split at he
  · cases he
  · split at he
    · cases he; rfl
    · cases he
  · cases he
theorem evMakeSlice_nx {t : Nat} {l c : Operand} {x : AV} {E : Eff} (he : evMakeSlice (R := Eff) tt n t l c x some = some E) : E.nx = n + 1 := by
  unfold evMakeSlice at he
  replace he := bif_some he
  obtain ⟨_, he⟩ := he
  split at he
  · split at he
    · obtain ⟨_, _, _, he⟩ := asI_some he
      replace he := chk_some he
      obtain ⟨_, he⟩ := he
      cases he; rfl
    · cases he
  · cases he
theorem evBuildSlice_nx {hp : Nat → Option Root} {t len : Nat} {ps : List (Nat × AV)} {E : Eff} (he : evBuildSlice (R := Eff) tt hp n t len ps some = some E) : E.nx = n + 1 := by
  unfold evBuildSlice at he
  split at he
  · split at he
    · replace he := bif_some he
      obtain ⟨_, he⟩ := he
      split at he
      · cases he; rfl
      · cases he
    · cases he
  · cases he
/-- A call of a builtin that leaves memory alone. -/
theorem run_builtin {o : Oper} {c : Call} {b : Builtin} (ho : o.op = .call c) (hc : c.callee = .builtin b) {v : Value} {w' : World} (hr : ∀ consts, (builtin b c.argTypes o.type consts (c.args.map a.eval)).run P w = .ok (.value v) w') : (execOp a.eval o).run P w = .ok (.value v) w' := by
  simp only [execOp, ho, resolve, hc]
  simp [invoke]
  exact hr _
theorem evLen_str (T : TOK P tt) (h : SRel C S a w ρ Fs) {o : Oper} {c : Call} {t : Nat} {x : Operand} {s : ByteArray} (ho : o.op = .call c) (hc : c.callee = .builtin .len) (hargs : c.args.toList = [x]) (hts : c.argTypes.toList = [t]) (hx : St.rd C.N S.sl x = .one (.l (.s s))) {sz bs : Nat} (hq : tt t = some ⟨.str, sz, bs⟩) : ∃ u, Out P C S o ⟨.l (.i .i64 s.size), [], n, [], []⟩ a w w ρ Fs u := by
  have hv : a.eval x = .string s := rd_l h hx
  have e1 : c.args = #[x] := by apply Array.ext'; simpa using hargs
  have e2 : c.argTypes = #[t] := by apply Array.ext'; simpa using hts
  refine ⟨_, Out.pure h rfl (run_builtin (b := .len) ho hc fun consts => ?_) rfl⟩
  rw [e1, e2]
  have := run_len_string (P := P) w t o.type s (T t _ hq).desc
  simp [builtin, hv, this, goInt]
theorem evLen_sl (T : TOK P tt) (h : SRel C S a w ρ Fs) {o : Oper} {c : Call} {t e k : Nat} {x : Operand} {y : LV} {rl rc : List Nat} (ho : o.op = .call c) (hc : c.callee = .builtin .len) (hargs : c.args.toList = [x]) (hts : c.argTypes.toList = [t]) (hx : St.rd C.N S.sl x = .one (.l y)) (hq : elemTy tt t = some e) (hl : lenOf S.hp y = some (k, rl, rc)) : ∃ u, Out P C S o ⟨.l (.i .i64 k), [], n, rl, rc⟩ a w w ρ Fs u := by
  obtain ⟨A, cap, hv⟩ := lenOf_sound h.mem hl (rd_l h hx)
  have e1 : c.args = #[x] := by apply Array.ext'; simpa using hargs
  have e2 : c.argTypes = #[t] := by apply Array.ext'; simpa using hts
  refine ⟨_, Out.pure h rfl (run_builtin (b := .len) ho hc fun consts => ?_) rfl⟩
  rw [e1, e2]
  have hu := slice_facts T hq
  have := run_len_slice (P := P) w t o.type A k cap (by rw [hu]; simp [Program.elem, hu])
  simp [builtin, hv, this, goInt]
theorem evMin_sound (h : SRel C S a w ρ Fs) {o : Oper} {c : Call} {x y : Operand} {k : IntKind} {u v : Int} (ho : o.op = .call c) (hc : c.callee = .builtin .min) (hargs : c.args.toList = [x, y]) (hx : St.rd C.N S.sl x = .one (.l (.i k u))) (hy : St.rd C.N S.sl y = .one (.l (.i k v))) : ∃ r, Out P C S o ⟨.l (.i k (if v < u then v else u)), [], n, [], []⟩ a w w ρ Fs r := by
  have hu : a.eval x = .int k u := rd_l h hx
  have hv : a.eval y = .int k v := rd_l h hy
  have e1 : c.args = #[x, y] := by apply Array.ext'; simpa using hargs
  refine ⟨_, Out.pure h rfl (run_builtin (b := .min) ho hc fun consts => ?_) rfl⟩
  rw [e1]
  have := run_min_int2 (P := P) w c.argTypes o.type k k u v
  simp [builtin, hu, hv, this]
theorem evMax_sound (h : SRel C S a w ρ Fs) {o : Oper} {c : Call} {x y : Operand} {k : IntKind} {u v : Int} (ho : o.op = .call c) (hc : c.callee = .builtin .max) (hargs : c.args.toList = [x, y]) (hx : St.rd C.N S.sl x = .one (.l (.i k u))) (hy : St.rd C.N S.sl y = .one (.l (.i k v))) : ∃ r, Out P C S o ⟨.l (.i k (if v > u then v else u)), [], n, [], []⟩ a w w ρ Fs r := by
  have hu : a.eval x = .int k u := rd_l h hx
  have hv : a.eval y = .int k v := rd_l h hy
  have e1 : c.args = #[x, y] := by apply Array.ext'; simpa using hargs
  refine ⟨_, Out.pure h rfl (run_builtin (b := .max) ho hc fun consts => ?_) rfl⟩
  rw [e1]
  have := run_max_int2 (P := P) w c.argTypes o.type k k u v
  simp [builtin, hu, hv, this]
theorem A1sRel.get {E : Env} : ∀ {xs : List A1} {vs : List Value}, A1sRel E xs vs → ∀ {j : Nat} {x : A1}, xs[j]? = some x → ∃ v, vs[j]? = some v ∧ A1Rel E x v
  | x :: xs, v :: vs, h, 0, y, hy => by simp at hy; subst hy; exact ⟨v, rfl, h.1⟩
  | x :: xs, v :: vs, h, j + 1, y, hy => by simpa using A1sRel.get h.2 (j := j) (by simpa using hy)
/-- Is it a call of a function. -/
def isFn : Op → Bool
  | .call c => (match c.callee with | .builtin _ => false | _ => true)
  | _ => false
theorem map2 {α β : Type} {f : α → β} {l : List α} {x y : β} (h : l.map f = [x, y]) : ∃ u v, l = [u, v] ∧ f u = x ∧ f v = y := by
  cases l with
  | nil => cases h
  | cons u l => cases l with
    | nil => simp at h
    | cons v l => cases l with
      | nil => simp at h; exact ⟨u, v, rfl, h.1, h.2⟩
      | cons _ _ => simp at h
theorem map1 {α β : Type} {f : α → β} {l : List α} {x : β} (h : l.map f = [x]) : ∃ u, l = [u] ∧ f u = x := by
  cases l with
  | nil => cases h
  | cons u l => cases l with
    | nil => simp at h; exact ⟨u, rfl, h⟩
    | cons _ _ => simp at h
theorem evBuiltin_sound {G : Glob Eff} (T : TOK P G.tt) (h : SRel C S a w ρ Fs) {o : Oper} {c : Call} {b : Builtin} (ho : o.op = .call c) (hc : c.callee = .builtin b) {E : Eff} (he : evBuiltin G S.hp n b c.argTypes.toList (c.args.toList.map (St.rd C.N S.sl)) some = some E) (hg : ∀ k, n ≤ k → k < E.nx → S.hp k = some .ghost) : ∃ w' ρ' Fs' u, Out P C S o E a w w' ρ' Fs' u := by
  generalize hxs : c.args.toList.map (St.rd C.N S.sl) = xs at he
  generalize hts : c.argTypes.toList = ts at he
  unfold evBuiltin at he
  split at he
  · rename_i s t
    obtain ⟨x, e1, e2⟩ := map1 hxs
    split at he
    · rename_i sz bs hq
      cases he
      exact ⟨_, _, _, evLen_str T h ho hc e1 hts e2 hq⟩
    · cases he
  · rename_i y t hn
    obtain ⟨x, e1, e2⟩ := map1 hxs
    split at he
    · rename_i k rl rc e' hq hl
      cases he
      exact ⟨_, _, _, evLen_sl T h ho hc e1 hts e2 hq hl⟩
    · cases he
  · rename_i s x t tx
    obtain ⟨u, v, e1, e2, e3⟩ := map2 hxs
    subst e2 e3
    exact evAppend_sound T h ho hc e1 hts he hg
  · rename_i d s t tx
    obtain ⟨u, v, e1, e2, e3⟩ := map2 hxs
    subst e2 e3
    exact evCopy_sound T h ho hc e1 hts he
  · rename_i k x k' y
    obtain ⟨u, v, e1, e2, e3⟩ := map2 hxs
    replace he := bif_some he
    obtain ⟨hk, he⟩ := he
    have := of_decide_eq_true hk
    subst this
    cases he
    exact ⟨_, _, _, evMin_sound h ho hc e1 e2 e3⟩
  · rename_i k x k' y
    obtain ⟨u, v, e1, e2, e3⟩ := map2 hxs
    replace he := bif_some he
    obtain ⟨hk, he⟩ := he
    have := of_decide_eq_true hk
    subst this
    cases he
    exact ⟨_, _, _, evMax_sound h ho hc e1 e2 e3⟩
  · cases he

/-! ### One after the other -/
theorem chk_bind {R : Type} (p : Bool) (v : LV) (K : LV → Option R) : chk p (K v) = (chk p (some v)).bind K := by cases p <;> rfl
theorem binOp_bind {R : Type} (op : BinOp) (x y : LV) (K : LV → Option R) : binOp op x y K = (binOp op x y some).bind K := by
  unfold binOp
  split
  · exact chk_bind _ _ _
  · exact chk_bind _ _ _
  · rename_i k a k' b _ _
    cases decide (k = k') with
    | false => rfl
    | true =>
      simp only [cond_true]
      split <;> first | rfl | exact chk_bind _ _ _
  all_goals first | rfl | exact chk_bind _ _ _
theorem unOp_bind {R : Type} (op : UnOp) (x : LV) (K : LV → Option R) : unOp op x K = (unOp op x some).bind K := by
  unfold unOp
  split <;> rfl
theorem ret1_some {m : Nat} {v : AV} {E : Eff} (h : ret1 m v some = some E) : E = ⟨v, [], m, [], []⟩ := by cases h; rfl
theorem evOp_sound {G : Glob Eff} (T : TOK P G.tt) (hN : G.nt = C.N) (h : SRel C S a w ρ Fs) {o : Oper} (hf : isFn o.op = false) {E : Eff} (he : evOp G o.op S.sl S.hp n some = some E) (hg : ∀ k, n ≤ k → k < E.nx → S.hp k = some .ghost) : ∃ w' ρ' Fs' u, Out P C S o E a w w' ρ' Fs' u := by
  have one : (∃ u, Out P C S o E a w w ρ Fs u) → ∃ w' ρ' Fs' u, Out P C S o E a w w' ρ' Fs' u := fun ⟨u, hu⟩ => ⟨_, _, _, u, hu⟩
  have gn : E.nx = n + 1 → S.hp n = some .ghost := fun hh => hg n (Nat.le_refl _) (by omega)
  cases ho : o.op with
  | move x =>
    rw [ho] at he
    simp only [evOp, hN] at he
    cases ret1_some he
    exact one ⟨_, Out.pure h rfl (run_move (.inl ho) w) (h.rd x)⟩
  | assign x =>
    rw [ho] at he
    simp only [evOp, hN] at he
    cases ret1_some he
    exact one ⟨_, Out.pure h rfl (run_move (.inr ho) w) (h.rd x)⟩
  | pick c x y =>
    rw [ho] at he
    simp only [evOp, hN] at he
    split at he
    · rename_i b hc
      have hv : a.eval c = .bool b := rd_l h hc
      cases b with
      | true => cases ret1_some he; exact one ⟨_, Out.pure h rfl (run_pick ho hv w) (h.rd x)⟩
      | false => cases ret1_some he; exact one ⟨_, Out.pure h rfl (run_pick ho hv w) (h.rd y)⟩
    · cases he
  | alloc t =>
    rw [ho] at he
    simp only [evOp, hN] at he
    exact evAlloc_sound T h ho he (gn (evAlloc_nx he))
  | box t x =>
    rw [ho] at he
    simp only [evOp, hN] at he
    exact evBox_sound T h ho he (gn (evBox_nx he))
  | build t ps =>
    rw [ho] at he
    simp only [evOp, hN] at he
    exact one (evBuild_sound T h ho he)
  | buildSlice t len ps =>
    rw [ho] at he
    simp only [evOp, hN] at he
    exact evBuildSlice_sound T h ho he (gn (evBuildSlice_nx he))
  | load t p =>
    rw [ho] at he
    simp only [evOp, hN] at he
    exact one (evLoad_sound T h ho he)
  | store t p x =>
    rw [ho] at he
    simp only [evOp, hN] at he
    exact evStore_sound T h ho he
  | nilCheck x =>
    rw [ho] at he
    simp only [evOp, hN] at he
    split at he
    · rename_i id k hx
      have hr := rd_l h hx
      obtain ⟨hlt, hre, b, cap, hρ, hv⟩ := hr
      cases ret1_some he
      exact one ⟨_, Out.pure h rfl (run_nilCheck ho hv w) (by have := h.rd x; rw [hx, hv] at this; exact this)⟩
    · cases he
  | binOp op t x y u =>
    rw [ho] at he
    simp only [evOp, hN] at he
    split at he
    · rename_i x' y' hx hy
      replace he := bif_some he
      obtain ⟨hck, he⟩ := he
      obtain ⟨h1, h2⟩ := and_bool hck
      rw [binOp_bind] at he
      obtain ⟨z, hz, he⟩ := Option.bind_eq_some_iff.1 he
      cases ret1_some he
      obtain ⟨r, r1, r2⟩ := binOp_sound (P := P) T hz t x y h1 (C.env w ρ S.hp S.nx Fs) (a.eval x) (a.eval y) (rd_l h hx) (rd_l h hy) (fun hh => by
        subst hh
        cases y with
        | const c => exact ⟨c, rfl⟩
        | _ => cases h2) w
      exact one ⟨r, Out.pure h rfl (run_binOp ho r2) r1⟩
    · cases he
  | unOp op t x =>
    rw [ho] at he
    simp only [evOp, hN] at he
    split at he
    · rename_i x' hx
      rw [unOp_bind] at he
      obtain ⟨z, hz, he⟩ := Option.bind_eq_some_iff.1 he
      cases ret1_some he
      obtain ⟨r, r1, r2⟩ := unOp_sound (P := P) hz (C.env w ρ S.hp S.nx Fs) (a.eval x) (rd_l h hx) w
      exact one ⟨r, Out.pure h rfl (run_unOp ho r2) r1⟩
    · cases he
  | convert s d x =>
    rw [ho] at he
    simp only [evOp, hN] at he
    exact one (evConvert_sound T h ho he)
  | makeSlice t l c =>
    rw [ho] at he
    simp only [evOp, hN] at he
    exact evMakeSlice_sound T h ho he (gn (evMakeSlice_nx he))
  | slice t x lo hi mx =>
    rw [ho] at he
    simp only [evOp, hN] at he
    cases mx with
    | none => exact one (evSlice_sound T h ho he)
    | some m => cases he
  | fieldAddr t x f =>
    rw [ho] at he
    simp only [evOp, hN] at he
    exact one (evFieldAddr_sound T h ho he)
  | indexAddr t x i =>
    rw [ho] at he
    simp only [evOp, hN] at he
    exact one (evIndexAddr_sound T h ho he)
  | index t x i =>
    rw [ho] at he
    simp only [evOp, hN] at he
    exact one (evIndex_sound T h ho he)
  | extract x j =>
    rw [ho] at he
    simp only [evOp, hN] at he
    split at he
    · rename_i xs hx
      split at he
      · rename_i y hy
        cases ret1_some he
        have hr := h.rd x
        rw [hx] at hr
        obtain ⟨vs, hv, hrel⟩ := hr
        obtain ⟨v, k1, k2⟩ := hrel.get hy
        exact one ⟨v, Out.pure h rfl (run_extract ho hv (by simpa using k1) w) k2⟩
      · cases he
    · cases he
  | call c =>
    rw [ho] at he hf
    simp only [evOp, hN] at he
    simp only [isFn] at hf
    split at he
    · rename_i b hc
      exact evBuiltin_sound T h ho hc he hg
    · rename_i f hc; rw [hc] at hf; cases hf
    · cases he
  | _ => rw [ho] at he; cases he
end
end Go.Proofs.Ytfkejiljabmaaaa.V
