/- What a function does, as its callers know it; and that its end says so. Conditions: none. -/
import Derived.Test.YtfkejiljabmaaaaVFin
set_option linter.unusedVariables false
set_option linter.unusedSimpArgs false
namespace Go.Proofs.Ytfkejiljabmaaaa.V
open Go

def pack : List Value → Value
  | [v] => v
  | vs => .tuple vs.toArray
def ioVals : List Mode → List Value → List Value
  | m :: ms, v :: vs => (match m with | .io => [v] | _ => []) ++ ioVals ms vs
  | _, _ => []
/-- What a call ends in. -/
def Ends (C : Cx) (g : Sig) (args : List Value) (rs : List DV) (e : Ending) (w' : World) : Prop :=
  ∃ vs F', e = .returned (pack vs) ∧ vs.length = g.results.length ∧ Frame C w' ∧ (∀ b, F' b ≤ 1) ∧ (∀ b, 1 ≤ F' b → b < w'.heap.size ∧ (C.w0.heap.size ≤ b ∨ 1 ≤ C.F0 b)) ∧ DVsRel w' (C.Zf w' F') (C.ZL w' F') rs (vs ++ ioVals g.modes args) F'
def Contract (P : Program) (f : FuncId) (g : Sig) (ds rs : List DV) : Prop :=
  ∀ (C : Cx) (args : List Value), DVsRel C.w0 C.Zf0 C.Zl ds args C.F0 → (∀ b, C.F0 b ≤ 1) → (∀ b, 1 ≤ C.F0 b → b < C.w0.heap.size) → Calls P f args.toArray C.w0 (Ends C g args rs)

section
variable {P : Program} {tt : TT} {C : Cx} {S : St} {a : Act} {w : World} {ρ : Place} {Fs : Nat → FP}
theorem AVsRel.append {E : Env} : ∀ {xs ys : List AV} {us vs : List Value}, AVsRel E xs us → AVsRel E ys vs → AVsRel E (xs ++ ys) (us ++ vs)
  | [], _, [], _, _, h => h
  | x :: xs, _, u :: us, _, h, h' => ⟨h.1, AVsRel.append h.2 h'⟩
theorem AVsRel.length {E : Env} : ∀ {xs : List AV} {us : List Value}, AVsRel E xs us → xs.length = us.length
  | [], [], _ => rfl
  | x :: xs, u :: us, h => by simp [AVsRel.length h.2]
theorem DVsRel.append {w : World} {Zf ZL : Zs} : ∀ {ds es : List DV} {us vs : List Value} {F G : FP}, DVsRel w Zf ZL ds us F → DVsRel w Zf ZL es vs G → DVsRel w Zf ZL (ds ++ es) (us ++ vs) (fadd F G)
  | [], _, [], _, F, G, h, h' => by have : F = fz := h
                                    subst this
                                    rw [fz_fadd]; exact h'
  | d :: ds, _, u :: us, _, F, G, ⟨F1, F2, h1, h2, h3⟩, h' => ⟨F1, fadd F2 G, h1, DVsRel.append h2 h', by rw [h3, fadd_assoc]⟩
def resOne (a : Act) : ResultVar → Sem Value
  | .tmp t => pure (a.tmps.getD t undef)
  | .cell p t => do loadVar t (← asAddr (a.tmps.getD p undef))
/-- The results, as the machine finds them. -/
theorem resVals_sound (T : TOK P tt) (h : SRel C S a w ρ Fs) : ∀ (rs : List ResultVar) (xs : List AV), resVals tt C.N S rs = some xs → ∃ vs : List Value, (rs.mapM (resOne a)).run P w = .ok vs w ∧ AVsRel (C.env w ρ S.hp S.nx Fs) xs vs
  | [], xs, he => by
    simp only [resVals, Option.some.injEq] at he
    subst he
    exact ⟨[], by simp, trivial⟩
  | .tmp t :: rs, xs, he => by
    simp only [resVals] at he
    obtain ⟨h1, he⟩ := bif_some he
    have h1 : t < C.N := by simpa [Nat.blt_eq] using h1
    split at he
    · rename_i ys hys
      simp only [Option.some.injEq] at he
      subst he
      obtain ⟨vs, k1, k2⟩ := resVals_sound T h rs ys hys
      have := h.slots t
      simp only [Cx.val, if_pos h1] at this
      exact ⟨a.tmps.getD t undef :: vs, by simp [List.mapM_cons, resOne, k1], this, k2⟩
    · cases he
  | .cell p t :: rs, xs, he => by
    simp only [resVals] at he
    obtain ⟨h1, he⟩ := bif_some he
    obtain ⟨h1, hst⟩ := and_bool h1
    have h1 : p < C.N := by simpa [Nat.blt_eq] using h1
    split at he
    · rename_i id hsl
      split at he
      · rename_i bt cells hroot
        obtain ⟨hsz, he⟩ := bif_some he
        have hsz := eq_of_beq hsz
        split at he
        · rename_i ys hys
          simp only [Option.some.injEq] at he
          subst he
          obtain ⟨vs, k1, k2⟩ := resVals_sound T h rs ys hys
          have hp := h.slots p
          simp only [Cx.val, if_pos h1, hsl] at hp
          obtain ⟨_, _, b, cap, hρ, hv⟩ := hp
          obtain ⟨b', cap', us, ty, g1, g2, g3, g4⟩ := h.mem.roots id _ hroot
          simp only [Cx.env] at hρ g1 g2
          rw [hρ] at g1; cases g1
          obtain ⟨fields, i, d1, d2, d3⟩ := isStruct_facts T hst
          have hl := g3.length
          have hload := run_loadVar_agg (P := P) (w := w) d1 d2 (a := ⟨b, 0, none⟩) (vs := us.toList) (by rw [d3, ← hsz, hl]) (fun j v hj => by
            rw [plain_add, cell?_plain g2]; simpa using hj)
          unfold Instr.loadAt at hload
          rw [run_then (x := (⟨b, 0, none⟩ : Addr)) (w' := w) rfl] at hload
          refine ⟨.agg us.toList.toArray :: vs, ?_, ⟨us.toList, rfl, g3⟩, k2⟩
          simp [List.mapM_cons, resOne, hv, asAddr, hload, k1]
        · cases he
      · cases he
    · cases he
theorem nodupB_sound : ∀ {l : List Nat}, nodupB l = true → l.Nodup
  | [], _ => by simp
  | x :: l, h => by
    obtain ⟨h1, h2⟩ := and_bool h
    refine List.nodup_cons.2 ⟨fun hx => ?_, nodupB_sound h2⟩
    rw [List.elem_iff.2 hx] at h1
    cases h1
theorem RowsAt.lt (m : MRel C S.hp S.nx w ρ Fs) {ks : List Nat} (h : RowsAt S.hp ks) : ∀ k ∈ ks, k < S.nx := fun k hk => by
  obtain ⟨e, v, r, h2⟩ := h k hk
  exact live_lt m h2
/-- The arguments that go back, as they are kept. -/
theorem ioArgs_rel (h : SRel C S a w ρ Fs) : ∀ (ms : List Mode) (ts : List Nat) (vs : List Value) (i : Nat), ts.length = vs.length → (∀ j v, vs[j]? = some v → C.val a (i + j) = v) → AVsRel (C.env w ρ S.hp S.nx Fs) ((ioArgs i ms ts).map fun p => S.sl p.2) (ioVals ms vs)
  | [], ts, vs, i, hl, hv => by
    have e1 : ioArgs i [] ts = [] := by simp [ioArgs]
    have e2 : ioVals [] vs = [] := by simp [ioVals]
    rw [e1, e2]; trivial
  | m :: ms, [], [], i, hl, hv => by
    have e1 : ioArgs i (m :: ms) [] = [] := by simp [ioArgs]
    have e2 : ioVals (m :: ms) [] = [] := by simp [ioVals]
    rw [e1, e2]; trivial
  | m :: ms, [], v :: vs, i, hl, hv => by simp at hl
  | m :: ms, t :: ts, [], i, hl, hv => by simp at hl
  | m :: ms, t :: ts, v :: vs, i, hl, hv => by
    simp only [ioArgs, ioVals, List.map_append]
    refine AVsRel.append ?_ (ioArgs_rel h ms ts vs (i + 1) (by simpa using hl) (fun j u hj => by have := hv (j + 1) u (by simpa using hj); rwa [show i + (j + 1) = i + 1 + j by omega] at this))
    cases m with
    | io =>
      have := h.slots i
      have e := hv 0 v rfl
      rw [Nat.add_zero] at e
      rw [e] at this
      exact ⟨this, trivial⟩
    | _ => trivial
theorem run_results {fn : Func} {a : Act} {w : World} {vs : List Value} (h : (fn.results.toList.mapM (resOne a)).run P w = .ok vs w) : (results fn a.tmps).run P w = .ok (pack vs) w := by
  have e : (fn.results.mapM (resOne a)).run P w = .ok vs.toArray w := by
    rw [Array.mapM_eq_mapM_toList]
    simp [h]
  have e2 : results fn a.tmps = (do let vs ← fn.results.mapM (resOne a); pure (if h : vs.size = 1 then vs[0] else .tuple vs)) := by
    unfold results
    congr 1
  rw [e2, run_then e]
  match vs with
  | [] => rfl
  | [v] => rfl
  | u :: v :: vs =>
    have : ¬ ((u :: v :: vs).toArray.size = 1) := by simp
    simp only [this, dif_neg, not_false_iff]
    try rfl
theorem finish_sound (T : TOK P tt) (h : SRel C S a w ρ Fs) {g : Sig} {fn : Func} (hN : C.N = fn.ntmps) {args : List Value} (hkv : C.kv = args) (hlen : g.params.length = args.length) (hres : fn.results.size = g.results.length) {rs : List DV} (he : finish (R := List DV) tt g fn S some = some rs) :
    ∃ v, (results fn a.tmps).run P w = .ok v w ∧ Ends C g args rs (.returned v) w := by
  unfold finish at he
  split at he
  · cases he
  · rename_i xs hxs
    split at he
    · cases he
    · rename_i ds ks fk hds
      simp only [] at he
      split at he
      · cases he
      · rename_i ds' ks' fk' hds'
        obtain ⟨hnd, he⟩ := bif_some he
        cases he
        have hnd := nodupB_sound hnd
        rw [← hN] at hxs
        obtain ⟨vs, k1, k2⟩ := resVals_sound (P := P) T h _ xs hxs
        obtain ⟨F1, a1, a2, a3⟩ := outArgs_sound h.mem _ _ _ _ _ _ hds k2
        have hio := ioArgs_rel h g.modes g.params args C.N hlen (fun j v hj => by
          simp only [Cx.val, if_neg (show ¬ C.N + j < C.N by omega), Nat.add_sub_cancel_left, hkv]
          simp [List.getD_eq_getElem?_getD, hj])
        rw [hN] at hio
        obtain ⟨F2, b1, b2, b3⟩ := outArgs_sound h.mem _ _ _ _ _ _ hds' hio
        have hrows := RowsAt.mix (ks := ks) (ks' := ks') (io := fk) (io' := fk') a3 b3
        have hlt := hrows.lt h.mem
        have htot : ∀ b, sumL Fs (ks ++ ks') b + sumL Fs (fk ++ fk') b ≤ sumTo S.nx Fs b := fun b => by
          have := sumL_le Fs b S.nx hnd hlt
          rw [sumL_append] at this
          exact this
        have hF : ∀ b, fadd F1 F2 b ≤ sumL Fs (ks ++ ks') b := fun b => by
          have := a2 b; have := b2 b; rw [sumL_append]; simp; omega
        have hle : ∀ b, fadd F1 F2 b ≤ sumTo S.nx Fs b := fun b => by have := hF b; have := htot b; omega
        have hzf : ∀ b, Zend (C.Zf w (sumTo S.nx Fs)) Fs (fk ++ fk') b → C.Zf w (fadd F1 F2) b := fun b hb => by
          rcases hb with (hb | ⟨c1, c2, c3⟩) | hb
          · exact .inl hb
          · exact .inr ⟨c1, c2, by have := hle b; omega⟩
          · have := htot b
            have := h.mem.one b
            obtain ⟨o1, o2⟩ := h.mem.mine b (by omega)
            exact .inr ⟨o2, o1, by have := hF b; omega⟩
        have hzl : ∀ b, Zend (C.ZL w (sumTo S.nx Fs)) Fs (fk ++ fk') b → C.ZL w (fadd F1 F2) b := fun b hb => by
          rcases hb with (hb | hb) | hb
          · exact .inl hb
          · exact .inr (hzf b (.inl hb))
          · exact .inr (hzf b (.inr hb))
        refine ⟨pack vs, run_results k1, vs, fadd F1 F2, rfl, ?_, h.mem.frame, fun b => by have := hle b; have := h.mem.one b; omega, fun b hb => h.mem.mine b (by have := hle b; omega), ?_⟩
        · rw [← k2.length, ← hres]
          have : ∀ (l : List ResultVar) (xs : List AV), resVals tt C.N S l = some xs → xs.length = l.length := by
            intro l
            induction l with
            | nil => intro xs hx; simp only [resVals, Option.some.injEq] at hx; subst hx; rfl
            | cons r l ih =>
              intro xs hx
              cases r with
              | tmp t =>
                simp only [resVals] at hx
                obtain ⟨_, hx⟩ := bif_some hx
                split at hx
                · rename_i ys hys; cases hx; simp [ih ys hys]
                · cases hx
              | cell p t =>
                simp only [resVals] at hx
                obtain ⟨_, hx⟩ := bif_some hx
                split at hx
                · split at hx
                  · obtain ⟨_, hx⟩ := bif_some hx
                    split at hx
                    · rename_i ys hys; cases hx; simp [ih ys hys]
                    · cases hx
                  · cases hx
                · cases hx
          rw [this _ _ hxs, Array.length_toList]
        · exact DVsRel.append (a1.grow (fun b hb => hzf b hb.left) (fun b hb => hzl b hb.left)) (b1.grow (fun b hb => hzf b hb.right) (fun b hb => hzl b hb.right))
end
end Go.Proofs.Ytfkejiljabmaaaa.V
