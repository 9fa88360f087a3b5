/- Regions: in the text's order, and in every order that the edges allow. Conditions: as in VDo. -/
import Derived.Test.YtfkejiljabmaaaaVDo
import Derived.Orders
import Derived.Tactics
set_option linter.unusedVariables false
set_option linter.unusedSimpArgs false
namespace Go.Proofs.Ytfkejiljabmaaaa.V
open Go

section
variable {R : Type} {P : Program}
/-- One operation of a region, as it was seen in the text's order. -/
structure Stp where
  i : Nat
  o : Oper
  n : Nat
  E : Eff
  h : Nat → Option Root
  w : List Nat
  ids : List Nat
def Stp.log (s : Stp) : Log := ⟨s.o, s.w, s.ids⟩
def guardIs (ops : Array Oper) (sl : Nat → AV) (o : Oper) : Option Bool := match o.guard with
  | none => some true
  | some (j, want) => match dstOf ops j with
    | none => none
    | some t => match sl t with
      | .one (.l (.b x)) => some (x == want)
      | .one (.l .undef) => some false
      | _ => none
def St.go (S : St) (s : Stp) : St := St.put ⟨S.sl, upd S.hp s.E.up, S.nx⟩ s.o.dst s.E.v
structure StpOK (P : Program) (G : Glob R) (ops : Array Oper) (s : Stp) (S : St) : Prop where
  dst : ∀ d, s.o.dst = some d → d < G.nt
  gt : ∀ j want t, s.o.guard = some (j, want) → dstOf ops j = some t → t < G.nt
  upw : ∀ p ∈ s.E.up, p.1 ∈ s.w
  run : (guardIs ops S.sl s.o = some true ∧ Sub s.h S.hp ∧ Does P G s.o.op S.sl s.h s.n s.E ∧ (∀ k, s.n ≤ k → k < s.E.nx → S.hp k = some .ghost ∧ k ∈ s.w) ∧ s.E.nx ≤ S.nx) ∨ (guardIs ops S.sl s.o = some false ∧ s.E = skipEff s.n)
inductive Runs (P : Program) (G : Glob R) (ops : Array Oper) : List Stp → St → St → Prop
  | nil (S : St) : Runs P G ops [] S S
  | cons {s : Stp} {l : List Stp} {S S' : St} (h : StpOK P G ops s S) (hr : Runs P G ops l (S.go s) S') : Runs P G ops (s :: l) S S'
theorem St.go_hp (S : St) (s : Stp) : (S.go s).hp = upd S.hp s.E.up := by unfold St.go St.put; split <;> rfl
theorem St.go_nx (S : St) (s : Stp) : (S.go s).nx = S.nx := by unfold St.go St.put; split <;> rfl
theorem St.go_sl (S : St) (s : Stp) : (S.go s).sl = fun t => if s.o.dst = some t then s.E.v else S.sl t := by
  unfold St.go St.put
  cases s.o.dst with
  | none => funext t; simp
  | some d =>
    funext t
    by_cases e : t = d
    · subst e; simp
    · have e1 : (t == d) = false := by simp [e]
      have e2 : ¬ d = t := fun h => e h.symm
      simp [e1, e2]
theorem St.ext' {S T : St} (h1 : S.sl = T.sl) (h2 : S.hp = T.hp) (h3 : S.nx = T.nx) : S = T := by cases S; cases T; cases h1; cases h2; cases h3; rfl

/-! ### In the machine -/
section
variable {C : Cx} {S : St} {a : Act} {w : World} {ρ : Place} {Fs : Nat → FP} {ops : Array Oper}
theorem wanted_of {G : Glob R} (hN : G.nt = C.N) (h : SRel C S a w ρ Fs) {o : Oper} {x : Bool} (hgt : ∀ j want t, o.guard = some (j, want) → dstOf ops j = some t → t < G.nt) (hg : guardIs ops S.sl o = some x) : Region.wanted o (yielded ops a.tmps) = x := by
  unfold guardIs at hg
  unfold Region.wanted
  split at hg
  · rename_i hq; cases hg; simp [hq]
  · rename_i j want hq
    simp only [hq]
    split at hg
    · cases hg
    · rename_i t ht
      have htN := hgt j want t hq ht
      have hs := h.slots t
      rw [hN] at htN
      simp only [Cx.val, if_pos htN] at hs
      have hd : (ops[j]?).bind (·.dst) = some t := by
        unfold dstOf at ht
        split at ht
        · rename_i o' ho'; simp only [ho', Option.bind_some]; exact ht
        · cases ht
      have hsz : t < a.tmps.size := by rw [h.size]; exact htN
      split at hg
      · rename_i y hy
        cases hg
        rw [hy] at hs
        have hs : a.tmps.getD t undef = .bool y := hs
        have e : a.tmps[t]? = some (.bool y) := by simp [Array.getD_eq_getD_getElem?, Array.getElem?_eq_getElem hsz] at hs ⊢; exact hs
        simp [yielded, hd, e]
      · rename_i hy
        cases hg
        rw [hy] at hs
        have hs : a.tmps.getD t undef = undef := hs
        have e : a.tmps[t]? = some undef := by simp [Array.getD_eq_getD_getElem?, Array.getElem?_eq_getElem hsz] at hs ⊢; exact hs
        simp [yielded, hd, e, undef]
      · cases hg
theorem StpOK.wp {G : Glob R} (hG : GOK P G) (hN : G.nt = C.N) (h : SRel C S a w ρ Fs) {s : Stp} (hs : StpOK P G ops s S) (ho : ops[s.i]? = some s.o) {K : Act → World → Prop} {Q : Exit → Act → World → Prop} (hK : ∀ a' w' ρ' Fs', SRel C (S.go s) a' w' ρ' Fs' → K a' w') : wpOp P ops Q s.i K a w := by
  unfold wpOp
  simp only [ho]
  rcases hs.run with ⟨hg, hsub, hdo, hgh, hnx⟩ | ⟨hg, hE⟩
  · rw [wanted_of hN h hs.gt hg]
    simp only [if_true]
    refine .inl ((hdo.sub hsub).wp hG hN h (fun k h1 h2 => (hgh k h1 h2).1) hnx fun u w' ρ' Fs' h1 h2 => hK _ _ ρ' Fs' ?_)
    exact h1.put s.o.dst s.E.v u (fun _ _ => h2) (fun d hd => by rw [← hN]; exact hs.dst d hd)
  · rw [wanted_of hN h hs.gt hg]
    simp only [Bool.false_eq_true, if_false]
    refine hK _ _ ρ Fs ?_
    have e : S.go s = S.put s.o.dst (.l .undef) := by unfold St.go; rw [hE]; rfl
    rw [e]
    exact h.put s.o.dst (.l .undef) undef (fun _ _ => rfl) (fun d hd => by rw [← hN]; exact hs.dst d hd)
theorem wpOps_runs {G : Glob R} (hG : GOK P G) (hN : G.nt = C.N) {Q : Exit → Act → World → Prop} : ∀ {l : List Stp} {S S' : St} {a : Act} {w : World} {ρ : Place} {Fs : Nat → FP}, Runs P G ops l S S' → SRel C S a w ρ Fs → (∀ s ∈ l, ops[s.i]? = some s.o) → (∀ a' w' ρ' Fs', SRel C S' a' w' ρ' Fs' → Q .normal a' w') → wpOps P ops Q (l.map (·.i)) a w
  | [], _, _, a, w, ρ, Fs, .nil _, h, _, hQ => hQ _ _ _ _ h
  | s :: l, S, S', a, w, ρ, Fs, .cons h1 h2, h, ho, hQ => by
    rw [List.map_cons, wpOps_cons]
    exact h1.wp hG hN h (ho s (by simp)) fun a' w' ρ' Fs' h' => wpOps_runs hG hN h2 h' (fun s hs => ho s (by simp [hs])) hQ
end

/-! ### Two that are independent may be exchanged -/
section
variable {G : Glob R} {ops : Array Oper}
/-- What a step leads to lies among its names. -/
def Stp.fit (s : Stp) : Prop := ∀ j r, s.h j = some r → j ∈ s.ids
def Ind (ops : Array Oper) (s t : Stp) : Prop := indep ops s.log t.log = true
theorem Ind.spec {s t : Stp} (h : Ind ops s t) : (∀ d, s.o.dst = some d → d ∉ t.o.looksAt ops ∧ t.o.dst ≠ some d) ∧ (∀ d, t.o.dst = some d → d ∉ s.o.looksAt ops) ∧ (∀ x ∈ s.w, x ∉ t.w) ∧ (∀ x ∈ s.w, x ∉ t.ids) ∧ (∀ x ∈ t.w, x ∉ s.ids) := by
  unfold Ind indep at h
  obtain ⟨h, h5⟩ := and_bool h
  obtain ⟨h, h4⟩ := and_bool h
  obtain ⟨h, h3⟩ := and_bool h
  obtain ⟨h1, h2⟩ := and_bool h
  obtain ⟨a1, a2, a3⟩ := Oper.apart_spec h1
  exact ⟨fun d hd => ⟨a1 d hd, a2 d hd⟩, a3, disjoint_sound h3, disjoint_sound h4, disjoint_sound h5⟩
theorem guardIs_congr {sl sl' : Nat → AV} {o : Oper} (h : ∀ t ∈ o.looksAt ops, sl' t = sl t) : guardIs ops sl' o = guardIs ops sl o := by
  unfold guardIs
  split
  · rfl
  · rename_i j want hq
    split
    · rfl
    · rename_i t ht
      have : t ∈ o.looksAt ops := by
        unfold Oper.looksAt
        have hd : (ops[j]?).bind (·.dst) = some t := by
          unfold dstOf at ht
          split at ht
          · rename_i o' ho'; simp only [ho', Option.bind_some]; exact ht
          · cases ht
        simp [hq, hd]
      rw [h t this]
theorem rd_congr {nt : Nat} {sl sl' : Nat → AV} {o : Oper} (h : ∀ t ∈ o.looksAt ops, sl' t = sl t) : ∀ x ∈ o.op.operands.toList, St.rd nt sl x = St.rd nt sl' x := by
  intro x hx
  cases x with
  | tmp t =>
    have : t ∈ o.looksAt ops := by
      unfold Oper.looksAt
      exact List.mem_append_left _ (List.mem_filterMap.2 ⟨.tmp t, hx, rfl⟩)
    simp only [St.rd, h t this]
  | _ => rfl
theorem StpOK.at {s : Stp} {S S' : St} (h : StpOK P G ops s S) (h1 : ∀ t ∈ s.o.looksAt ops, S'.sl t = S.sl t) (h2 : Sub s.h S.hp → Sub s.h S'.hp) (h3 : ∀ k, k ∈ s.w → S.hp k = some .ghost → S'.hp k = some .ghost) (h4 : S'.nx = S.nx) : StpOK P G ops s S' := by
  refine ⟨h.dst, h.gt, h.upw, ?_⟩
  rw [guardIs_congr h1]
  rcases h.run with ⟨a1, a2, a3, a4, a5⟩ | h'
  · exact .inl ⟨a1, h2 a2, a3.congr (rd_congr h1), fun k k1 k2 => ⟨h3 k (a4 k k1 k2).2 (a4 k k1 k2).1, (a4 k k1 k2).2⟩, by rw [h4]; exact a5⟩
  · exact .inr h'
theorem hp_out {s : Stp} (hw : ∀ p ∈ s.E.up, p.1 ∈ s.w) (S : St) {j : Nat} (hj : j ∉ s.w) : (S.go s).hp j = S.hp j := by
  rw [St.go_hp]
  exact upd_out _ _ (fun p hp e => hj (by rw [← e]; exact hw p hp))
theorem swap {s t : Stp} {S : St} (hf : s.fit) (hf' : t.fit) (hi : Ind ops s t) (h1 : StpOK P G ops s S) (h2 : StpOK P G ops t (S.go s)) : StpOK P G ops t S ∧ StpOK P G ops s (S.go t) ∧ (S.go s).go t = (S.go t).go s := by
  obtain ⟨i1, i2, i3, i4, i5⟩ := hi.spec
  have hts : ∀ x ∈ t.w, x ∉ s.w := fun x h1 h2 => i3 x h2 h1
  refine ⟨?_, ?_, St.ext' ?_ ?_ ?_⟩
  · refine h2.at (fun u hu => ?_) (fun hs j r hr => ?_) (fun k hk hg => ?_) (St.go_nx S s).symm
    · rw [St.go_sl]
      simp only
      rw [if_neg]
      exact fun e => (i1 u e).1 hu
    · have := hs j r hr
      rwa [hp_out h1.upw S (fun hw => i4 j hw (hf' j r hr))] at this
    · rwa [hp_out h1.upw S (hts k hk)] at hg
  · refine h1.at (fun u hu => ?_) (fun hs j r hr => ?_) (fun k hk hg => ?_) (St.go_nx S t)
    · rw [St.go_sl]
      simp only
      rw [if_neg]
      exact fun e => i2 u e hu
    · rw [hp_out h2.upw S (fun hw => i5 j hw (hf j r hr))]
      exact hs j r hr
    · rw [hp_out h2.upw S (i3 k hk)]
      exact hg
  · funext u
    simp only [St.go_sl]
    by_cases e1 : s.o.dst = some u
    · have := (i1 u e1).2
      simp [e1, this]
    · simp [e1]
  · simp only [St.go_hp]
    funext j
    by_cases ht : ∃ p ∈ t.E.up, p.1 = j
    · obtain ⟨p, hp, e⟩ := ht
      have hjt : j ∈ t.w := by rw [← e]; exact h2.upw p hp
      rw [upd_in t.E.up (hp' := S.hp) ⟨p, hp, e⟩]
      exact (upd_out _ _ (fun q hq e2 => hts j hjt (by rw [← e2]; exact h1.upw q hq))).symm
    · have ht' : ∀ p ∈ t.E.up, p.1 ≠ j := fun p hp e => ht ⟨p, hp, e⟩
      rw [upd_out _ _ ht']
      exact upd_base _ (upd_out _ _ ht').symm
  · simp only [St.go_nx]
theorem Runs.front : ∀ {A : List Stp} {x : Stp} {B : List Stp} {S S' : St}, Runs P G ops (A ++ x :: B) S S' → (∀ s ∈ A ++ x :: B, s.fit) → (∀ s ∈ A, Ind ops s x) → Runs P G ops (x :: (A ++ B)) S S'
  | [], x, B, S, S', h, _, _ => h
  | s :: A, x, B, S, S', .cons h1 h2, hf, hi => by
    have ih := Runs.front h2 (fun t ht => hf t (List.mem_cons_of_mem _ ht)) (fun t ht => hi t (by simp [ht]))
    cases ih with
    | cons g1 g2 =>
      obtain ⟨k1, k2, k3⟩ := swap (hf s (by simp)) (hf x (by simp)) (hi s (by simp)) h1 g1
      exact .cons k1 (.cons k2 (by rw [← k3]; exact g2))
end
end
end Go.Proofs.Ytfkejiljabmaaaa.V
