/- Regions, whole: lexical ones and those whose order is open. Conditions: as in VDo; for open orders the program is followed in mixed orders. -/
import Derived.Test.YtfkejiljabmaaaaVReg
set_option linter.unusedVariables false
set_option linter.unusedSimpArgs false
namespace Go.Proofs.Ytfkejiljabmaaaa.V
open Go

section
variable {R : Type} {P : Program} {G : Glob R} {ops : Array Oper}
/-! ### What binds -/
theorem foldr_bits (acc : List Nat) (j : Nat) : ∀ es : List Edge, Nat.testBit (es.foldr (fun e s => bif Region.binds .any e then (2 ^ e.on ||| (acc[e.on]?.getD 0) ||| s) else s) 0) j = true → ∃ e ∈ es, Region.binds .any e = true ∧ (e.on = j ∨ Nat.testBit (acc[e.on]?.getD 0) j = true)
  | [], h => by simp at h
  | e :: es, h => by
    simp only [List.foldr_cons] at h
    cases hb : Region.binds .any e with
    | false =>
      rw [hb] at h
      obtain ⟨e', h1, h2⟩ := foldr_bits acc j es h
      exact ⟨e', by simp [h1], h2⟩
    | true =>
      rw [hb] at h
      simp only [cond_true, Nat.testBit_or, Bool.or_eq_true] at h
      rcases h with (h | h) | h
      · exact ⟨e, by simp, hb, .inl (by simpa [Nat.testBit_two_pow] using h)⟩
      · exact ⟨e, by simp, hb, .inr h⟩
      · obtain ⟨e', h1, h2⟩ := foldr_bits acc j es h
        exact ⟨e', by simp [h1], h2⟩
theorem befores_length : ∀ (l : List Oper) (acc : List Nat), (befores acc l).length = acc.length + l.length
  | [], acc => by simp [befores]
  | o :: l, acc => by simp [befores, befores_length l]; omega
theorem befores_old : ∀ (l : List Oper) (acc : List Nat) (k : Nat), k < acc.length → (befores acc l)[k]? = acc[k]?
  | [], acc, k, h => rfl
  | o :: l, acc, k, h => by rw [befores, befores_old l _ k (by simp; omega), List.getElem?_append_left h]
theorem befores_cons (acc : List Nat) (o : Oper) (l : List Oper) : befores acc (o :: l) = befores (acc ++ [bindsOf acc o]) l := rfl
theorem befores_at (l : List Oper) : ∀ (acc : List Nat) (k : Nat) (o : Oper), l[k]? = some o → (befores acc l)[acc.length + k]? = some (bindsOf ((befores acc l).take (acc.length + k)) o) := by
  induction l with
  | nil => intro acc k o h; simp at h
  | cons o' l ih =>
    intro acc k o h
    cases k with
    | zero =>
      have h : o' = o := by simpa using h
      subst h
      have e : (befores acc (o' :: l)).take acc.length = acc := by
        apply List.ext_getElem?
        intro i
        rw [List.getElem?_take]
        split
        · exact befores_old _ _ _ ‹_›
        · rw [List.getElem?_eq_none (by omega)]
      rw [Nat.add_zero, e, befores_cons, befores_old l _ _ (by simp)]
      simp
    | succ k =>
      have h2 := ih (acc ++ [bindsOf acc o']) k o (by simpa using h)
      rw [List.length_append, List.length_singleton, Nat.add_right_comm] at h2
      rw [befores_cons]
      exact h2
def Bef (l : List Oper) (k j : Nat) : Prop := Nat.testBit ((befores [] l)[k]?.getD 0) j = true
theorem Bef.step {l : List Oper} {k j : Nat} {o : Oper} (ho : l[k]? = some o) (h : Bef l k j) : ∃ e ∈ o.after.toList, Region.binds .any e = true ∧ (e.on = j ∨ Bef l e.on j) := by
  unfold Bef at h
  have := befores_at l [] k o ho
  simp only [List.length_nil, Nat.zero_add] at this
  rw [this] at h
  simp only [Option.getD_some, bindsOf] at h
  obtain ⟨e, h1, h2, h3⟩ := foldr_bits _ _ _ h
  refine ⟨e, h1, h2, h3.imp id fun h3 => ?_⟩
  unfold Bef
  rw [List.getElem?_take] at h3
  split at h3
  · exact h3
  · simp at h3

/-! ### Every order -/
section
variable {C : Cx}
theorem any_runs (hG : GOK P G) (hN : G.nt = C.N) {Q : Exit → Act → World → Prop} (hb : ∀ (i : Nat) (o : Oper) (e : Edge), ops[i]? = some o → e ∈ o.after.toList → Region.binds .any e = true → e.on < i) : ∀ (fuel : Nat) (listed : Array Bool) (l : List Stp) {S S' : St} {a : Act} {w : World} {ρ : Place} {Fs : Nat → FP}, Runs P G ops l S S' → SRel C S a w ρ Fs →
    listed.size = ops.size → (∀ i, i < ops.size → (listed.getD i true = false ↔ ∃ s ∈ l, s.i = i)) → l.length ≤ fuel → (∀ s ∈ l, ops[s.i]? = some s.o) → (∀ s ∈ l, s.fit) → List.Pairwise (fun s t => s.i < t.i ∧ (Bef ops.toList t.i s.i ∨ Ind ops s t)) l →
    (∀ k j, k < ops.size → listed.getD k true = true → Bef ops.toList k j → listed.getD j false = true) →
    (∀ a' w' ρ' Fs', SRel C S' a' w' ρ' Fs' → Q .normal a' w') → wpAny P .any ops Q fuel listed a w := by
  have un : ∀ (listed : Array Bool) i, listed.size = ops.size → i < ops.size → listed.getD i true = listed.getD i false := fun listed i h1 h2 => by
    rw [← h1] at h2
    simp [Array.getD_eq_getD_getElem?, Array.getElem?_eq_getElem h2]
  intro fuel
  induction fuel with
  | zero =>
    intro listed l S S' a w ρ Fs hr h hsz hidx hlen ho hf hp hcl hQ
    obtain rfl : l = [] := List.length_eq_zero_iff.1 (by omega)
    cases hr
    refine ⟨?_, hQ _ _ _ _ h⟩
    refine List.eq_nil_iff_forall_not_mem.2 fun i hi => ?_
    obtain ⟨h1, o, h2, _⟩ := mem_ready.1 hi
    obtain ⟨s, hs, _⟩ := (hidx i (Array.getElem?_eq_some_iff.1 h2).1).1 h1
    simp at hs
  | succ fuel ih =>
    intro listed l S S' a w ρ Fs hr h hsz hidx hlen ho hf hp hcl hQ
    refine ⟨fun hnil => ?_, fun i hi => ?_⟩
    · cases l with
      | nil => cases hr; exact hQ _ _ _ _ h
      | cons s l =>
        exfalso
        have hso := ho s (by simp)
        have hslt := (Array.getElem?_eq_some_iff.1 hso).1
        have : s.i ∈ Region.ready .any ops listed := by
          refine mem_ready.2 ⟨(hidx s.i hslt).2 ⟨s, by simp, rfl⟩, s.o, hso, fun e he hbd => ?_⟩
          have hlt := hb s.i s.o e hso (by simpa using he) hbd
          rw [← un listed e.on hsz (by omega)]
          cases hq : listed.getD e.on true with
          | true => rfl
          | false =>
            obtain ⟨t, ht, e2⟩ := (hidx e.on (by omega)).1 hq
            rcases List.mem_cons.1 ht with rfl | ht
            · omega
            · have := ((List.pairwise_cons.1 hp).1 t ht).1; omega
        rw [hnil] at this
        simp at this
    · obtain ⟨h1, o, h2, h3⟩ := mem_ready.1 hi
      have hilt := (Array.getElem?_eq_some_iff.1 h2).1
      obtain ⟨s, hs, rfl⟩ := (hidx i hilt).1 h1
      obtain ⟨A, B, rfl⟩ := List.append_of_mem hs
      have hso := ho s hs
      rw [hso] at h2; cases h2
      have hol : ops.toList[s.i]? = some s.o := by simpa using hso
      have hbef : ∀ j, Bef ops.toList s.i j → listed.getD j false = true := fun j hj => by
        obtain ⟨e, e1, e2, e3⟩ := hj.step hol
        have hl := h3 e (by simpa using e1) e2
        rcases e3 with rfl | e3
        · exact hl
        · have hlt := hb s.i s.o e hso e1 e2
          exact hcl e.on j (by omega) (by rw [un listed e.on hsz (by omega)]; exact hl) e3
      obtain ⟨pA, pB, pAB⟩ := List.pairwise_append.1 hp
      have hind : ∀ t ∈ A, Ind ops t s := fun t ht => by
        rcases (pAB t ht s (by simp)).2 with hk | hk
        · exfalso
          have h4 := hbef t.i hk
          have hto := ho t (by simp [ht])
          have htlt := (Array.getElem?_eq_some_iff.1 hto).1
          have h5 := (hidx t.i htlt).2 ⟨t, by simp [ht], rfl⟩
          rw [un listed t.i hsz htlt, h4] at h5
          cases h5
        · exact hk
      cases hr.front hf hind with
      | cons g1 g2 =>
        refine g1.wp hG hN h hso fun a' w' ρ' Fs' h' => ?_
        have hne : ∀ t ∈ A ++ B, t.i ≠ s.i := fun t ht => by
          rcases List.mem_append.1 ht with ht | ht
          · have := (pAB t ht s (by simp)).1; omega
          · have := ((List.pairwise_cons.1 pB).1 t ht).1; omega
        refine ih (listed.setIfInBounds s.i true) (A ++ B) g2 h' (by simp [hsz]) (fun j hj => ?_) (by simp at hlen ⊢; omega) (fun t ht => ho t (by simp at ht ⊢; rcases ht with ht | ht <;> simp [ht])) (fun t ht => hf t (by simp at ht ⊢; rcases ht with ht | ht <;> simp [ht])) ?_ (fun k j hk hl hbk => ?_) hQ
        · by_cases e : j = s.i
          · subst e
            refine ⟨fun hh => ?_, fun ⟨t, ht, e⟩ => absurd e (hne t ht)⟩
            rw [un _ _ (by simp [hsz]) hj] at hh
            have : (listed.setIfInBounds s.i true).getD s.i false = true := by
              have : s.i < listed.size := by omega
              simp [this]
            rw [this] at hh; cases hh
          · rw [getD_set_ne true (Ne.symm e), hidx j hj]
            constructor
            · rintro ⟨t, ht, rfl⟩
              refine ⟨t, ?_, rfl⟩
              simp at ht ⊢
              rcases ht with ht | rfl | ht
              · exact .inl ht
              · exact absurd rfl e
              · exact .inr ht
            · rintro ⟨t, ht, rfl⟩
              exact ⟨t, by simp at ht ⊢; rcases ht with ht | ht <;> simp [ht], rfl⟩
        · exact List.pairwise_append.2 ⟨pA, (List.pairwise_cons.1 pB).2, fun x hx y hy => pAB x hx y (by simp [hy])⟩
        · refine getD_set_true ?_
          by_cases e : k = s.i
          · subst e; exact hbef j hbk
          · rw [getD_set_ne true (Ne.symm e)] at hl
            exact hcl k j hk hl hbk
end

/-! ### The evaluator's steps -/
structure GRel (Sg S : St) (N : Nat) : Prop where
  sl : Sg.sl = S.sl
  nx : Sg.nx = N
  hp : ∀ j, S.hp j = Sg.hp j ∨ (Sg.hp j = some .ghost ∧ S.hp j = none)
  gh : ∀ k, S.nx ≤ k → k < N → Sg.hp k = some .ghost
theorem put_same {S : St} {t : Tmp} {v : AV} (h : S.sl t = v) : S.put (some t) v = S := by
  unfold St.put
  refine St.ext' ?_ rfl rfl
  funext j
  by_cases e : j = t
  · subst e; simp [h]
  · have : (j == t) = false := by simp [e]
    simp [this]
theorem app_rel {Sg S : St} {N : Nat} (h : GRel Sg S N) {s : Stp} (hn : s.n = S.nx) (hok : okUp S.nx s.E = true) : GRel (Sg.go s) (S.app s.o.dst s.E) N := by
  obtain ⟨h1, h2⟩ := and_bool hok
  have h1 : S.nx ≤ s.E.nx := Nat.le_of_ble_eq_true h1
  have hk : ∀ p ∈ s.E.up, p.1 < s.E.nx := fun p hp => by
    have := List.all_eq_true.1 h2 p hp
    simpa [Nat.blt_eq] using this
  refine ⟨?_, by rw [St.go_nx]; exact h.nx, fun j => ?_, fun k k1 k2 => ?_⟩
  · rw [St.go_sl]
    unfold St.app St.put
    cases s.o.dst with
    | none => simp [h.sl]
    | some d =>
      funext t
      by_cases e : t = d
      · subst e; simp
      · have e1 : (t == d) = false := by simp [e]
        have e2 : ¬ d = t := fun h => e h.symm
        simp [e1, e2, h.sl]
  · rw [St.go_hp]
    show upd S.hp s.E.up j = upd Sg.hp s.E.up j ∨ _
    by_cases hj : ∃ p ∈ s.E.up, p.1 = j
    · exact .inl (upd_in _ hj)
    · have hj' : ∀ p ∈ s.E.up, p.1 ≠ j := fun p hp e => hj ⟨p, hp, e⟩
      show _ ∨ (upd Sg.hp s.E.up j = some .ghost ∧ upd S.hp s.E.up j = none)
      rw [upd_out _ _ hj', upd_out _ _ hj']
      exact h.hp j
  · have k1 : s.E.nx ≤ k := k1
    rw [St.go_hp, upd_out _ _ (fun p hp e => by have := hk p hp; omega)]
    exact h.gh k (by omega) k2
theorem sub_of_grel {Sg S : St} {N : Nat} (h : GRel Sg S N) : Sub S.hp Sg.hp := fun j r hj => by
  rcases h.hp j with e | ⟨_, e⟩
  · rw [← e]; exact hj
  · rw [e] at hj; cases hj
theorem evOper_runs (hG : GOK P G) {draw : Bool} {o : Oper} {S : St} {K : St → Log → Option R} {r : R} (i : Nat) (h : evOper G ops draw o S K = some r) : ∃ s : Stp, s.i = i ∧ s.o = o ∧ s.n = S.nx ∧ K (S.app o.dst s.E) s.log = some r ∧ okUp S.nx s.E = true ∧ (draw = true → s.fit) ∧
    ∀ Sg N, GRel Sg S N → s.E.nx ≤ N → StpOK P G ops s Sg := by
  unfold evOper at h
  simp only [] at h
  obtain ⟨hd, h⟩ := bif_some h
  have hd : ∀ d, o.dst = some d → d < G.nt := fun d e => by rw [e] at hd; simpa [Nat.blt_eq] using hd
  have exec : guardIs ops S.sl o = some true → (∀ j want t, o.guard = some (j, want) → dstOf ops j = some t → t < G.nt) → (evOp G o.op S.sl (bif draw then cut S.hp (opIds (St.rd G.nt S.sl) o.op) else S.hp) S.nx fun E => bif okUp S.nx E then K (S.app o.dst E) ⟨o, writes S.nx E, opIds (St.rd G.nt S.sl) o.op⟩ else none) = some r →
      ∃ s : Stp, s.i = i ∧ s.o = o ∧ s.n = S.nx ∧ K (S.app o.dst s.E) s.log = some r ∧ okUp S.nx s.E = true ∧ (draw = true → s.fit) ∧ ∀ Sg N, GRel Sg S N → s.E.nx ≤ N → StpOK P G ops s Sg := fun hg hgt h => by
    obtain ⟨E, hdo, h⟩ := evOp_does hG h
    obtain ⟨hok, h⟩ := bif_some h
    refine ⟨⟨i, o, S.nx, E, bif draw then cut S.hp (opIds (St.rd G.nt S.sl) o.op) else S.hp, writes S.nx E, opIds (St.rd G.nt S.sl) o.op⟩, rfl, rfl, rfl, h, hok, fun hdr j r' hj => ?_, fun Sg N hgr hN => ⟨hd, hgt, fun p hp => ?_, .inl ⟨?_, fun j r' hj => ?_, ?_, fun k k1 k2 => ⟨hgr.gh k k1 (by have : E.nx ≤ N := hN; have : k < E.nx := k2; omega), ?_⟩, by rw [hgr.nx]; exact hN⟩⟩⟩
    · subst hdr
      simp only [cut, cond_true] at hj
      obtain ⟨h1, _⟩ := bif_some hj
      exact List.elem_iff.1 h1
    · show p.1 ∈ writes S.nx E
      exact List.mem_append_left _ (List.mem_map_of_mem hp)
    · rw [hgr.sl]; exact hg
    · refine sub_of_grel hgr j r' ?_
      cases draw with
      | false => exact hj
      | true =>
        simp only [cut, cond_true] at hj
        exact (bif_some hj).2
    · show Does P G o.op Sg.sl _ S.nx E
      rw [hgr.sl]; exact hdo
    · show k ∈ writes S.nx E
      refine List.mem_append_right _ (List.mem_range'_1.2 ⟨k1, ?_⟩)
      have : k < E.nx := k2
      have k1 : S.nx ≤ k := k1
      omega
  have skip : guardIs ops S.sl o = some false → (∀ j want t, o.guard = some (j, want) → dstOf ops j = some t → t < G.nt) → K (S.app o.dst (skipEff S.nx)) ⟨o, [], []⟩ = some r →
      ∃ s : Stp, s.i = i ∧ s.o = o ∧ s.n = S.nx ∧ K (S.app o.dst s.E) s.log = some r ∧ okUp S.nx s.E = true ∧ (draw = true → s.fit) ∧ ∀ Sg N, GRel Sg S N → s.E.nx ≤ N → StpOK P G ops s Sg := fun hg hgt h => by
    refine ⟨⟨i, o, S.nx, skipEff S.nx, fun _ => none, [], []⟩, rfl, rfl, rfl, h, ?_, fun _ j r' hj => (by cases hj), fun Sg N hgr hN => ⟨hd, hgt, fun p hp => ?_, .inr ⟨by rw [hgr.sl]; exact hg, rfl⟩⟩⟩
    · simp [okUp, skipEff]
    · simp [skipEff] at hp
  split at h
  · rename_i hgu
    exact exec (by simp [guardIs, hgu]) (fun j want t e _ => by rw [hgu] at e; cases e) h
  · rename_i j want hgu
    split at h
    · cases h
    · rename_i t ht
      obtain ⟨htN, h⟩ := bif_some h
      have htN : t < G.nt := by simpa [Nat.blt_eq] using htN
      have hgt : ∀ j' want' t', o.guard = some (j', want') → dstOf ops j' = some t' → t' < G.nt := fun j' want' t' e1 e2 => by
        rw [hgu] at e1; cases e1
        rw [ht] at e2; cases e2
        exact htN
      split at h
      · rename_i x hx
        cases x with
        | true =>
          simp only [put_same hx] at h
          cases want with
          | true => exact exec (by simp [guardIs, hgu, ht, hx]) hgt h
          | false => exact skip (by simp [guardIs, hgu, ht, hx]) hgt h
        | false =>
          simp only [put_same hx] at h
          cases want with
          | true => exact skip (by simp [guardIs, hgu, ht, hx]) hgt h
          | false => exact exec (by simp [guardIs, hgu, ht, hx]) hgt h
      · rename_i hx
        exact skip (by simp [guardIs, hgu, ht, hx]) hgt h
      · cases h
theorem evOps_runs (hG : GOK P G) {draw : Bool} {r : R} : ∀ (l : List Oper) (i : Nat) {S : St} {L : List Log} {K : St → List Log → Option R}, evOps G ops draw l S L K = some r → ∃ (steps : List Stp) (S' : St), steps.map (·.o) = l ∧ steps.map (·.i) = List.range' i l.length ∧ K S' ((steps.map Stp.log).reverse ++ L) = some r ∧ S.nx ≤ S'.nx ∧ (draw = true → ∀ s ∈ steps, s.fit) ∧
    ∀ Sg N, GRel Sg S N → S'.nx ≤ N → ∃ Sg', Runs P G ops steps Sg Sg' ∧ GRel Sg' S' N
  | [], i, S, L, K, h => ⟨[], S, rfl, rfl, h, Nat.le_refl _, fun _ s hs => by simp at hs, fun Sg N hg _ => ⟨Sg, .nil _, hg⟩⟩
  | o :: l, i, S, L, K, h => by
    simp only [evOps] at h
    obtain ⟨s, e1, e2, e3, h, hok, hfit, hst⟩ := evOper_runs hG i h
    obtain ⟨steps, S', g1, g2, g3, g4, g5, g6⟩ := evOps_runs hG l (i + 1) h
    have hle : S.nx ≤ s.E.nx := Nat.le_of_ble_eq_true (and_bool hok).1
    have hle2 : s.E.nx ≤ S'.nx := g4
    refine ⟨s :: steps, S', by simp [e2, g1], by simp [e1, g2, List.range'_succ], ?_, by omega, fun hd t ht => ?_, fun Sg N hg hN => ?_⟩
    · simpa using g3
    · rcases List.mem_cons.1 ht with rfl | ht
      · exact hfit hd
      · exact g5 hd t ht
    · obtain ⟨Sg', k1, k2⟩ := g6 (Sg.go s) N (by have := app_rel hg e3 hok; rw [e2] at this; exact this) hN
      exact ⟨Sg', .cons (hst Sg N hg (by omega)) k1, k2⟩
theorem drawOk_spec : ∀ (done : List Log) (bs : List Nat) (ls : List Log), drawOk ops done bs ls = true → (∀ k l, ls[k]? = some l → ∃ b, bs[k]? = some b ∧ ∀ i m, (done ++ ls.take k)[i]? = some m → Nat.testBit b i = true ∨ indep ops m l = true) ∧ ∀ k l e, ls[k]? = some l → e ∈ l.o.after.toList → Region.binds .any e = true → e.on < done.length + k
  | done, bs, [], _ => ⟨fun k l h => by simp at h, fun k l e h => by simp at h⟩
  | done, [], l :: ls, h => by cases h
  | done, b :: bs, l :: ls, h => by
    simp only [drawOk] at h
    obtain ⟨h, h3⟩ := and_bool h
    obtain ⟨h1, h2⟩ := and_bool h
    obtain ⟨ih1, ih2⟩ := drawOk_spec _ _ _ h3
    have hin : ∀ (ms : List Log) (i : Nat), indeps ops b l i ms = true → ∀ j m, ms[j]? = some m → Nat.testBit b (i + j) = true ∨ indep ops m l = true := by
      intro ms
      induction ms with
      | nil => intro i _ j m hj; simp at hj
      | cons m0 ms ih =>
        intro i hh j m hj
        simp only [indeps] at hh
        obtain ⟨k1, k2⟩ := and_bool hh
        cases j with
        | zero => simp at hj; subst hj; exact Bool.or_eq_true _ _ |>.mp k1
        | succ j => rw [show i + (j + 1) = i + 1 + j by omega]; exact ih (i + 1) k2 j m (by simpa using hj)
    refine ⟨fun k l' hk => ?_, fun k l' e hk he hb => ?_⟩
    · cases k with
      | zero =>
        simp at hk; subst hk
        refine ⟨b, rfl, fun i m hm => ?_⟩
        have := hin done 0 h1 i m (by simpa using hm)
        rwa [Nat.zero_add] at this
      | succ k =>
        obtain ⟨b', hb', hh⟩ := ih1 k l' (by simpa using hk)
        exact ⟨b', by simpa using hb', fun i m hm => hh i m (by simpa using hm)⟩
    · cases k with
      | zero =>
        simp at hk; subst hk
        have := List.all_eq_true.1 h2 e he
        rw [hb] at this
        simpa [Nat.blt_eq] using this
      | succ k =>
        have := ih2 k l' e (by simpa using hk) he hb
        simp at this ⊢; omega
section
variable {C : Cx} {S : St} {a : Act} {w : World} {ρ : Place} {Fs : Nat → FP}
theorem evRegion_sound (hG : GOK P G) (hm : P.follows .mixedOrders = true) (hN : G.nt = C.N) {id : Nat} {draw : Bool} {K : St → Option R} {r : R} (he : evRegion G ops draw S K = some r) (h : SRel C S a w ρ Fs) {Q : Exit → Act → World → Prop}
    (hQ : ∀ S', K S' = some r → ∀ a' w' ρ' Fs', SRel C S' a' w' ρ' Fs' → Q .normal a' w') : (Code.region id ops draw).wp P Q a w := by
  unfold evRegion at he
  obtain ⟨steps, S', e1, e2, e3, e4, e5, e6⟩ := evOps_runs hG _ 0 he
  obtain ⟨Sg', hr, hgr⟩ := e6 ⟨S.sl, ghosts S.hp S.nx S'.nx, S'.nx⟩ S'.nx ⟨rfl, rfl, fun j => by
      simp only [ghosts]
      cases hq : S.hp j with
      | some r => exact .inl rfl
      | none =>
        simp only []
        cases (Nat.ble S.nx j && Nat.blt j S'.nx) with
        | true => exact .inr ⟨rfl, by trivial⟩
        | false => exact .inl rfl, fun k k1 k2 => by
      have hq : S.hp k = none := h.mem.fresh k k1
      have h1 : Nat.ble S.nx k = true := Nat.ble_eq_true_of_le k1
      have h2 : Nat.blt k S'.nx = true := by simp [Nat.blt_eq]; exact k2
      simp only [ghosts, hq, h1, h2]; rfl⟩ (Nat.le_refl _)
  have h0 := h.reserve e4
  have hlen : steps.length = ops.size := by have := congrArg List.length e1; simpa using this
  have hidx : ∀ (k : Nat) (s : Stp), steps[k]? = some s → s.i = k := fun k s hk => by
    have h1 : (steps.map (·.i))[k]? = some s.i := by simp [hk]
    rw [e2, List.getElem?_range'] at h1
    · simp at h1; omega
    · have := (List.getElem?_eq_some_iff.1 hk).1; simp; omega
  have ho : ∀ s ∈ steps, ops[s.i]? = some s.o := fun s hs => by
    obtain ⟨k, hk⟩ := List.getElem?_of_mem hs
    have h1 : (steps.map (·.o))[k]? = some s.o := by simp [hk]
    rw [e1] at h1
    rw [hidx k s hk]
    simpa using h1
  have fin : ∀ (K' : K S' = some r) a' w' ρ' Fs', SRel C Sg' a' w' ρ' Fs' → Q .normal a' w' := fun K' a' w' ρ' Fs' h' => by
    refine hQ S' K' a' w' ρ' Fs' ?_
    have h2 := h'.unghost S'.hp hgr.hp
    have e : S' = ⟨Sg'.sl, S'.hp, Sg'.nx⟩ := St.ext' hgr.sl.symm rfl hgr.nx.symm
    rw [e]; exact h2
  cases draw with
  | false =>
    have hl : List.range ops.size = steps.map (·.i) := by rw [e2, List.range_eq_range']; simp
    refine wp_region ?_
    rw [hl]
    exact wpOps_runs hG hN hr h0 ho (fun a' w' ρ' Fs' h' => fin e3 a' w' ρ' Fs' h')
  | true =>
    simp only [cond_true, List.append_nil, List.reverse_reverse] at e3
    obtain ⟨hck, hK⟩ := bif_some e3
    obtain ⟨d1, d2⟩ := drawOk_spec _ _ _ hck
    have hlog : ∀ (k : Nat) (s : Stp), steps[k]? = some s → (steps.map Stp.log)[k]? = some s.log := fun k s hk => by simp [hk]
    refine wp_region_any hm ?_
    have hdraw : SRel C ⟨S.sl, ghosts S.hp S.nx S'.nx, S'.nx⟩ a { w with drawn := w.drawn + 1 } ρ Fs := by
      refine h0.gen _ _ { w with drawn := w.drawn + 1 } ρ Fs (fun _ => False) (Nat.le_refl _) rfl rfl rfl (fun _ _ _ => rfl) (fun _ h => h.elim) (Nat.le_refl _) (fun _ _ _ => rfl) (fun j hj => .same rfl rfl (fun _ _ h => h)) (fun j hj => .inl ⟨h0.mem.fresh j hj, h0.mem.dead j (h0.mem.fresh j hj)⟩) h0.mem.one (fun b hb => .inl hb)
    refine any_runs hG hN (fun i o e hi he hb => ?_) ops.size _ steps hr hdraw (by simp) (fun i hi => ?_) (by omega) ho (e5 rfl) ?_ (fun k j hk hl _ => ?_) (fun a' w' ρ' Fs' h' => fin hK a' w' ρ' Fs' h')
    · have hi' := (Array.getElem?_eq_some_iff.1 hi).1
      obtain ⟨s, hs⟩ : ∃ s, steps[i]? = some s := ⟨steps[i]'(by omega), List.getElem?_eq_getElem _⟩
      have h1 := ho s (List.mem_of_getElem? hs)
      rw [hidx i s hs, hi] at h1
      cases h1
      have := d2 i s.log e (hlog i s hs) he hb
      simpa using this
    · have : (Array.replicate ops.size false).getD i true = false := by simp [hi]
      simp only [this, true_iff]
      exact ⟨steps[i]'(by omega), List.getElem_mem _, hidx i _ (List.getElem?_eq_getElem _)⟩
    · rw [List.pairwise_iff_getElem]
      intro i j hi hj hij
      have hi2 := List.getElem?_eq_getElem hi
      have hj2 := List.getElem?_eq_getElem hj
      have ei := hidx i _ hi2
      have ej := hidx j _ hj2
      refine ⟨by rw [ei, ej]; exact hij, ?_⟩
      obtain ⟨b, hb, hh⟩ := d1 j _ (hlog j _ hj2)
      have := hh i steps[i].log (by simp [hij, hi2])
      rw [ei, ej]
      rcases this with h1 | h1
      · left
        unfold Bef
        rw [hb]; exact h1
      · right; exact h1
    · have : (Array.replicate ops.size false).getD k true = false := by simp [hk]
      rw [this] at hl; cases hl
end
end
end Go.Proofs.Ytfkejiljabmaaaa.V
