/- Changes of memory: roots used up, a new root, a root turned. Conditions: none. -/
import Derived.Test.YtfkejiljabmaaaaVOpA
set_option linter.unusedVariables false
set_option linter.unusedSimpArgs false
namespace Go.Proofs.Ytfkejiljabmaaaa.V
open Go

/-! ### Updates -/
theorem upd_append (hp : Nat → Option Root) : ∀ l m : List (Nat × Option Root), upd hp (l ++ m) = upd (upd hp l) m := by
  intro l
  induction l generalizing hp with
  | nil => intro m; rfl
  | cons x l ih => intro m; obtain ⟨i, r⟩ := x; exact ih _ m
theorem upd_one (hp : Nat → Option Root) (i : Nat) (r : Option Root) (j : Nat) : upd hp [(i, r)] j = if j = i then r else hp j := by
  simp only [upd]
  by_cases h : j = i
  · subst h; simp
  · have : (j == i) = false := by simp [h]
    simp [h, this]
theorem upd_kill (hp : Nat → Option Root) : ∀ ks : List Nat, upd hp (killUp ks) = kill hp ks := by
  intro ks
  induction ks generalizing hp with
  | nil => funext j; simp [killUp, upd, kill]
  | cons k ks ih =>
    funext j
    have := congrFun (ih (fun j => bif j == k then none else hp j)) j
    simp only [killUp, List.map_cons, upd] at this ⊢
    rw [this]
    simp only [kill, List.elem_cons]
    cases h : (j == k) <;> cases h2 : ks.elem j <;> simp [h, h2]
theorem kill_at (hp : Nat → Option Root) (ks : List Nat) (j : Nat) : kill hp ks j = if j ∈ ks then none else hp j := by
  unfold kill
  by_cases h : j ∈ ks
  · simp [h, List.elem_iff.2 h]
  · have : ks.elem j = false := by rw [← Bool.not_eq_true]; exact fun h' => h (List.elem_iff.1 h')
    simp [h, this]
theorem kill_some {hp : Nat → Option Root} {ks : List Nat} {j : Nat} {r : Root} (h : kill hp ks j = some r) : j ∉ ks ∧ hp j = some r := by
  rw [kill_at] at h
  split at h
  · cases h
  · exact ⟨‹_›, h⟩

/-! ### Footprints of what is used up -/
def sumL (Fs : Nat → FP) : List Nat → FP
  | [] => fz
  | k :: ks => fadd (Fs k) (sumL Fs ks)
def kilF (Fs : Nat → FP) (ks : List Nat) : Nat → FP := fun j => if j ∈ ks then fz else Fs j
theorem kilF_nil (Fs : Nat → FP) : kilF Fs [] = Fs := by funext j; simp [kilF]
theorem kilF_cons (Fs : Nat → FP) (k : Nat) (ks : List Nat) : kilF Fs (k :: ks) = putF (kilF Fs ks) k fz := by
  funext j
  simp only [kilF, putF, List.mem_cons]
  by_cases h : j = k <;> simp [h]
theorem sumTo_kil (Fs : Nat → FP) (b n : Nat) : ∀ ks : List Nat, ks.Nodup → (∀ k ∈ ks, k < n) → sumTo n (kilF Fs ks) b + sumL Fs ks b = sumTo n Fs b
  | [], _, _ => by simp [kilF_nil, sumL]
  | k :: ks, hd, hk => by
    obtain ⟨h1, h2⟩ := List.nodup_cons.1 hd
    have ih := sumTo_kil Fs b n ks h2 (fun j hj => hk j (by simp [hj]))
    have e := sumTo_put (kilF Fs ks) fz b (hk k (by simp))
    rw [kilF_cons]
    have e2 : kilF Fs ks k = Fs k := by simp [kilF, h1]
    rw [e2] at e
    simp [sumL] at e ⊢
    omega
theorem kilF_le (Fs : Nat → FP) (ks : List Nat) (j b : Nat) : kilF Fs ks j b ≤ Fs j b := by
  unfold kilF; split <;> simp

/-! ### A new root -/
def newρ (ρ : Place) (id : Nat) (q : Option (Nat × Nat)) : Place := fun j => if j = id then q else ρ j
theorem newρ_self (ρ : Place) (id : Nat) (q : Option (Nat × Nat)) : newρ ρ id q id = q := by simp [newρ]
theorem newρ_ne (ρ : Place) {id j : Nat} (q : Option (Nat × Nat)) (h : j ≠ id) : newρ ρ id q j = ρ j := by simp [newρ, h]
theorem heap_push_lt (w : World) (o : Obj) {b : Nat} (h : b < w.heap.size) : (w.alloc o).heap[b]? = w.heap[b]? := by
  show (w.heap.push o)[b]? = _
  rw [Array.getElem?_push, if_neg (Nat.ne_of_lt h)]
theorem heap_push_eq (w : World) (o : Obj) : (w.alloc o).heap[w.heap.size]? = some o := by
  show (w.heap.push o)[w.heap.size]? = _
  rw [Array.getElem?_push, if_pos rfl]
theorem heap_push_size (w : World) (o : Obj) : (w.alloc o).heap.size = w.heap.size + 1 := Array.size_push _

theorem live_lt {C : Cx} {hp : Nat → Option Root} {nx : Nat} {w : World} {ρ : Place} {Fs : Nat → FP} (m : MRel C hp nx w ρ Fs) {id : Nat} {r : Root} (h : hp id = some r) : id < nx := by
  rcases Nat.lt_or_ge id nx with k | k
  · exact k
  · rw [m.fresh id k] at h; cases h
/-! ### Any change -/
inductive Kept (C : Cx) (hp : Nat → Option Root) (w : World) (ρ : Place) (Fs : Nat → FP) (hp' : Nat → Option Root) (w' : World) (Fs' : Nat → FP) (E' : Env) (M : Prop) (T : Nat → Prop) (j : Nat) : Prop
  | same (h1 : hp' j = hp j) (h2 : Fs' j = Fs j) (h3 : ∀ b, 1 ≤ Fs j b → ¬ T b)
  | gone (h1 : hp' j = none) (h2 : Fs' j = fz)
  | turned (root root' : Root) (h1 : hp j = some root) (h2 : hp' j = some root') (h3 : Like w w' (ρ j) root root') (h4 : M → RootRel E' j root' (Fs' j))
theorem SRel.genM {C : Cx} {S : St} {a : Act} {w : World} {ρ : Place} {Fs : Nat → FP} (h : SRel C S a w ρ Fs) (hp' : Nat → Option Root) (nx' : Nat) (w' : World) (ρ' : Place) (Fs' : Nat → FP) (T : Nat → Prop)
    (hsz : w.heap.size ≤ w'.heap.size) (hos : w'.os = w.os) (htp : w'.tape = w.tape) (hout : w'.output = w.output)
    (hag : ∀ b, b < w.heap.size → ¬ T b → w'.heap[b]? = w.heap[b]?) (hT : ∀ b, T b → 1 ≤ sumTo S.nx Fs b)
    (hnx : S.nx ≤ nx') (hρ : ∀ id, id < S.nx → (∀ root, S.hp id = some root → root.real) → ρ' id = ρ id)
    (hj : ∀ j, j < S.nx → Kept C S.hp w ρ Fs hp' w' Fs' (C.env w' ρ' hp' nx' Fs') (Mono (C.env w ρ S.hp S.nx Fs) (C.env w' ρ' hp' nx' Fs')) T j)
    (hn : ∀ j, S.nx ≤ j → (hp' j = none ∧ Fs' j = fz) ∨ (j < nx' ∧ ∃ root, hp' j = some root ∧ (Mono (C.env w ρ S.hp S.nx Fs) (C.env w' ρ' hp' nx' Fs') → RootRel (C.env w' ρ' hp' nx' Fs') j root (Fs' j))))
    (hone : ∀ b, sumTo nx' Fs' b ≤ 1) (hnew : ∀ b, 1 ≤ sumTo nx' Fs' b → 1 ≤ sumTo S.nx Fs b ∨ (w.heap.size ≤ b ∧ b < w'.heap.size)) :
    SRel C ⟨S.sl, hp', nx'⟩ a w' ρ' Fs' ∧ Mono (C.env w ρ S.hp S.nx Fs) (C.env w' ρ' hp' nx' Fs') := by
  have own_lt : ∀ id root, S.hp id = some root → ∀ b, 1 ≤ Fs id b → b < w.heap.size := fun id root hid b hb => (h.mem.mine b (Nat.le_trans hb (sumTo_le Fs b (live_lt h.mem hid)))).1
  have hc : Chg C S.hp S.nx w ρ Fs hp' nx' w' ρ' Fs' := by
    refine ⟨hsz, hos, htp, hout, fun b hb h0 => hag b hb fun ht => by have := hT b ht; omega, hnx, hρ, ?_, ?_, ?_, hone, hnew⟩
    · intro id root' hid hr
      cases hj id hid with
      | same h1 h2 h3 =>
        rw [h1] at hr
        refine ⟨root', hr, ?_⟩
        cases root' with
        | hole e v r i f => exact .inr ⟨rfl, e, v, r, i, f, rfl⟩
        | box t c => exact .inl trivial
        | ghost => exact .inl trivial
        | row e v r =>
          refine .inl (Like.refl _ _ _ _ (fun b cap hq _ => ?_) (fun e v r i f => by simp))
          have hrr := h.mem.roots id _ hr
          rcases hrr with ⟨k1, _⟩ | ⟨b', cap', arr, ty, F', k1, k2, _, _, _, k6⟩
          · simp only [Cx.env] at k1; rw [k1] at hq; cases hq
          · simp only [Cx.env] at k1 k2; rw [k1] at hq; cases hq
            exact hag b (Array.getElem?_eq_some_iff.1 k2).1 (h3 b (by rw [k6]; simp))
      | gone h1 h2 => rw [h1] at hr; cases hr
      | turned root root'' h1 h2 h3 h4 => rw [h2] at hr; cases hr; exact ⟨root, h1, .inl h3⟩
    · intro id hid
      rcases hn id (by omega) with ⟨k, _⟩ | ⟨k, _⟩
      · exact k
      · omega
    · intro id hid
      rcases Nat.lt_or_ge id S.nx with k | k
      · cases hj id k with
        | same h1 h2 h3 => rw [h2]; exact h.mem.dead id (by rw [← h1]; exact hid)
        | gone h1 h2 => exact h2
        | turned root root' h1 h2 h3 h4 => rw [h2] at hid; cases hid
      · rcases hn id k with ⟨_, k⟩ | ⟨_, root, k, _⟩
        · exact k
        · rw [k] at hid; cases hid
  refine ⟨h.change hc fun id root hid => ?_, hc.mono h.mem⟩
  have M := hc.mono h.mem
  rcases Nat.lt_or_ge id S.nx with k | k
  · cases hj id k with
    | same h1 h2 h3 => exact .inl ⟨h1, fun b hb => hag b (own_lt id root (by rw [← h1]; exact hid) b hb) (h3 b hb), h2⟩
    | gone h1 h2 => rw [h1] at hid; cases hid
    | turned root0 root' h1 h2 h3 h4 => rw [h2] at hid; cases hid; exact .inr (h4 M)
  · rcases hn id k with ⟨k, _⟩ | ⟨_, root', k, hr⟩
    · rw [k] at hid; cases hid
    · rw [k] at hid; cases hid; exact .inr (hr M)
theorem SRel.gen {C : Cx} {S : St} {a : Act} {w : World} {ρ : Place} {Fs : Nat → FP} (h : SRel C S a w ρ Fs) (hp' : Nat → Option Root) (nx' : Nat) (w' : World) (ρ' : Place) (Fs' : Nat → FP) (T : Nat → Prop)
    (hsz : w.heap.size ≤ w'.heap.size) (hos : w'.os = w.os) (htp : w'.tape = w.tape) (hout : w'.output = w.output)
    (hag : ∀ b, b < w.heap.size → ¬ T b → w'.heap[b]? = w.heap[b]?) (hT : ∀ b, T b → 1 ≤ sumTo S.nx Fs b)
    (hnx : S.nx ≤ nx') (hρ : ∀ id, id < S.nx → (∀ root, S.hp id = some root → root.real) → ρ' id = ρ id)
    (hj : ∀ j, j < S.nx → Kept C S.hp w ρ Fs hp' w' Fs' (C.env w' ρ' hp' nx' Fs') (Mono (C.env w ρ S.hp S.nx Fs) (C.env w' ρ' hp' nx' Fs')) T j)
    (hn : ∀ j, S.nx ≤ j → (hp' j = none ∧ Fs' j = fz) ∨ (j < nx' ∧ ∃ root, hp' j = some root ∧ (Mono (C.env w ρ S.hp S.nx Fs) (C.env w' ρ' hp' nx' Fs') → RootRel (C.env w' ρ' hp' nx' Fs') j root (Fs' j))))
    (hone : ∀ b, sumTo nx' Fs' b ≤ 1) (hnew : ∀ b, 1 ≤ sumTo nx' Fs' b → 1 ≤ sumTo S.nx Fs b ∨ (w.heap.size ≤ b ∧ b < w'.heap.size)) :
    SRel C ⟨S.sl, hp', nx'⟩ a w' ρ' Fs' := (h.genM hp' nx' w' ρ' Fs' T hsz hos htp hout hag hT hnx hρ hj hn hone hnew).1
/-- One root turned, some used up. -/
theorem SRel.turn {C : Cx} {S : St} {a : Act} {w : World} {ρ : Place} {Fs : Nat → FP} (h : SRel C S a w ρ Fs) (ks : List Nat) (hks : ks.Nodup) (hlive : ∀ k ∈ ks, S.hp k ≠ none) (id : Nat) (hid : id ∉ ks) (root root' : Root) (hr0 : S.hp id = some root) (Fn : FP) (w' : World)
    (hsz : w'.heap.size = w.heap.size) (hos : w'.os = w.os) (htp : w'.tape = w.tape) (hout : w'.output = w.output)
    (hag : ∀ b, b < w.heap.size → Fs id b = 0 → w'.heap[b]? = w.heap[b]?) (hF : ∀ b, Fn b ≤ Fs id b + sumL Fs ks b) (hl : Like w w' (ρ id) root root')
    (hr : Mono (C.env w ρ S.hp S.nx Fs) (C.env w' ρ (upd S.hp (killUp ks ++ [(id, some root')])) S.nx (putF (kilF Fs ks) id Fn)) → RootRel (C.env w' ρ (upd S.hp (killUp ks ++ [(id, some root')])) S.nx (putF (kilF Fs ks) id Fn)) id root' Fn) :
    SRel C ⟨S.sl, upd S.hp (killUp ks ++ [(id, some root')]), S.nx⟩ a w' ρ (putF (kilF Fs ks) id Fn) := by
  have hk : ∀ k ∈ ks, k < S.nx := fun k h' => by
    cases e : S.hp k with
    | none => exact absurd e (hlive k h')
    | some r => exact live_lt h.mem e
  have hidlt := live_lt h.mem hr0
  have hat : ∀ j, upd S.hp (killUp ks ++ [(id, some root')]) j = if j = id then some root' else if j ∈ ks then none else S.hp j := fun j => by
    rw [upd_append, upd_one, upd_kill, kill_at]
  have hsum : ∀ b, sumTo S.nx (putF (kilF Fs ks) id Fn) b + Fs id b + sumL Fs ks b = sumTo S.nx Fs b + Fn b := fun b => by
    have h1 := sumTo_put (kilF Fs ks) Fn b hidlt
    have h2 := sumTo_kil Fs b S.nx ks hks hk
    have h3 : kilF Fs ks id = Fs id := by simp [kilF, hid]
    rw [h3] at h1
    omega
  refine h.gen _ _ w' ρ _ (fun b => 1 ≤ Fs id b) (by omega) hos htp hout (fun b hb ht => hag b hb (by omega)) (fun b ht => Nat.le_trans ht (sumTo_le Fs b hidlt)) (Nat.le_refl _) (fun _ _ _ => rfl) ?_ ?_ ?_ ?_
  · intro j hj
    by_cases e : j = id
    · subst e
      exact .turned root root' hr0 (by rw [hat, if_pos rfl]) hl (fun M => by rw [putF_self]; exact hr M)
    · by_cases e2 : j ∈ ks
      · exact .gone (by rw [hat, if_neg e, if_pos e2]) (by rw [putF_ne _ _ e]; simp [kilF, e2])
      · refine .same (by rw [hat, if_neg e, if_neg e2]) (by rw [putF_ne _ _ e]; simp [kilF, e2]) (fun b h1 h2 => ?_)
        have := sumTo_two Fs b hj hidlt e
        have := h.mem.one b
        omega
  · intro j hj
    refine .inl ⟨by rw [hat, if_neg (by omega)]; split; rfl; exact h.mem.fresh j hj, ?_⟩
    rw [putF_ne _ _ (by omega)]
    by_cases e2 : j ∈ ks
    · simp [kilF, e2]
    · simp [kilF, e2]; exact h.mem.dead j (h.mem.fresh j hj)
  · intro b; have := hsum b; have := hF b; have := h.mem.one b; omega
  · intro b hb; have := hsum b; have := hF b; left; omega
theorem sumL_out (Fs : Nat → FP) (b n : Nat) {ks : List Nat} (hd : ks.Nodup) (hk : ∀ k ∈ ks, k < n) {j : Nat} (hj : j < n) (hjk : j ∉ ks) : Fs j b + sumL Fs ks b ≤ sumTo n Fs b := by
  have h1 := sumTo_kil Fs b n ks hd hk
  have h2 := sumTo_le (kilF Fs ks) b hj
  have h3 : kilF Fs ks j = Fs j := by simp [kilF, hjk]
  rw [h3] at h2
  omega
theorem sumL_le (Fs : Nat → FP) (b n : Nat) {ks : List Nat} (hd : ks.Nodup) (hk : ∀ k ∈ ks, k < n) : sumL Fs ks b ≤ sumTo n Fs b := by
  have h1 := sumTo_kil Fs b n ks hd hk
  omega
theorem sumL_mem (Fs : Nat → FP) (b : Nat) : ∀ {ks : List Nat} {k : Nat}, k ∈ ks → Fs k b ≤ sumL Fs ks b
  | k' :: ks, k, h => by
    rcases List.mem_cons.1 h with rfl | h
    · simp [sumL]
    · have := sumL_mem Fs b h; simp [sumL]; omega
/-- A kept name gets its root; some roots are used up. -/
theorem SRel.make {C : Cx} {S : St} {a : Act} {w : World} {ρ : Place} {Fs : Nat → FP} (h : SRel C S a w ρ Fs) {id : Nat} (hg : S.hp id = some .ghost) (ks : List Nat) (hks : ks.Nodup) (hlive : ∀ k ∈ ks, ∃ r, S.hp k = some r ∧ r.real) (root : Root) (q : Option (Nat × Nat)) (Fn : FP) (w' : World)
    (hsz : w.heap.size ≤ w'.heap.size) (hos : w'.os = w.os) (htp : w'.tape = w.tape) (hout : w'.output = w.output)
    (hag : ∀ b, b < w.heap.size → sumL Fs ks b = 0 → w'.heap[b]? = w.heap[b]?) (hF : ∀ b, Fn b ≤ sumL Fs ks b + (if w.heap.size ≤ b ∧ b < w'.heap.size then 1 else 0))
    (hr : Mono (C.env w ρ S.hp S.nx Fs) (C.env w' (newρ ρ id q) (upd S.hp (killUp ks ++ [(id, some root)])) S.nx (putF (kilF Fs ks) id Fn)) → RootRel (C.env w' (newρ ρ id q) (upd S.hp (killUp ks ++ [(id, some root)])) S.nx (putF (kilF Fs ks) id Fn)) id root Fn) :
    SRel C ⟨S.sl, upd S.hp (killUp ks ++ [(id, some root)]), S.nx⟩ a w' (newρ ρ id q) (putF (kilF Fs ks) id Fn) := by
  have hid : id ∉ ks := fun h' => by
    obtain ⟨r, h1, h2⟩ := hlive id h'
    rw [hg] at h1; cases h1; exact h2
  have hk : ∀ k ∈ ks, k < S.nx := fun k h' => by
    obtain ⟨r, h1, _⟩ := hlive k h'
    exact live_lt h.mem h1
  have hidlt := live_lt h.mem hg
  have hg0 : Fs id = fz := h.mem.roots id _ hg
  have hat : ∀ j, upd S.hp (killUp ks ++ [(id, some root)]) j = if j = id then some root else if j ∈ ks then none else S.hp j := fun j => by
    rw [upd_append, upd_one, upd_kill, kill_at]
  have hsum : ∀ b, sumTo S.nx (putF (kilF Fs ks) id Fn) b + sumL Fs ks b = sumTo S.nx Fs b + Fn b := fun b => by
    have h1 := sumTo_put (kilF Fs ks) Fn b hidlt
    have h2 := sumTo_kil Fs b S.nx ks hks hk
    have h3 : kilF Fs ks id = Fs id := by simp [kilF, hid]
    rw [h3, hg0] at h1
    simp at h1
    omega
  have hnew : ∀ b, 1 ≤ sumTo S.nx Fs b → b < w.heap.size := fun b hb => (h.mem.mine b hb).1
  refine h.gen _ _ w' _ _ (fun b => 1 ≤ sumL Fs ks b) hsz hos htp hout (fun b hb ht => hag b hb (by omega)) (fun b ht => Nat.le_trans ht (sumL_le Fs b S.nx hks hk)) (Nat.le_refl _) (fun j hj hre => newρ_ne _ _ ?_) ?_ ?_ ?_ ?_
  · rintro rfl
    exact hre _ hg
  · intro j hj
    by_cases e : j = id
    · subst e
      exact .turned .ghost root hg (by rw [hat, if_pos rfl]) trivial (fun M => by rw [putF_self]; exact hr M)
    · by_cases e2 : j ∈ ks
      · exact .gone (by rw [hat, if_neg e, if_pos e2]) (by rw [putF_ne _ _ e]; simp [kilF, e2])
      · refine .same (by rw [hat, if_neg e, if_neg e2]) (by rw [putF_ne _ _ e]; simp [kilF, e2]) (fun b h1 h2 => ?_)
        have := sumL_out Fs b S.nx hks hk hj e2
        have := h.mem.one b
        omega
  · intro j hj
    refine .inl ⟨by rw [hat, if_neg (by omega)]; split; rfl; exact h.mem.fresh j hj, ?_⟩
    rw [putF_ne _ _ (by omega)]
    by_cases e2 : j ∈ ks
    · simp [kilF, e2]
    · simp [kilF, e2]; exact h.mem.dead j (h.mem.fresh j hj)
  · intro b
    have h1 := hsum b
    have h2 := hF b
    have h3 := h.mem.one b
    have h4 := sumL_le Fs b S.nx hks hk
    split at h2
    · rename_i hb
      have : ¬ 1 ≤ sumTo S.nx Fs b := fun h' => by have := hnew b h'; omega
      omega
    · omega
  · intro b hb
    have h1 := hsum b
    have h2 := hF b
    have h4 := sumL_le Fs b S.nx hks hk
    split at h2
    · rename_i hb; exact .inr hb
    · left; omega
/-- Names kept. -/
def ghosts (hp : Nat → Option Root) (m N : Nat) : Nat → Option Root := fun j => match hp j with
  | some r => some r
  | none => bif Nat.ble m j && Nat.blt j N then some .ghost else none
theorem SRel.reserve {C : Cx} {S : St} {a : Act} {w : World} {ρ : Place} {Fs : Nat → FP} (h : SRel C S a w ρ Fs) {N : Nat} (hN : S.nx ≤ N) : SRel C ⟨S.sl, ghosts S.hp S.nx N, N⟩ a w ρ Fs := by
  have hsum : ∀ b, sumTo N Fs b = sumTo S.nx Fs b := fun b => sumTo_more b hN fun j h1 _ => by rw [h.mem.dead j (h.mem.fresh j h1)]; rfl
  refine h.gen _ _ w ρ _ (fun _ => False) (Nat.le_refl _) rfl rfl rfl (fun _ _ _ => rfl) (fun _ h => h.elim) hN (fun _ _ _ => rfl) (fun j hj => .same ?_ rfl (fun _ _ h => h)) (fun j hj => ?_) (fun b => by rw [hsum]; exact h.mem.one b) (fun b hb => .inl (by rw [hsum] at hb; exact hb))
  · have : Nat.ble S.nx j = false := Bool.eq_false_iff.2 (fun h' => by have := Nat.le_of_ble_eq_true h'; omega)
    simp only [ghosts, this, Bool.false_and, cond_false]
    cases S.hp j <;> rfl
  · have hd := h.mem.fresh j hj
    by_cases e : j < N
    · refine .inr ⟨e, .ghost, ?_, fun _ => h.mem.dead j hd⟩
      have h1 : Nat.ble S.nx j = true := Nat.ble_eq_true_of_le hj
      have h2 : Nat.blt j N = true := by simp [Nat.blt_eq]; exact e
      simp only [ghosts, hd, h1, h2]; rfl
    · refine .inl ⟨?_, h.mem.dead j hd⟩
      have h2 : Nat.blt j N = false := Bool.eq_false_iff.2 (fun h3 => by have := Nat.le_of_ble_eq_true h3; omega)
      simp only [ghosts, hd, h2, Bool.and_false]; rfl
/-- Names given up. -/
theorem SRel.unghost {C : Cx} {S : St} {a : Act} {w : World} {ρ : Place} {Fs : Nat → FP} (h : SRel C S a w ρ Fs) (hp' : Nat → Option Root) (hh : ∀ j, hp' j = S.hp j ∨ (S.hp j = some .ghost ∧ hp' j = none)) : SRel C ⟨S.sl, hp', S.nx⟩ a w ρ Fs := by
  refine h.gen _ _ w ρ _ (fun _ => False) (Nat.le_refl _) rfl rfl rfl (fun _ _ _ => rfl) (fun _ h => h.elim) (Nat.le_refl _) (fun _ _ _ => rfl) (fun j hj => ?_) (fun j hj => ?_) h.mem.one (fun b hb => .inl hb)
  · rcases hh j with e | ⟨e1, e2⟩
    · exact .same e rfl (fun _ _ h => h)
    · exact .gone e2 (h.mem.roots j _ e1)
  · have hd := h.mem.fresh j hj
    rcases hh j with e | ⟨e1, e2⟩
    · exact .inl ⟨by rw [e]; exact hd, h.mem.dead j hd⟩
    · rw [hd] at e1; cases e1
end Go.Proofs.Ytfkejiljabmaaaa.V
