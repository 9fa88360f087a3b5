/- Operations with more roots than they read: the same. Conditions: none. -/
import Derived.Test.YtfkejiljabmaaaaVOpO
set_option linter.unusedVariables false
set_option linter.unusedSimpArgs false
namespace Go.Proofs.Ytfkejiljabmaaaa.V
open Go

section
variable {tt : TT} {hp hp' : Nat → Option Root} {n : Nat}
theorem elemRec_sub : ∀ (sg : List Bool) (xs : List LV) {hp hp' : Nat → Option Root} (hs : Sub hp hp') {r : Bool × List Leaf × List Nat}, elemRec hp sg xs = some r → elemRec hp' sg xs = some r
  | [], [], _, _, _, _, h => h
  | [], _ :: _, _, _, _, _, h => by simp [elemRec] at h
  | false :: sg, [], _, _, _, _, h => by simp [elemRec] at h
  | true :: sg, [], _, _, _, _, h => by simp [elemRec] at h
  | false :: sg, x :: xs, hp, hp', hs, r, h => by
    cases x with
    | i k z =>
      cases k with
      | i64 =>
        simp only [elemRec] at h ⊢
        split at h
        · rename_i hq; rw [elemRec_sub sg xs hs hq]; exact h
        · cases h
      | _ => simp [elemRec] at h
    | _ => simp [elemRec] at h
  | true :: sg, x :: xs, hp, hp', hs, r, h => by
    simp only [elemRec] at h ⊢
    split at h
    · rename_i hq
      rw [elemSl_sub hs hq]
      split at h
      · rename_i hq2; simp only [elemRec_sub sg xs (kill_sub hs _) hq2]; exact h
      · cases h
    · cases h
theorem rowOf_sub : ∀ (xs : List AV) {hp hp' : Nat → Option Root} (hs : Sub hp hp') (r0 : Row) {r : Row × List Nat}, rowOf hp r0 xs = some r → rowOf hp' r0 xs = some r
  | [], _, _, _, r0, _, h => by cases r0 <;> simpa [rowOf] using h
  | x :: xs, hp, hp', hs, r0, r, h => by
    unfold rowOf at h ⊢
    split at h
    · rename_i heq; cases heq
    · rename_i k _ k' z xs' heq
      cases heq
      by_cases hk : k = k'
      · subst hk
        simp only [decide_true, cond_true] at h ⊢
        split at h
        · rename_i hq; rw [rowOf_sub xs hs _ hq]; exact h
        · cases h
      · simp [hk] at h
    · rename_i heq
      cases heq
      split at h
      · rename_i hq; rw [rowOf_sub xs hs _ hq]; exact h
      · cases h
    · rename_i heq
      cases heq
      split at h
      · rename_i hq; rw [rowOf_sub xs hs _ hq]; exact h
      · cases h
    · rename_i heq
      cases heq
      split at h
      · rename_i hq
        rw [elemSl_sub hs hq]
        split at h
        · rename_i hq2; simp only [rowOf_sub xs (kill_sub hs _) _ hq2]; exact h
        · cases h
      · cases h
    · rename_i heq
      cases heq
      split at h
      · rename_i hq
        rw [elemRec_sub _ _ hs hq]
        split at h
        · rename_i hq2; simp only [rowOf_sub xs (kill_sub hs _) _ hq2]; exact h
        · cases h
      · cases h
    · cases h
theorem fillParts_sub (hs : Sub hp hp') (fs : List (Nat × Nat)) : ∀ (ps : List (Nat × AV)) (zero : List LV) {xs : List LV}, fillParts tt hp fs zero ps = some xs → fillParts tt hp' fs zero ps = some xs
  | [], zero, xs, h => h
  | (i, x) :: ps, zero, xs, h => by
    simp only [fillParts] at h ⊢
    split at h
    · rename_i h1 h2
      simp only [h1, aggCells_sub hs h2]
      split at h
      · rename_i h3
        try simp only [h3]
        obtain ⟨h4, h5⟩ := bif_some h
        rw [h4]
        exact fillParts_sub hs fs ps _ h5
      · cases h
    · cases h
theorem storeOwn_sub (hs : Sub hp hp') (ag : Bool) (i f : Nat) (x : AV) (r : Row) {y : Row × List Nat × Bool} (h : storeOwn hp ag i f x r = some y) : storeOwn hp' ag i f x r = some y := by
  cases r with
  | ints k l => exact h
  | bools l => exact h
  | strs l => exact h
  | rows o l =>
    simp only [storeOwn] at h ⊢
    split at h
    · split at h
      · rename_i hq; simp only [elemSl_sub hs hq]; exact h
      · cases h
    · cases h
  | recs sg o l =>
    simp only [storeOwn] at h ⊢
    split at h
    · obtain ⟨h1, h2⟩ := bif_some h
      subst h1
      simp only [cond_true]
      split at h2
      · rename_i hq; rw [elemRec_sub _ _ hs hq]; exact h2
      · cases h2
    · exact h
    · cases h
theorem added_sub (hs : Sub hp hp') {r0 : Row} {x : LV} {y : Row × List Nat × List Nat} (h : added hp r0 x = some y) : added hp' r0 x = some y := by
  obtain ⟨y, ks, rc⟩ := y
  refine added_congr h fun j hj => ?_
  obtain ⟨e, v, r, hl⟩ := added_live h j hj
  rw [hl, hs _ _ hl]

theorem evBox_sub (hs : Sub hp hp') {t : Nat} {x : AV} {E : Eff} (h : evBox tt hp n t x some = some E) : evBox tt hp' n t x some = some E := by
  unfold evBox at h ⊢
  split at h
  · cases h
  · rename_i hn hq
    split at h
    · rename_i h1
      rw [aggCells_sub hs h1]
      first
        | exact h
        | (split <;> simp_all)
    · cases h
  · cases h
theorem evBuild_sub (hs : Sub hp hp') {t : Nat} {ps : List (Nat × AV)} {E : Eff} (h : evBuild tt hp n t ps some = some E) : evBuild tt hp' n t ps some = some E := by
  unfold evBuild at h ⊢
  split at h
  · rename_i hq
    try simp only [hq]
    split at h
    · rename_i h1; rw [fillParts_sub hs _ _ _ h1]; exact h
    · cases h
  · rename_i hq
    try simp only [hq]
    exact h
  · cases h
theorem evBuildSlice_sub (hs : Sub hp hp') {t len : Nat} {ps : List (Nat × AV)} {E : Eff} (h : evBuildSlice tt hp n t len ps some = some E) : evBuildSlice tt hp' n t len ps some = some E := by
  unfold evBuildSlice at h ⊢
  split at h
  · rename_i hq
    try simp only [hq]
    split at h
    · rename_i h1 h2
      try simp only [h1, h2]
      obtain ⟨h3, h4⟩ := bif_some h
      rw [h3]
      simp only [cond_true]
      split at h4
      · rename_i h5; rw [rowOf_sub _ hs _ h5]; exact h4
      · cases h4
    · cases h
  · cases h
theorem evLoad_sub (hs : Sub hp hp') {t : Nat} {p : AV} {E : Eff} (h : evLoad tt hp n t p some = some E) : evLoad tt hp' n t p some = some E := by
  unfold evLoad at h ⊢
  split at h
  · split at h
    · rename_i h1; simp only [hs _ _ h1]; exact h
    · cases h
  · split at h
    · rename_i h1; simp only [hs _ _ h1]; exact h
    · cases h
  · exact h
  · split at h
    · rename_i h1; simp only [hs _ _ h1]; exact h
    · cases h
  · cases h
theorem evStore_sub (hs : Sub hp hp') {t : Nat} {p x : AV} {E : Eff} (h : evStore tt hp n t p x some = some E) : evStore tt hp' n t p x some = some E := by
  unfold evStore at h ⊢
  split at h
  · split at h
    · rename_i h1 h2; simp only [hs _ _ h1, aggCells_sub hs h2]; exact h
    · cases h
  · split at h
    · rename_i hq
      try simp only [hq]
      split at h
      · rename_i h1
        simp only [hs _ _ h1]
        obtain ⟨h2, h3⟩ := bif_some h
        rw [h2]
        simp only [cond_true]
        split at h3
        · rename_i h4; simp only [storeOwn_sub hs _ _ _ _ _ h4]; exact h3
        · cases h3
      · rename_i h1
        simp only [hs _ _ h1]
        obtain ⟨h2, h3⟩ := bif_some h
        rw [h2]
        simp only [cond_true]
        obtain ⟨h4, h5⟩ := chk_some h3
        rw [h4]
        simp only [chk, cond_true]
        split at h5
        · split at h5
          · rename_i h6; simp only [elemSl_sub hs h6]; exact h5
          · cases h5
        · cases h5
      · cases h
    · cases h
  · split at h
    · rename_i hq
      try simp only [hq]
      split at h
      · rename_i h1 h3
        simp only [hs _ _ h1, h3]
        exact h
      · cases h
    · cases h
  · split at h
    · rename_i h1
      simp only [hs _ _ h1]
      exact h
    · cases h
  · cases h
theorem asI_of {x : AV} {F F' : Int → Option Eff} {E : Eff} (h : asI x F = some E) (hh : ∀ i, F i = some E → F' i = some E) : asI x F' = some E := by
  obtain ⟨k, i, rfl, h⟩ := asI_some h
  exact hh i h
theorem chk_of {p : Bool} {x x' : Option Eff} {E : Eff} (h : chk p x = some E) (hh : x = some E → x' = some E) : chk p x' = some E := by
  obtain ⟨rfl, h⟩ := chk_some h
  exact hh h
theorem evIndexAddr_sub (hs : Sub hp hp') {t : Nat} {x ix : AV} {E : Eff} (h : evIndexAddr tt hp n t x ix some = some E) : evIndexAddr tt hp' n t x ix some = some E := by
  unfold evIndexAddr at h ⊢
  refine asI_of h fun i h => ?_
  split at h
  · split at h
    · rename_i h1; simp only [rowAt_sub hs h1]; exact h
    · cases h
  · split at h
    · rename_i h1; simp only [rowAt_sub hs h1]; exact h
    · cases h
  · exact h
  · split at h
    · rename_i h1; simp only [lenOf_sub hs h1]; exact h
    · cases h
  · split at h
    · rename_i h1 h2; simp only [h1, rowAt_sub hs h2]; exact h
    · cases h
  · cases h
theorem evFieldAddr_sub (hs : Sub hp hp') {t f : Nat} {x : AV} {E : Eff} (h : evFieldAddr tt hp n t x f some = some E) : evFieldAddr tt hp' n t x f some = some E := by
  unfold evFieldAddr at h ⊢
  split at h
  · rename_i hq
    try simp only [hq]
    split at h
    · rename_i hq2
      try simp only [hq2]
      split at h
      · exact h
      · split at h
        · rename_i h1; simp only [rowAt_sub hs h1]; exact h
        · cases h
      · exact h
      · cases h
    · cases h
  · cases h
theorem evSlice_sub (hs : Sub hp hp') {t : Nat} {x : AV} {lo hi : Option AV} {E : Eff} (h : evSlice tt hp n t x lo hi some = some E) : evSlice tt hp' n t x lo hi some = some E := by
  unfold evSlice at h ⊢
  split at h
  · exact h
  · split at h
    · rename_i h1; simp only [rowAt_sub hs h1]; exact h
    · cases h
  · exact h
  · cases h
theorem evConvert_sub (hs : Sub hp hp') {s d : Nat} {x : AV} {E : Eff} (h : evConvert tt hp n s d x some = some E) : evConvert tt hp' n s d x some = some E := by
  unfold evConvert at h ⊢
  obtain ⟨h1, h⟩ := bif_some h
  rw [h1]
  simp only [cond_true]
  split at h
  · exact h
  · exact h
  · split at h
    · rename_i h2 h3
      simp only [h2, viewRow_sub hs h3]
      exact h
    · cases h
  · cases h
theorem evAppend_sub (hs : Sub hp hp') {t tx : Nat} {s x : AV} {E : Eff} (h : evAppend tt hp n t tx s x some = some E) : evAppend tt hp' n t tx s x some = some E := by
  unfold evAppend at h ⊢
  split at h
  · rename_i hq
    try simp only [hq]
    split at h
    · rename_i hq2
      try simp only [hq2]
      split at h
      · rename_i h1
        rw [added_sub hs h1]
        simp only []
        obtain ⟨h2, h3⟩ := bif_some h
        rw [h2]
        simp only [cond_true]
        split at h3
        · exact h3
        · split at h3
          · rename_i h4; simp only [hs _ _ h4]; exact h3
          · cases h3
        · split at h3
          · rename_i h4; simp only [hs _ _ h4]; exact h3
          · cases h3
        · split at h3
          · rename_i h4; simp only [hs _ _ h4]; exact h3
          · cases h3
        · cases h3
      · cases h
    · cases h
  · cases h
theorem evCopy_sub (hs : Sub hp hp') {t : Nat} {d s : AV} {E : Eff} (h : evCopy tt hp n t d s some = some E) : evCopy tt hp' n t d s some = some E := by
  unfold evCopy at h ⊢
  obtain ⟨h1, h⟩ := bif_some h
  rw [h1]
  simp only [cond_true]
  split at h
  · split at h
    · rename_i h2; simp only [hs _ _ h2]; exact h
    · rename_i h2; simp only [hs _ _ h2]; exact h
    · cases h
  · cases h
theorem evBuiltin_sub {G : Glob Eff} (hs : Sub hp hp') {b : Builtin} {ts : List Nat} {xs : List AV} {E : Eff} (h : evBuiltin G hp n b ts xs some = some E) : evBuiltin G hp' n b ts xs some = some E := by
  unfold evBuiltin at h ⊢
  split at h
  · exact h
  · split at h
    · rename_i h1 h2; simp only [h1, lenOf_sub hs h2]; exact h
    · cases h
  · exact evAppend_sub hs h
  · exact evCopy_sub hs h
  · exact h
  · exact h
  · cases h
theorem evOp_sub {G : Glob Eff} (hs : Sub hp hp') {o : Op} {sl : Nat → AV} (hf : isFn o = false) {E : Eff} (h : evOp G o sl hp n some = some E) : evOp G o sl hp' n some = some E := by
  cases o with
  | move x => exact h
  | assign x => exact h
  | pick c x y => exact h
  | alloc t => exact h
  | box t x => exact evBox_sub hs h
  | build t ps => exact evBuild_sub hs h
  | buildSlice t len ps => exact evBuildSlice_sub hs h
  | load t p => exact evLoad_sub hs h
  | store t p x => exact evStore_sub hs h
  | nilCheck x => exact h
  | binOp op t x y u => exact h
  | unOp op t x => exact h
  | convert s d x => exact evConvert_sub hs h
  | makeSlice t l c => exact h
  | slice t x lo hi mx =>
    cases mx with
    | none => exact evSlice_sub hs h
    | some m => exact h
  | fieldAddr t x f => exact evFieldAddr_sub hs h
  | indexAddr t x i => exact evIndexAddr_sub hs h
  | index t x i => exact h
  | extract x j => exact h
  | call c =>
    simp only [evOp] at h ⊢
    simp only [isFn] at hf
    split at h
    · exact evBuiltin_sub hs h
    · rename_i f hc; rw [hc] at hf; cases hf
    · exact h
  | _ => exact h
end
end Go.Proofs.Ytfkejiljabmaaaa.V
