/- Operations one after the other: the evaluator's continuation may be taken off. Conditions: none. -/
import Derived.Test.YtfkejiljabmaaaaVOpN
set_option linter.unusedVariables false
set_option linter.unusedSimpArgs false
namespace Go.Proofs.Ytfkejiljabmaaaa.V
open Go

section
variable {R : Type} {tt : TT} {hp : Nat → Option Root} {n : Nat} (K : Eff → Option R)
theorem cond_bind {A B : Type} (p : Bool) (x : Option A) (F : A → Option B) : (bif p then x else none).bind F = bif p then x.bind F else none := by cases p <;> rfl
theorem cond_bind' {A B : Type} (p : Bool) (x : Option A) (F : A → Option B) : (bif p then none else x).bind F = bif p then none else x.bind F := by cases p <;> rfl
theorem chk_bind' {A B : Type} (p : Bool) (x : Option A) (F : A → Option B) : (chk p x).bind F = chk p (x.bind F) := by cases p <;> rfl
theorem asI_bind {A B : Type} (x : AV) (G : Int → Option A) (F : A → Option B) : (asI x G).bind F = asI x fun i => (G i).bind F := by
  unfold asI; split <;> rfl
theorem optI_bind {A B : Type} (x : Option AV) (d : Int) (G : Int → Option A) (F : A → Option B) : (optI x d G).bind F = optI x d fun i => (G i).bind F := by
  unfold optI; split
  · rfl
  · exact asI_bind _ _ _
theorem ret1_bind (v : AV) : (ret1 n v some).bind K = ret1 n v K := rfl
theorem evAlloc_bind (t : Nat) : evAlloc tt n t K = (evAlloc tt n t some).bind K := by
  unfold evAlloc
  repeat' (first | rfl | split | (simp only [cond_bind, cond_bind', chk_bind', asI_bind, optI_bind, ret1_bind, Option.bind_some]; done) | simp only [cond_bind, cond_bind', chk_bind', asI_bind, optI_bind, ret1_bind, Option.bind_some])
theorem evBox_bind (t : Nat) (x : AV) : evBox tt hp n t x K = (evBox tt hp n t x some).bind K := by
  unfold evBox
  repeat' (first | rfl | split | (simp only [cond_bind, cond_bind', chk_bind', asI_bind, optI_bind, ret1_bind, Option.bind_some]; done) | simp only [cond_bind, cond_bind', chk_bind', asI_bind, optI_bind, ret1_bind, Option.bind_some])
theorem evBuild_bind (t : Nat) (ps : List (Nat × AV)) : evBuild tt hp n t ps K = (evBuild tt hp n t ps some).bind K := by
  unfold evBuild
  repeat' (first | rfl | split | (simp only [cond_bind, cond_bind', chk_bind', asI_bind, optI_bind, ret1_bind, Option.bind_some]; done) | simp only [cond_bind, cond_bind', chk_bind', asI_bind, optI_bind, ret1_bind, Option.bind_some])
theorem evBuildSlice_bind (t len : Nat) (ps : List (Nat × AV)) : evBuildSlice tt hp n t len ps K = (evBuildSlice tt hp n t len ps some).bind K := by
  unfold evBuildSlice
  split
  · split
    · simp only [cond_bind]
      congr 1
      split <;> rfl
    · rfl
  · rfl
theorem evLoad_bind (t : Nat) (p : AV) : evLoad tt hp n t p K = (evLoad tt hp n t p some).bind K := by
  unfold evLoad
  split
  · split
    · cases isStruct tt t
      · simp only [cond_false, cond_bind]
        congr 1
        split <;> rfl
      · simp only [cond_true, cond_bind]; rfl
    · rfl
  · split
    · simp only [cond_bind]; rfl
    · rfl
  · simp only [cond_bind]; rfl
  · split
    · simp only [cond_bind]; rfl
    · rfl
  · rfl
theorem evIndexAddr_bind (t : Nat) (x ix : AV) : evIndexAddr tt hp n t x ix K = (evIndexAddr tt hp n t x ix some).bind K := by
  unfold evIndexAddr
  rw [asI_bind]
  congr 1
  funext i
  split
  · split
    · simp only [cond_bind, chk_bind']; rfl
    · rfl
  · split
    · simp only [cond_bind, chk_bind']; rfl
    · rfl
  · simp only [cond_bind, chk_bind']; rfl
  · split
    · simp only [cond_bind, chk_bind']; rfl
    · rfl
  · split
    · simp only [cond_bind, chk_bind']; rfl
    · rfl
  · rfl
theorem evFieldAddr_bind (t : Nat) (x : AV) (f : Nat) : evFieldAddr tt hp n t x f K = (evFieldAddr tt hp n t x f some).bind K := by
  unfold evFieldAddr
  repeat' (first | rfl | split)
theorem evIndex_bind (t : Nat) (x ix : AV) : evIndex tt n t x ix K = (evIndex tt n t x ix some).bind K := by
  unfold evIndex
  split
  · split
    · simp only [asI_bind, chk_bind']; rfl
    · rfl
  · rfl
theorem evConvert_bind (s d : Nat) (x : AV) : evConvert tt hp n s d x K = (evConvert tt hp n s d x some).bind K := by
  unfold evConvert
  simp only [cond_bind]
  congr 1
  split
  · split <;> rfl
  · split <;> rfl
  · split
    · split <;> rfl
    · rfl
  · rfl
theorem evMakeSlice_bind (t : Nat) (l c : Operand) (x : AV) : evMakeSlice tt n t l c x K = (evMakeSlice tt n t l c x some).bind K := by
  unfold evMakeSlice
  simp only [cond_bind]
  congr 1
  split
  · split
    · simp only [asI_bind, chk_bind']; rfl
    · rfl
  · rfl
theorem appFin_bind (e : Nat) (r0 base y : Row) (ks : List Nat) (up : List (Nat × Option Root)) (rc : List Nat) : appFin tt e r0 base y ks up n rc K = (appFin tt e r0 base y ks up n rc some).bind K := by
  unfold appFin
  split
  · simp only [cond_bind, chk_bind']; rfl
  · rfl
theorem evAppend_bind (t tx : Nat) (s x : AV) : evAppend tt hp n t tx s x K = (evAppend tt hp n t tx s x some).bind K := by
  unfold evAppend
  split
  · split
    · split
      · simp only [cond_bind]
        congr 1
        split
        · exact appFin_bind K ..
        · split
          · simp only [cond_bind']; congr 1; exact appFin_bind K ..
          · rfl
        · split
          · simp only [cond_bind', cond_bind]; congr 2; exact appFin_bind K ..
          · rfl
        · split
          · simp only [cond_bind', cond_bind]; congr 2; exact appFin_bind K ..
          · rfl
        · rfl
      · rfl
    · rfl
  · rfl
theorem evCopy_bind (t : Nat) (d s : AV) : evCopy tt hp n t d s K = (evCopy tt hp n t d s some).bind K := by
  unfold evCopy
  simp only [cond_bind]
  congr 1
  split
  · split
    · simp only [cond_bind]; rfl
    · simp only [cond_bind, chk_bind']; rfl
    · rfl
  · rfl
theorem evSlice_bind (t : Nat) (x : AV) (lo hi : Option AV) : evSlice tt hp n t x lo hi K = (evSlice tt hp n t x lo hi some).bind K := by
  unfold evSlice
  split
  · split
    · simp only [optI_bind, chk_bind']; rfl
    · rfl
  · split
    · simp only [cond_bind]
      congr 1
      split
      · rfl
      · simp only [optI_bind, chk_bind']; rfl
    · rfl
  · simp only [cond_bind]
    congr 1
    split
    · rfl
    · simp only [asI_bind, chk_bind']; rfl
    · simp only [asI_bind, chk_bind']; rfl
    · simp only [asI_bind, chk_bind']; rfl
  · rfl
theorem evStore_bind (t : Nat) (p x : AV) : evStore tt hp n t p x K = (evStore tt hp n t p x some).bind K := by
  unfold evStore
  split
  · split
    · simp only [cond_bind]; rfl
    · rfl
  · split
    · split
      · simp only [cond_bind]
        congr 1
        split
        · simp only [cond_bind']; rfl
        · rfl
      · simp only [cond_bind, chk_bind']
        congr 2
        split
        · split
          · simp only [cond_bind']; rfl
          · rfl
        · rfl
      · rfl
    · rfl
  · split
    · split
      · simp only [cond_bind]
        congr 1
        split <;> rfl
      · rfl
    · rfl
  · split
    · simp only [cond_bind]
      congr 1
      split <;> rfl
    · rfl
  · rfl
/-- The same, without what functions do. -/
def Glob.eff {R : Type} (G : Glob R) : Glob Eff := ⟨G.tt, fun _ _ _ => none, G.sig, G.nt⟩
theorem evBuiltin_bind (G : Glob R) (b : Builtin) (ts : List Nat) (xs : List AV) : evBuiltin G hp n b ts xs K = (evBuiltin G.eff hp n b ts xs some).bind K := by
  unfold evBuiltin
  split
  · simp only [Glob.eff]; split <;> rfl
  · simp only [Glob.eff]; split <;> rfl
  · exact evAppend_bind K ..
  · exact evCopy_bind K ..
  · simp only [cond_bind]; rfl
  · simp only [cond_bind]; rfl
  · rfl
theorem evOp_bind (G : Glob R) (o : Op) (sl : Nat → AV) (hf : isFn o = false) : evOp G o sl hp n K = (evOp G.eff o sl hp n some).bind K := by
  cases o with
  | move x => rfl
  | assign x => rfl
  | pick c x y =>
    simp only [evOp, Glob.eff]
    split
    · split <;> rfl
    · rfl
  | alloc t => exact evAlloc_bind K t
  | box t x => exact evBox_bind K t _
  | build t ps => exact evBuild_bind K t _
  | buildSlice t len ps => exact evBuildSlice_bind K t len _
  | load t p => exact evLoad_bind K t _
  | store t p x => exact evStore_bind K t _ _
  | nilCheck x => simp only [evOp, Glob.eff]; split <;> rfl
  | binOp op t x y u =>
    simp only [evOp, Glob.eff]
    split
    · simp only [cond_bind]
      congr 1
      rw [binOp_bind, binOp_bind (R := Eff)]
      cases binOp op _ _ some <;> rfl
    · rfl
  | unOp op t x =>
    simp only [evOp, Glob.eff]
    split
    · rw [unOp_bind, unOp_bind (R := Eff)]
      cases unOp op _ some <;> rfl
    · rfl
  | convert s d x => exact evConvert_bind K s d _
  | makeSlice t l c => exact evMakeSlice_bind K t l c _
  | slice t x lo hi mx =>
    cases mx with
    | none => exact evSlice_bind K t _ _ _
    | some m => rfl
  | fieldAddr t x f => exact evFieldAddr_bind K t _ f
  | indexAddr t x i => exact evIndexAddr_bind K t _ _
  | index t x i => exact evIndex_bind K t _ _
  | extract x j =>
    simp only [evOp, Glob.eff]
    split
    · split <;> rfl
    · rfl
  | call c =>
    simp only [evOp, Glob.eff]
    simp only [isFn] at hf
    split
    · exact evBuiltin_bind K ..
    · rename_i f hc; rw [hc] at hf; cases hf
    · rfl
  | _ => rfl
/-! ### More roots: the same -/
theorem rowAt_sub {hp' : Nat → Option Root} (hs : Sub hp hp') {id : Nat} {r : Row} (h : rowAt? hp id = some r) : rowAt? hp' id = some r := by
  unfold rowAt? at h ⊢
  split at h
  · rename_i hq; rw [hs _ _ hq]; exact h
  · rename_i hq; rw [hs _ _ hq]; exact h
  · cases h
theorem viewRow_sub {hp' : Nat → Option Root} (hs : Sub hp hp') {x : LV} {r : Row × List Nat} (h : viewRow hp x = some r) : viewRow hp' x = some r := by
  cases x with
  | val p r => exact h
  | own id =>
    simp only [viewRow] at h ⊢
    split at h
    · rename_i hq; rw [hs _ _ hq]; exact h
    · cases h
  | sub id lo hi =>
    simp only [viewRow] at h ⊢
    split at h
    · rename_i hq; rw [hs _ _ hq]; exact h
    · cases h
  | inner id ver i f =>
    simp only [viewRow] at h ⊢
    split at h
    · rename_i hq; rw [hs _ _ hq]; exact h
    · rename_i hq; rw [hs _ _ hq]; exact h
    · cases h
  | _ => cases h
theorem lenOf_sub {hp' : Nat → Option Root} (hs : Sub hp hp') {x : LV} {r : Nat × List Nat × List Nat} (h : lenOf hp x = some r) : lenOf hp' x = some r := by
  cases x with
  | val p r => exact h
  | nil => exact h
  | own id =>
    simp only [lenOf] at h ⊢
    split at h
    · rename_i hq; rw [rowAt_sub hs hq]; exact h
    · cases h
  | sub id lo hi =>
    simp only [lenOf] at h ⊢
    split at h
    · rename_i hq; rw [rowAt_sub hs hq]; exact h
    · cases h
  | inner id ver i f =>
    simp only [lenOf] at h ⊢
    split at h
    · rename_i hq; rw [hs _ _ hq]; exact h
    · rename_i hq; rw [hs _ _ hq]; exact h
    · cases h
  | _ => cases h
theorem storable_sub {hp' : Nat → Option Root} (hs : Sub hp hp') {x : LV} (h : storable hp x = true) : storable hp' x = true := by
  have row : ∀ id, (rowAt? hp id).isSome = true → (rowAt? hp' id).isSome = true := fun id hh => by
    obtain ⟨r, hr⟩ := Option.isSome_iff_exists.1 hh
    rw [rowAt_sub hs hr]; rfl
  cases x with
  | own id => exact row id h
  | sub id lo hi => exact row id h
  | eptr id i f => exact row id h
  | arr id n => exact row id h
  | inner id ver i f =>
    simp only [storable] at h ⊢
    split at h
    · rename_i hq; rw [hs _ _ hq]; exact h
    · cases h
  | iptr id ver i f j =>
    simp only [storable] at h ⊢
    split at h
    · rename_i hq; rw [hs _ _ hq]; exact h
    · cases h
  | _ => exact h
theorem aggCells_sub {hp' : Nat → Option Root} (hs : Sub hp hp') {x : AV} {xs : List LV} (h : aggCells hp x = some xs) : aggCells hp' x = some xs := by
  unfold aggCells at h ⊢
  split
  · obtain ⟨h1, h2⟩ := bif_some h
    rw [storable_sub hs h1]; exact h2
  · obtain ⟨h1, h2⟩ := bif_some h
    have : List.all _ (storable hp') = true := List.all_eq_true.2 fun y hy => storable_sub hs (List.all_eq_true.1 h1 y hy)
    rw [this]; exact h2
  · exact h
theorem kill_sub {hp' : Nat → Option Root} (hs : Sub hp hp') (ks : List Nat) : Sub (kill hp ks) (kill hp' ks) := fun j r h => by
  obtain ⟨h1, h2⟩ := kill_some h
  rw [kill_at, if_neg h1]; exact hs j r h2
theorem elemSl_sub {hp' : Nat → Option Root} (hs : Sub hp hp') {x : LV} {r : Bool × List Int × List Nat} (h : elemSl hp x = some r) : elemSl hp' x = some r := by
  unfold elemSl at h ⊢
  split at h
  · exact h
  · exact h
  · split at h
    · rename_i hq; simp only [hs _ _ hq]; exact h
    · cases h
  · split at h
    · rename_i hq; simp only [hs _ _ hq]; exact h
    · cases h
  · cases h
end
end Go.Proofs.Ytfkejiljabmaaaa.V
