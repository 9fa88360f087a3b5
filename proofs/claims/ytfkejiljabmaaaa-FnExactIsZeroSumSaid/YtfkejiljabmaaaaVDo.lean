/- What an operation does, calls with it: on more roots, with other slots, and in the machine. Conditions: the functions that are called keep their contracts. -/
import Derived.Test.YtfkejiljabmaaaaVTake
set_option linter.unusedVariables false
set_option linter.unusedSimpArgs false
namespace Go.Proofs.Ytfkejiljabmaaaa.V
open Go

section
variable {R : Type} {P : Program}
def Enters (P : Program) (f : FuncId) : Prop := ∃ fn, P.funcs[f]? = some fn ∧ (fn.name == "runtime.NumGoroutine") = false ∧ fn.body.isNone = false
structure GOK (P : Program) (G : Glob R) : Prop where
  tt : TOK P G.tt
  call : ∀ (f : FuncId) (g : Sig) (ds : List DV) (K : List DV → Option R) (r : R), G.sig f = some g → G.Φ f ds K = some r → Enters P f ∧ ∃ rs, Contract P f g ds rs ∧ K rs = some r
/-- A call, all its slices roots. -/
structure Call0 (P : Program) (G : Glob R) (f : FuncId) (g : Sig) (xs : List AV) (hp : Nat → Option Root) (n : Nat) (E : Eff) (ks io rc : List Nat) (ds rs rs' : List DV) (vs : List A1) (up up' : List (Nat × Option Root)) (n' : Nat) : Prop where
  to : toDVs G.tt hp g.modes g.params xs = some (ds, ks, io, rc)
  nd : nodupB (ks ++ io) = true
  dj : disjoint (ks ++ io) rc = true
  hio : io = ioIds g.modes xs
  con : Contract P f g ds (rs ++ rs')
  inn : inArgs G.tt g.results rs n = some (vs.map AV.one, up, n')
  cl : ∀ d ∈ rs, clsV g.oc d
  bk : backs hp g.modes xs rs' some = some up'
  eff : E = ⟨resAV vs, killUp ks ++ lentKill g.oc rc ++ up ++ up', n', [], ks ++ io ++ rc⟩
inductive Does (P : Program) (G : Glob R) (op : Op) (sl : Nat → AV) (hp : Nat → Option Root) (n : Nat) (E : Eff) : Prop
  | plain (hf : isFn op = false) (he : evOp G.eff op sl hp n some = some E)
  | call (c : Call) (x : Operand) (hc : op = .call c) (hx : c.callee = .value x) (f : FuncId) (g : Sig) (hfn : St.rd G.nt sl x = .one (.l (.fn f))) (hg : G.sig f = some g) (hen : Enters P f)
      (hni : innerArg g.modes (c.args.toList.map (St.rd G.nt sl)) = none) {ks io rc : List Nat} {ds rs rs' : List DV} {vs : List A1} {up up' : List (Nat × Option Root)} {n' : Nat} (h0 : Call0 P G f g (c.args.toList.map (St.rd G.nt sl)) hp n E ks io rc ds rs rs' vs up up' n')
  | inner (c : Call) (x : Operand) (hc : op = .call c) (hx : c.callee = .value x) (f : FuncId) (g : Sig) (hfn : St.rd G.nt sl x = .one (.l (.fn f))) (hg : G.sig f = some g) (hen : Enters P f)
      (id ver i fl e : Nat) (r r' : Row) (hni : innerArg g.modes (c.args.toList.map (St.rd G.nt sl)) = some (id, ver, i, fl)) (hr : hp id = some (.row e ver r)) (hro : r.owned = true) (hsl : r.slAt fl = true) (hi : i < r.len)
      {E0 : Eff} {ks io rc : List Nat} {ds rs rs' : List DV} {vs : List A1} {up up' : List (Nat × Option Root)} {n' : Nat} (h0 : Call0 P G f g (putArg n g.modes (c.args.toList.map (St.rd G.nt sl))) (upd hp (takeUp id n e ver i fl r)) (n + 1) E0 ks io rc ds rs rs' vs up up' n')
      {e2 v2 e3 v3 i3 f3 : Nat} {l : List Int} {r3 : Row} (hl : upd (upd hp (takeUp id n e ver i fl r)) E0.up n = some (.row e2 v2 (.ints .i64 l))) (hh : upd (upd hp (takeUp id n e ver i fl r)) E0.up id = some (.hole e3 v3 r3 i3 f3)) (hset : setInnerRow i fl l r = some r')
      (hE : E = ⟨E0.v, takeUp id n e ver i fl r ++ E0.up ++ [(id, some (.row e (ver + 1) r')), (n, none)], E0.nx, [], E0.rc⟩)
theorem dInts_bind {A B : Type} (oc : Cls) (k : IntKind) (d : DL) (K : List Int → Option A) (F : A → Option B) : (dInts oc k d K).bind F = dInts oc k d fun l => (K l).bind F := by
  unfold dInts; split
  · exact cond_bind ..
  · rfl
theorem dBools_bind {A B : Type} (oc : Cls) (d : DL) (K : List Bool → Option A) (F : A → Option B) : (dBools oc d K).bind F = dBools oc d fun l => (K l).bind F := by
  unfold dBools; split
  · exact cond_bind ..
  · rfl
theorem dStrs_bind {A B : Type} (oc : Cls) (d : DL) (K : List ByteArray → Option A) (F : A → Option B) : (dStrs oc d K).bind F = dStrs oc d fun l => (K l).bind F := by
  unfold dStrs; split
  · exact cond_bind ..
  · rfl
theorem dRows_bind {A B : Type} (oc : Cls) (d : DL) (K : List (List Int) → Option A) (F : A → Option B) : (dRows oc d K).bind F = dRows oc d fun l => (K l).bind F := by
  unfold dRows; split
  · exact cond_bind ..
  · rfl
theorem dRecs_bind {A B : Type} (oc : Cls) (sg : List Bool) (d : DL) (K : List (List Leaf) → Option A) (F : A → Option B) : (dRecs oc sg d K).bind F = dRecs oc sg d fun l => (K l).bind F := by
  unfold dRecs; split
  · exact cond_bind ..
  · rfl
section
variable (hp : Nat → Option Root)
abbrev Ups := List (Nat × Option Root)
theorem backLeaf_bind {A : Type} (x : LV) (d : DL) (K : Ups → Option A) : backLeaf hp x d K = (backLeaf hp x d some).bind K := by
  unfold backLeaf
  split
  · rfl
  · rfl
  · rfl
  · rfl
  · rfl
  · split
    · rw [dInts_bind]; rfl
    · rw [dBools_bind]; rfl
    · rw [dStrs_bind]; rfl
    · rw [dRows_bind]; rfl
    · rw [dRecs_bind]; rfl
    · rfl
  · rfl
theorem backLeafs_bind : ∀ {A : Type} (xs : List LV) (ds : List DL) (K : Ups → Option A), backLeafs hp xs ds K = (backLeafs hp xs ds some).bind K
  | _, [], ds, K => by cases ds <;> rfl
  | _, x :: xs, [], K => rfl
  | _, x :: xs, d :: ds, K => by
    show backLeaf hp x d (fun up => backLeafs hp xs ds fun up' => K (up ++ up')) = (backLeaf hp x d fun up => backLeafs hp xs ds fun up' => some (up ++ up')).bind K
    rw [backLeaf_bind hp x d (fun up => backLeafs hp xs ds fun up' => K (up ++ up')), backLeaf_bind hp x d (fun up => backLeafs hp xs ds fun up' => some (up ++ up'))]
    cases backLeaf hp x d some with
    | none => rfl
    | some u =>
      show (backLeafs hp xs ds fun up' => K (u ++ up')) = (backLeafs hp xs ds fun up' => some (u ++ up')).bind K
      rw [backLeafs_bind xs ds (fun up' => K (u ++ up')), backLeafs_bind xs ds (fun up' => some (u ++ up'))]
      cases backLeafs hp xs ds some <;> rfl
theorem backAV_bind {A : Type} (x : AV) (d : DV) (K : Ups → Option A) : backAV hp x d K = (backAV hp x d some).bind K := by
  unfold backAV
  split
  · cases d with
    | l d => exact backLeaf_bind ..
    | _ => rfl
  · cases d with
    | agg d => exact backLeafs_bind ..
    | _ => rfl
  · rfl
theorem backs_bind : ∀ {A : Type} (ms : List Mode) (xs : List AV) (ds : List DV) (K : Ups → Option A), backs hp ms xs ds K = (backs hp ms xs ds some).bind K
  | _, [], xs, ds, K => by cases ds <;> rfl
  | _, .io :: ms, [], ds, K => by cases ds <;> rfl
  | _, .bor :: ms, [], ds, K => by cases ds <;> rfl
  | _, .mov :: ms, [], ds, K => by cases ds <;> rfl
  | _, .bor :: ms, x :: xs, ds, K => backs_bind ms xs ds K
  | _, .mov :: ms, x :: xs, ds, K => backs_bind ms xs ds K
  | _, .io :: ms, x :: xs, [], K => rfl
  | _, .io :: ms, x :: xs, d :: ds, K => by
    show backAV hp x d (fun up => backs hp ms xs ds fun up' => K (up ++ up')) = (backAV hp x d fun up => backs hp ms xs ds fun up' => some (up ++ up')).bind K
    rw [backAV_bind hp x d (fun up => backs hp ms xs ds fun up' => K (up ++ up')), backAV_bind hp x d (fun up => backs hp ms xs ds fun up' => some (up ++ up'))]
    cases backAV hp x d some with
    | none => rfl
    | some u =>
      show (backs hp ms xs ds fun up' => K (u ++ up')) = (backs hp ms xs ds fun up' => some (u ++ up')).bind K
      rw [backs_bind ms xs ds (fun up' => K (u ++ up')), backs_bind ms xs ds (fun up' => some (u ++ up'))]
      cases backs hp ms xs ds some <;> rfl
theorem backs_elim {ms : List Mode} {xs : List AV} {ds : List DV} {K : Ups → Option R} {r : R} (h : backs hp ms xs ds K = some r) : ∃ up, backs hp ms xs ds some = some up ∧ K up = some r := by
  rw [backs_bind] at h
  exact Option.bind_eq_some_iff.1 h
end
theorem evCall0_elim {G : Glob R} (hG : GOK P G) {f : FuncId} {g : Sig} (hg : G.sig f = some g) {xs : List AV} {hp : Nat → Option Root} {n : Nat} {K : Eff → Option R} {r : R} (h : evCall0 G hp n f g xs K = some r) :
    ∃ E ks io rc ds rs rs' vs up up' n', Call0 P G f g xs hp n E ks io rc ds rs rs' vs up up' n' ∧ Enters P f ∧ K E = some r := by
  unfold evCall0 at h
  split at h
  · cases h
  · rename_i ds ks io rc hto
    obtain ⟨hck, h3⟩ := bif_some h
    obtain ⟨hck, hio⟩ := and_bool hck
    obtain ⟨hnd, hdj⟩ := and_bool hck
    obtain ⟨hen, rs, hcon, h4⟩ := hG.call _ _ _ _ _ hg h3
    obtain ⟨ds1, ds2, xs, up, n', e, hin, hcl, h5⟩ := fromDVs_elim h4
    subst e
    obtain ⟨up', h6, h7⟩ := backs_elim _ h5
    exact ⟨_, ks, io, rc, ds, ds1, ds2, xs, up, up', n', ⟨hto, hnd, hdj, eq_of_beq hio, hcon, hin, hcl, h6, rfl⟩, hen, h7⟩
theorem evOp_does {G : Glob R} (hG : GOK P G) {o : Op} {sl : Nat → AV} {hp : Nat → Option Root} {n : Nat} {K : Eff → Option R} {r : R} (h : evOp G o sl hp n K = some r) : ∃ E, Does P G o sl hp n E ∧ K E = some r := by
  cases hf : isFn o with
  | false =>
    rw [evOp_bind K G o sl hf] at h
    obtain ⟨E, h1, h2⟩ := Option.bind_eq_some_iff.1 h
    exact ⟨E, .plain hf h1, h2⟩
  | true =>
    cases o with
    | call c =>
      simp only [isFn] at hf
      simp only [evOp] at h
      split at h
      · rename_i b hc; rw [hc] at hf; cases hf
      · rename_i x hx
        split at h
        · rename_i f hfn
          unfold evCall at h
          split at h
          · cases h
          · rename_i g hg
            split at h
            · rename_i hni
              obtain ⟨E, ks, io, rc, ds, rs, rs', vs, up, up', n', h0, hen, hk⟩ := evCall0_elim hG hg h
              exact ⟨E, .call c x rfl hx f g hfn hg hen hni h0, hk⟩
            · rename_i id ver i fl hni
              split at h
              · rename_i e v r0 hr
                obtain ⟨hck, h3⟩ := bif_some h
                obtain ⟨hck, hi⟩ := and_bool hck
                obtain ⟨hck, hsl⟩ := and_bool hck
                obtain ⟨hver, hro⟩ := and_bool hck
                obtain rfl := eq_of_beq hver
                obtain ⟨E, ks, io, rc, ds, rs, rs', vs, up, up', n', h0, hen, hk⟩ := evCall0_elim hG hg h3
                split at hk
                · rename_i l _ _ _ _ _ hl hh
                  split at hk
                  · rename_i r' hset
                    exact ⟨_, .inner c x rfl hx f g hfn hg hen id _ i fl e r0 r' hni hr hro hsl (by simpa [Nat.blt_eq] using hi) h0 hl hh hset rfl, hk⟩
                  · cases hk
                · cases hk
              · cases h
        · cases h
      · cases h
    | _ => cases hf

/-! ### More roots -/
variable {tt : TT} {hp hp' : Nat → Option Root}
theorem toDL_sub (hs : Sub hp hp') {m : Mode} {t : Nat} {x : LV} {r : DL × List Nat × List Nat × List Nat} (h : toDL tt hp m t x = some r) : toDL tt hp' m t x = some r := by
  have view : ∀ x, (match viewRow hp x with | some (r, rc) => some (DL.sl .lent r, ([] : List Nat), ([] : List Nat), rc) | none => none) = some r → (match viewRow hp' x with | some (r, rc) => some (DL.sl .lent r, ([] : List Nat), ([] : List Nat), rc) | none => none) = some r := fun x h => by
    split at h
    · rename_i h1; rw [viewRow_sub hs h1]; exact h
    · cases h
  cases x with
  | val p r => cases p with
    | true => exact h
    | false => cases m with
      | bor => exact h
      | _ => cases h
  | own id =>
    cases m with
    | bor => exact view _ h
    | mov =>
      simp only [toDL] at h ⊢
      split at h
      · rename_i h1; simp only [hs _ _ h1]; exact h
      · cases h
    | io =>
      simp only [toDL] at h ⊢
      split at h
      · rename_i h1; simp only [hs _ _ h1]; exact h
      · cases h
  | sub id lo hi =>
    cases m with
    | bor => exact view _ h
    | mov =>
      cases lo with
      | zero =>
        simp only [toDL] at h ⊢
        split at h
        · rename_i h1; simp only [hs _ _ h1]; exact h
        · cases h
      | succ lo => cases h
    | io => cases h
  | inner id ver i f =>
    cases m with
    | bor => exact view _ h
    | mov => cases h
    | io =>
      simp only [toDL] at h ⊢
      split at h
      · rename_i h1; simp only [hs _ _ h1]; exact h
      · cases h
  | bptr id k => cases m <;> cases h
  | arr id k => cases m <;> cases h
  | eptr id i f => cases m <;> cases h
  | iptr id v i f j => cases m <;> cases h
  | vptr p r i f => cases m <;> cases h
  | any => cases m <;> cases h
  | undef => cases m <;> cases h
  | fn f => cases m <;> cases h
  | _ => exact h
theorem toDLs_sub (hs : Sub hp hp') {m : Mode} : ∀ {ts : List Nat} {xs : List LV} {r : List DL × List Nat × List Nat × List Nat}, toDLs tt hp m ts xs = some r → toDLs tt hp' m ts xs = some r
  | [], [], r, h => h
  | [], _ :: _, _, h => by simp [toDLs] at h
  | _ :: _, [], _, h => by simp [toDLs] at h
  | t :: ts, x :: xs, r, h => by
    simp only [toDLs] at h ⊢
    split at h
    · rename_i h1
      split at h
      · rename_i h2
        rw [toDL_sub hs h1]
        simp only []
        rw [toDLs_sub hs h2]
        exact h
      · cases h
    · cases h
theorem toDV_sub (hs : Sub hp hp') {m : Mode} {t : Nat} {x : AV} {r : DV × List Nat × List Nat × List Nat} (h : toDV tt hp m t x = some r) : toDV tt hp' m t x = some r := by
  match x, h with
  | .one (.l x), h =>
    simp only [toDV] at h ⊢
    split at h
    · rename_i h1; rw [toDL_sub hs h1]; exact h
    · cases h
  | .one (.agg xs), h =>
    simp only [toDV] at h ⊢
    split at h
    · rename_i h1; rw [toDLs_sub hs h1]; exact h
    · cases h
theorem toDVs_sub (hs : Sub hp hp') : ∀ {ms : List Mode} {ts : List Nat} {xs : List AV} {r : List DV × List Nat × List Nat × List Nat}, toDVs tt hp ms ts xs = some r → toDVs tt hp' ms ts xs = some r
  | ms, [], [], r, h => h
  | _, [], _ :: _, _, h => by simp [toDVs] at h
  | _, _ :: _, [], _, h => by simp [toDVs] at h
  | ms, t :: ts, x :: xs, r, h => by
    simp only [toDVs] at h ⊢
    split at h
    · rename_i h1
      split at h
      · rename_i h2
        rw [toDV_sub hs h1]
        simp only []
        rw [toDVs_sub hs h2]
        exact h
      · cases h
    · cases h
theorem upd_sub (hs : Sub hp hp') : ∀ (up : List (Nat × Option Root)), Sub (upd hp up) (upd hp' up) := by
  intro up
  induction up generalizing hp hp' with
  | nil => exact hs
  | cons p up ih =>
    obtain ⟨i, r⟩ := p
    refine ih fun j r' h => ?_
    cases e : j == i with
    | true => simp only [e, cond_true] at h ⊢; exact h
    | false => simp only [e, cond_false] at h ⊢; exact hs _ _ h
theorem backLeaf_sub (hs : Sub hp hp') {x : LV} {d : DL} {K : Ups → Option R} {r : R} (h : backLeaf hp x d K = some r) : backLeaf hp' x d K = some r := by
  cases x with
  | own id =>
    simp only [backLeaf] at h ⊢
    cases hq : hp id with
    | none => rw [hq] at h; cases h
    | some root => rw [hs _ _ hq]; rw [hq] at h; exact h
  | _ => exact h
theorem backLeafs_sub (hs : Sub hp hp') {r : R} : ∀ {xs : List LV} {ds : List DL} {K : Ups → Option R}, backLeafs hp xs ds K = some r → backLeafs hp' xs ds K = some r
  | [], ds, K, h => h
  | x :: xs, [], K, h => by cases h
  | x :: xs, d :: ds, K, h => by
    have h : backLeaf hp x d (fun up => backLeafs hp xs ds fun up' => K (up ++ up')) = some r := h
    show backLeaf hp' x d (fun up => backLeafs hp' xs ds fun up' => K (up ++ up')) = some r
    rw [backLeaf_bind] at h
    obtain ⟨u, h1, h2⟩ := Option.bind_eq_some_iff.1 h
    rw [backLeaf_bind, backLeaf_sub hs h1]
    exact backLeafs_sub hs h2
theorem backAV_sub (hs : Sub hp hp') {x : AV} {d : DV} {K : Ups → Option R} {r : R} (h : backAV hp x d K = some r) : backAV hp' x d K = some r := by
  match x, d, h with
  | .one (.l x), .l d, h => exact backLeaf_sub hs (h : backLeaf hp x d K = some r)
  | .one (.agg x), .agg d, h => exact backLeafs_sub hs (h : backLeafs hp x d K = some r)
theorem backs_sub (hs : Sub hp hp') {r : R} : ∀ {ms : List Mode} {xs : List AV} {ds : List DV} {K : Ups → Option R}, backs hp ms xs ds K = some r → backs hp' ms xs ds K = some r
  | [], _, _, _, h => h
  | .io :: ms, [], _, _, h => h
  | .bor :: ms, [], _, _, h => h
  | .mov :: ms, [], _, _, h => h
  | .bor :: ms, x :: xs, ds, K, h => backs_sub (ms := ms) (xs := xs) hs h
  | .mov :: ms, x :: xs, ds, K, h => backs_sub (ms := ms) (xs := xs) hs h
  | .io :: ms, x :: xs, [], _, h => by cases h
  | .io :: ms, x :: xs, d :: ds, K, h => by
    have h : backAV hp x d (fun up => backs hp ms xs ds fun up' => K (up ++ up')) = some r := h
    show backAV hp' x d (fun up => backs hp' ms xs ds fun up' => K (up ++ up')) = some r
    rw [backAV_bind] at h
    obtain ⟨u, h1, h2⟩ := Option.bind_eq_some_iff.1 h
    rw [backAV_bind, backAV_sub hs h1]
    exact backs_sub (ms := ms) (xs := xs) hs h2
theorem Call0.sub {G : Glob R} (hs : Sub hp hp') {f : FuncId} {g : Sig} {xs : List AV} {n : Nat} {E : Eff} {ks io rc : List Nat} {ds rs rs' : List DV} {vs : List A1} {up up' : List (Nat × Option Root)} {n' : Nat} (h : Call0 P G f g xs hp n E ks io rc ds rs rs' vs up up' n') : Call0 P G f g xs hp' n E ks io rc ds rs rs' vs up up' n' :=
  { h with to := toDVs_sub hs h.to, bk := backs_sub hs h.bk }
theorem Does.sub {G : Glob R} (hs : Sub hp hp') {op : Op} {sl : Nat → AV} {n : Nat} {E : Eff} (h : Does P G op sl hp n E) : Does P G op sl hp' n E := by
  cases h with
  | plain hf he => exact .plain hf (evOp_sub hs hf he)
  | call c x hc hx f g hfn hg hen hni h0 => exact .call c x hc hx f g hfn hg hen hni (h0.sub hs)
  | inner c x hc hx f g hfn hg hen id ver i fl e r r' hni hr hro hsl hi h0 hl hh hset hE =>
    exact .inner c x hc hx f g hfn hg hen id ver i fl e r r' hni (hs _ _ hr) hro hsl hi (h0.sub (upd_sub hs _)) (upd_sub (upd_sub hs _) _ _ _ hl) (upd_sub (upd_sub hs _) _ _ _ hh) hset hE

/-! ### Other slots -/
theorem evOp_congr (G : Glob R) {o : Op} {sl sl' : Nat → AV} (hf : isFn o = false) {n : Nat} {K : Eff → Option R} (h : ∀ x ∈ o.operands.toList, St.rd G.nt sl x = St.rd G.nt sl' x) : evOp G o sl hp n K = evOp G o sl' hp n K := by
  cases o with
  | call c =>
    simp only [Op.operands, Call.operands] at h
    simp only [isFn] at hf
    have ha : c.args.toList.map (St.rd G.nt sl) = c.args.toList.map (St.rd G.nt sl') := List.map_congr_left fun x hx => h x (by simp only [Array.toList_append, List.mem_append]; exact .inr hx)
    simp only [evOp]
    split
    · rename_i b hb; simp only [ha]
    · rename_i f hc; rw [hc] at hf; cases hf
    · rfl
  | build t ps =>
    have ha : ps.toList.map (fun p => (p.1, St.rd G.nt sl p.2)) = ps.toList.map (fun p => (p.1, St.rd G.nt sl' p.2)) := List.map_congr_left fun p hp => by rw [h p.2 (by simp [Op.operands]; exact ⟨p.1, by simpa using hp⟩)]
    simp only [evOp, ha]
  | buildSlice t m ps =>
    have ha : ps.toList.map (fun p => (p.1, St.rd G.nt sl p.2)) = ps.toList.map (fun p => (p.1, St.rd G.nt sl' p.2)) := List.map_congr_left fun p hp => by rw [h p.2 (by simp [Op.operands]; exact ⟨p.1, by simpa using hp⟩)]
    simp only [evOp, ha]
  | slice t x lo hi mx =>
    simp only [Op.operands] at h
    have hx : St.rd G.nt sl x = St.rd G.nt sl' x := h x (by simp)
    have hlo : lo.map (St.rd G.nt sl) = lo.map (St.rd G.nt sl') := by cases lo with
      | none => rfl
      | some y => simp only [Option.map_some]; rw [h y (by simp)]
    have hhi : hi.map (St.rd G.nt sl) = hi.map (St.rd G.nt sl') := by cases hi with
      | none => rfl
      | some y => simp only [Option.map_some]; rw [h y (by simp)]
    simp only [evOp, hx, hlo, hhi]
  | _ => simp only [Op.operands] at h; simp [evOp] at h ⊢ <;> simp [h]
theorem Does.congr {G : Glob R} {op : Op} {sl sl' : Nat → AV} {n : Nat} {E : Eff} (hh : ∀ x ∈ op.operands.toList, St.rd G.nt sl x = St.rd G.nt sl' x) (h : Does P G op sl hp n E) : Does P G op sl' hp n E := by
  cases h with
  | plain hf he => exact .plain hf (by rw [← evOp_congr G.eff hf hh]; exact he)
  | call c x hc hx f g hfn hg hen hni h0 =>
    subst hc
    simp only [Op.operands, Call.operands, hx] at hh
    have ha : c.args.toList.map (St.rd G.nt sl) = c.args.toList.map (St.rd G.nt sl') := List.map_congr_left fun y hy => hh y (by simp only [Array.toList_append, List.mem_append]; exact .inr hy)
    exact .call c x rfl hx f g (by rw [← hh x (by simp)]; exact hfn) hg hen (by rw [← ha]; exact hni) (by rw [← ha]; exact h0)
  | inner c x hc hx f g hfn hg hen id ver i fl e r r' hni hr hro hsl hi h0 hl hq hset hE =>
    subst hc
    simp only [Op.operands, Call.operands, hx] at hh
    have ha : c.args.toList.map (St.rd G.nt sl) = c.args.toList.map (St.rd G.nt sl') := List.map_congr_left fun y hy => hh y (by simp only [Array.toList_append, List.mem_append]; exact .inr hy)
    exact .inner c x rfl hx f g (by rw [← hh x (by simp)]; exact hfn) hg hen id ver i fl e r r' (by rw [← ha]; exact hni) hr hro hsl hi (by rw [← ha]; exact h0) hl hq hset hE
end

section
variable {R : Type} {P : Program} {C : Cx} {S : St} {a : Act} {w : World} {ρ : Place} {Fs : Nat → FP}
theorem run_enter {ρ : Operand → Value} {o : Oper} {c : Call} {x : Operand} {f : FuncId} (h : o.op = .call c) (hx : c.callee = .value x) (hf : ρ x = .func (.func f) #[] #[]) (he : Enters P f) (w : World) : (execOp ρ o).run P w = .ok (.enter f (c.args.map ρ)) w := by
  obtain ⟨fn, h1, h2, h3⟩ := he
  have h2 : ¬ fn.name = "runtime.NumGoroutine" := by simpa using h2
  have h3 : ¬ fn.body = none := by intro e; rw [e] at h3; cases h3
  simp [execOp, h, resolve, hx, hf, Deferred.ofValue, invoke, callFunc, go_sem, h1, h2, h3]
theorem args_rel {G : Glob R} (hN : G.nt = C.N) (h : SRel C S a w ρ Fs) : ∀ xs : List Operand, AVsRel (C.env w ρ S.hp S.nx Fs) (xs.map (St.rd G.nt S.sl)) (xs.map a.eval)
  | [] => trivial
  | x :: xs => ⟨by rw [hN]; exact h.rd x, args_rel hN h xs⟩
theorem Call0.main {G : Glob R} {f : FuncId} {g : Sig} {ax : List AV} {n : Nat} {E : Eff} {ks io rc : List Nat} {ds rs rs' : List DV} {vs : List A1} {up up' : List (Nat × Option Root)} {n' : Nat} (h : SRel C S a w ρ Fs) (h0 : Call0 P G f g ax S.hp n E ks io rc ds rs rs' vs up up' n') {args : List Value} (hax : AVsRel (C.env w ρ S.hp S.nx Fs) ax args) (hnx : n' ≤ S.nx) (hgh : ∀ k, n ≤ k → k < n' → S.hp k = some .ghost) :
    Calls P f args.toArray w fun e w' => ∃ v ρ' Fs', e = .returned v ∧
      (∀ id, id ∉ ks ++ io → ∀ b, 1 ≤ Fs id b → w'.heap[b]? = w.heap[b]?) ∧ (∀ id, id < S.nx → (∀ root, S.hp id = some root → root.real) → ρ' id = ρ id) ∧ RowsAt S.hp (ks ++ io) ∧ Named n n' up ∧ (∀ p ∈ up', p.1 ∈ io) ∧
      (∀ id ∈ io, ∃ e ver r0 r1, S.hp id = some (.row e ver r0) ∧ (∀ hp, upd hp up' id = some (.row e (ver + 1) r1)) ∧ r1.len = r0.len) ∧
      SRel C ⟨S.sl, upd S.hp E.up, S.nx⟩ a w' ρ' Fs' ∧ AVRel (C.env w' ρ' (upd S.hp E.up) S.nx Fs') E.v v := by
  have hnd := nodupB_sound h0.nd
  have hdj := disjoint_sound h0.dj
  obtain ⟨F, a1, a2, a3⟩ := toDVs_sound h.mem _ _ _ _ _ _ _ _ h0.to hax
  have hlt := a3.lt h.mem
  have hgood := call_good h.mem hnd hlt a2 hdj
  have hF1 : ∀ b, F b ≤ 1 := fun b => by have := a2 b; have := sumL_le Fs b S.nx hnd hlt; have := h.mem.one b; omega
  have hF2 : ∀ b, 1 ≤ F b → b < w.heap.size := fun b hb => (h.mem.mine b (by have := a2 b; have := sumL_le Fs b S.nx hnd hlt; omega)).1
  have hcall := h0.con (callCx C S w Fs F rc hgood) _ a1 hF1 hF2
  refine Calls.mono hcall fun e w' he => ?_
  obtain ⟨v, ρ', Fs', up2, rfl, k1, k2, k3, k4, k5, k6, k7, k8⟩ := call_back (tt := G.tt) h hax h0.hio hnd a3 a2 hdj h0.inn h0.cl hnx hgh h0.bk he
  cases k1
  obtain rfl := h0.eff
  refine ⟨v, ρ', Fs', rfl, fun id hid b hb => ?_, k4, a3, inArgs_named _ _ _ _ _ _ h0.cl h0.inn, k2, k6, k7, k8⟩
  have hi := Fs_lt h.mem hb
  have h1 := sumL_out Fs b S.nx hnd hlt hi hid
  have h2 := h.mem.one b
  have h3 := h.mem.mine b (by have := sumTo_le Fs b hi; omega)
  refine k3 b h3.1 ?_
  have := a2 b
  omega
theorem innerArg_rel {E : Env} {id ver i fl n : Nat} : ∀ {ms : List Mode} {xs : List AV} {vs : List Value}, innerArg ms xs = some (id, ver, i, fl) → AVsRel E xs vs → (∃ v, LVRel E (.inner id ver i fl) v ∧ ∀ E', LVRel E' (.own n) v → AVsRel E' xs vs → AVsRel E' (putArg n ms xs) vs)
  | [], xs, vs, h, _ => by cases xs <;> simp [innerArg] at h
  | m :: ms, [], vs, h, _ => by cases m <;> simp [innerArg] at h
  | m :: ms, x :: xs, [], h, hv => hv.elim
  | .bor :: ms, x :: xs, v :: vs, h, hv => by
    obtain ⟨u, h1, h2⟩ := innerArg_rel (ms := ms) (xs := xs) (by simpa [innerArg] using h) hv.2
    exact ⟨u, h1, fun E' hu hh => ⟨hh.1, h2 E' hu hh.2⟩⟩
  | .mov :: ms, x :: xs, v :: vs, h, hv => by
    obtain ⟨u, h1, h2⟩ := innerArg_rel (ms := ms) (xs := xs) (by simpa [innerArg] using h) hv.2
    exact ⟨u, h1, fun E' hu hh => ⟨hh.1, h2 E' hu hh.2⟩⟩
  | .io :: ms, x :: xs, v :: vs, h, hv => by
    by_cases hx : ∃ a b c d, x = .one (.l (.inner a b c d))
    · obtain ⟨a, b, c, d, rfl⟩ := hx
      simp only [innerArg, Option.some.injEq, Prod.mk.injEq] at h
      obtain ⟨rfl, rfl, rfl, rfl⟩ := h
      exact ⟨v, hv.1, fun E' hu hh => ⟨hu, hh.2⟩⟩
    · have e1 : innerArg (.io :: ms) (x :: xs) = innerArg ms xs := by
        rcases x with (y | ys) | ys
        · cases y <;> first | rfl | exact absurd ⟨_, _, _, _, rfl⟩ hx
        · rfl
        · rfl
      have e2 : putArg n (.io :: ms) (x :: xs) = x :: putArg n ms xs := by
        rcases x with (y | ys) | ys
        · cases y <;> first | rfl | exact absurd ⟨_, _, _, _, rfl⟩ hx
        · rfl
        · rfl
      rw [e1] at h
      obtain ⟨u, h1, h2⟩ := innerArg_rel h hv.2
      exact ⟨u, h1, fun E' hu hh => by rw [e2]; exact ⟨hh.1, h2 E' hu hh.2⟩⟩
theorem Does.wp {G : Glob R} (hG : GOK P G) (hN : G.nt = C.N) (h : SRel C S a w ρ Fs) {o : Oper} {n : Nat} {E : Eff} (hd : Does P G o.op S.sl S.hp n E) (hgh : ∀ k, n ≤ k → k < E.nx → S.hp k = some .ghost) (hnx : E.nx ≤ S.nx) {next : Act → World → Prop} {Q : Exit → Act → World → Prop}
    (hnext : ∀ u w' ρ' Fs', SRel C ⟨S.sl, upd S.hp E.up, S.nx⟩ a w' ρ' Fs' → AVRel (C.env w' ρ' (upd S.hp E.up) S.nx Fs') E.v u → next (a.put o.dst u) w') : o.wp P a w next Q := by
  cases hd with
  | plain hf he =>
    obtain ⟨w', ρ', Fs', u, hr, hrel, hv⟩ := evOp_sound (P := P) (G := G.eff) hG.tt hN h hf he hgh
    unfold Oper.wp
    rcases hr with hr | ⟨hr, rfl⟩
    · rw [hr]; exact hnext _ _ _ _ hrel hv
    · rw [hr]; exact hnext _ _ _ _ hrel hv
  | call c x hc hx f g hfn hg hen hni h0 =>
    have hxv := h.rd x
    rw [← hN, hfn] at hxv
    have hxv : a.eval x = .func (.func f) #[] #[] := hxv
    unfold Oper.wp
    rw [run_enter hc hx hxv hen w]
    have hargs : (c.args.toList.map a.eval).toArray = c.args.map a.eval := by rw [← Array.toList_map, Array.toArray_toList]
    have hE : E.nx = _ := congrArg Eff.nx h0.eff
    have hcall := h0.main h (args_rel hN h c.args.toList) (by rw [hE] at hnx; exact hnx) (by rw [hE] at hgh; exact hgh)
    rw [hargs] at hcall
    refine Calls.mono hcall fun e w' he => ?_
    obtain ⟨v, ρ', Fs', rfl, _, _, _, _, _, _, h1, h2⟩ := he
    exact hnext _ _ _ _ h1 h2
  | inner c x hc hx f g hfn hg hen id ver i fl e r r' hni hr hro hsl hi h0 hl hh hset hE =>
    rename_i E0 ks io rc ds rs rs' vs up up' n' e2 v2 e3 v3 i3 f3 l r3
    have hxv := h.rd x
    rw [← hN, hfn] at hxv
    have hxv : a.eval x = .func (.func f) #[] #[] := hxv
    unfold Oper.wp
    rw [run_enter hc hx hxv hen w]
    have hargs : (c.args.toList.map a.eval).toArray = c.args.map a.eval := by rw [← Array.toList_map, Array.toArray_toList]
    have hE0 : E0.nx = n' := congrArg Eff.nx h0.eff
    have hEu : E0.up = killUp ks ++ lentKill g.oc rc ++ up ++ up' := congrArg Eff.up h0.eff
    obtain rfl := hE
    simp only [] at hgh hnx hnext
    have hN1 := inArgs_named _ _ _ _ _ _ h0.cl h0.inn
    have hlt := hN1.1
    have hax := args_rel hN h c.args.toList
    obtain ⟨v, hv, hput⟩ := innerArg_rel (n := n) hni hax
    obtain ⟨_, hv⟩ := hv
    obtain ⟨_, _, hv⟩ := hv _ hr
    obtain ⟨_, _, hcell⟩ := hv _ _ rfl
    have hcell : cellAt w (ρ id) (i * r.size + fl) = some v := hcell
    have hng : S.hp n = some .ghost := hgh n (Nat.le_refl _) (by rw [hE0]; omega)
    have hne : id ≠ n := by rintro rfl; rw [hr] at hng; cases hng
    obtain ⟨q, Fs1, b, cap, hρ, hFb, h1, hvq⟩ := h.takeAny hng hr hro hsl hi hcell
    have hat := takeUp_at S.hp id n e ver i fl r
    generalize hS1 : upd S.hp (takeUp id n e ver i fl r) = hp1 at *
    have hp1n : hp1 n = some (.row 0 0 (.ints .i64 (innerOf r i fl))) := by rw [hat, if_pos rfl]
    have hp1id : hp1 id = some (.hole e ver r i fl) := by rw [hat, if_neg hne, if_pos rfl]
    have hnlt := live_lt h.mem hng
    have hax1 := hput (C.env w (newρ ρ n q) hp1 S.nx Fs1) ⟨hnlt, fun root hroot => by
      have hroot : hp1 n = some root := hroot
      rw [hp1n] at hroot; cases hroot
      exact ⟨_, rfl, by rw [hvq]; show hdr q _ = hdr (newρ ρ n q n) _; rw [newρ_self]; rfl⟩⟩ (args_rel hN h1 c.args.toList)
    have hcall := h0.main h1 hax1 (by rw [hE0] at hnx; exact hnx) (fun k k1 k2 => by
      show hp1 k = some .ghost
      rw [hat, if_neg (by omega), if_neg (by rintro rfl; have := hgh k (by omega) (by rw [hE0]; exact k2); rw [hr] at this; cases this)]
      exact hgh k (by omega) (by rw [hE0]; exact k2))
    rw [hargs] at hcall
    refine Calls.mono hcall fun e4 w' he => ?_
    obtain ⟨v4, ρ', Fs', rfl, k1, k2, k3, k4, k5, k6, h2, h3⟩ := he
    -- the row with the hole stays
    have hidout : id ∉ ks ++ io := fun hh => by
      obtain ⟨_, _, _, hk⟩ := k3 id hh
      have hk : hp1 id = _ := hk
      rw [hp1id] at hk; cases hk
    have hup : ∀ hp, upd hp up id = hp id := fun hp => upd_out _ _ fun p hp e5 => by
      obtain ⟨m1, m2⟩ := k4.2.1 p hp
      rw [e5] at m1 m2
      have := hgh id (by omega) (by rw [hE0]; exact m2)
      rw [hr] at this; cases this
    have hup' : ∀ hp, upd hp up' id = hp id := fun hp => upd_out _ _ fun p hp e5 => hidout (by rw [← e5]; simp [k5 p hp])
    have hid2 : upd hp1 E0.up id = some (.hole e ver r i fl) := by
      have hh2 := hh
      rw [hEu, upd_append, upd_append, upd_append, hup', hup, upd_kill, lentKill_upd, kill_kill] at hh2 ⊢
      generalize (ks ++ match g.oc with | .lent => rc | _ => []) = kk at hh2 ⊢
      rw [kill_at] at hh2 ⊢
      split at hh2
      · cases hh2
      · rename_i hnk; rw [if_neg hnk]; exact hp1id
    have hρid : ρ' id = ρ id := by
      rw [k2 id (live_lt h.mem hr) (fun root hroot => by have hroot : hp1 id = some root := hroot; rw [hp1id] at hroot; cases hroot; trivial), newρ_ne _ _ hne]
    have hρn : ρ' n = q := by
      rw [k2 n hnlt (fun root hroot => by have hroot : hp1 n = some root := hroot; rw [hp1n] at hroot; cases hroot; trivial), newρ_self]
    have hcell' : cellAt w' (ρ' id) (i * r.size + fl) = some v := by
      rw [hρid, hρ]
      rw [hρ] at hcell
      have := k1 id hidout b hFb
      simp only [cellAt, World.cell?] at hcell ⊢
      rw [this]; exact hcell
    have hlen : l.length = (innerOf r i fl).length := by
      rw [hEu, upd_append] at hl
      by_cases hnio : n ∈ io
      · obtain ⟨e5, v5, r5, r6, m1, m2, m3⟩ := k6 n hnio
        have m1 : hp1 n = _ := m1
        rw [hp1n] at m1; cases m1
        rw [m2] at hl
        cases hl
        simpa [Row.len] using m3
      · rw [upd_out _ _ (fun p hp e5 => hnio (by rw [← e5]; exact k5 p hp)), upd_append, upd_out _ _ (fun p hp e5 => by have := (k4.2.1 p hp).1; omega), upd_append, upd_kill, lentKill_upd, kill_kill] at hl
        generalize (ks ++ match g.oc with | .lent => rc | _ => []) = kk at hl
        rw [kill_at] at hl
        split at hl
        · cases hl
        · rw [hp1n] at hl; cases hl; rfl
    obtain ⟨Fs'', h4, hM⟩ := h2.putBack hid2 hsl hl hset hcell' (by rw [hvq, hρn, hlen])
    have hupE : upd S.hp (takeUp id n e ver i fl r ++ E0.up ++ [(id, some (Root.row e (ver + 1) r')), (n, none)]) = upd (upd hp1 E0.up) [(id, some (Root.row e (ver + 1) r')), (n, none)] := by
      rw [upd_append, upd_append, hS1]
    rw [hupE] at hnext
    exact hnext v4 w' ρ' Fs'' h4 (h3.mono hM)
end
end Go.Proofs.Ytfkejiljabmaaaa.V
