/- Games of patience, in plain Lean. Conditions: enough rounds, lists of at most 2^20. -/
import Derived.Test.YtfbafmeeejmgoaaGreatKit
import Derived.Test.YtfbafmeeejmgoaaGreatFFnMeasured
import Derived.Test.YtfbafmeeejmgoaaGreatPPile
import Derived.Test.YtfbafmeeejmgoaaGreatPLong
set_option linter.unusedVariables false
set_option linter.unusedSimpArgs false
namespace Go.Proofs.YtfbafmeeejmgoaaGreat
open Go Go.Proofs.YtfbafmeeejmgoaaGreat.V
def pileFine (y : List Leaf) : Bool := isPile (gl y 0) (gi y 1) && !(decide (((gl y 0).length : Int) > 0) && (gi y 1 == ((gl y 0).length : Int)))
def isPatience (ps : List (List Leaf)) (b st ws : List Int) : Bool := inR (ps.length : Int) 1 7 && isBase b && ps.all pileFine && whole ([st, ws, baseCards b] ++ ps.map fun y => gl y 0)
abbrev smRecs (ps : List (List Leaf)) : Prop := ps.length < 1048577 ∧ ∀ y ∈ ps, smRec y
theorem foldl_gl : ∀ (ps : List (List Leaf)) (b : List Int), ps.foldl (fun b y => b ++ gl y 0) b = b ++ (ps.map fun y => gl y 0).flatten
  | [], b => by simp
  | y :: ps, b => by rw [List.foldl_cons, foldl_gl ps, List.map_cons, List.flatten_cons, List.append_assoc]
theorem spec_IsPatience.eq {k : Nat} (hk : BIG ≤ k) {ps : List (List Leaf)} {b st ws : List Int} (hp : smRecs ps) (hb : b.length < 1048577) (hs : st.length < 1048577) (hw : ws.length < 1048577) : spec_IsPatience.f k ps b st ws = some (isPatience ps b st ws) := by
  unfold isPatience
  have hbl := baseCards_len b
  have hp1 := hp.1
  refine (bind_s (spec_l1In.eq ..)).trans ?_
  cases inR (ps.length : Int) 1 7 with
  | false => rfl
  | true =>
    refine (bif_f rfl).trans ((bind_s (spec_IsBase.eq hk hb)).trans ?_)
    cases isBase b with
    | false => rfl
    | true =>
      refine (bif_f rfl).trans ((bind_s (spec_BaseCards.eq hk hb)).trans ((chk_t (rm8 (by omega))).trans ((chk_t (rm8 (by rw [List.length_append]; omega))).trans ?_)))
      generalize he : (fun x6 : List Int => (spec_IsHand.f k x6).bind fun r7 => bif r7 then some ((x6.length : Int) == 52) else some false) = E
      have h := scan (B := List Int) ps (fun m a i => spec_IsPatience.l5 k ps (fun _ => some false) E m i a) (fun _ y => pileFine y) (fun a y => a ++ gl y 0) E (fun _ _ => some false) (fun i a => a.length ≤ 3145728 + i * 1048576)
        (fun m a i h hI => by
          have hy := smRec_gl (hp.2 _ (List.getElem_mem h)) 0
          refine (spec_IsPatience.l5_succ ..).trans ((bif_t (dec_t (by omega))).trans ((chk_t (in_t h)).trans ?_))
          rw [Int.toNat_natCast, getD_lt _ h, wrap_up (by omega)]
          refine (bind_s (spec_IsPile.eq hk _ hy)).trans ?_
          unfold pileFine
          cases isPile (gl ps[i] 0) (gi ps[i] 1) with
          | false => rfl
          | true =>
            refine (bif_f rfl).trans ?_
            cases decide (((gl ps[i] 0).length : Int) > 0) with
            | false => exact (bif_f rfl).trans ((chk_t (rm8 (by omega))).trans rfl)
            | true =>
              refine (bif_t rfl).trans ?_
              cases (gi ps[i] 1 == ((gl ps[i] 0).length : Int)) with
              | true => rfl
              | false => exact (bif_f rfl).trans ((chk_t (rm8 (by omega))).trans rfl))
        (fun a i h hI _ => by
          have hy := smRec_gl (hp.2 _ (List.getElem_mem h)) 0
          rw [List.length_append]; omega)
        (fun m a hI => (spec_IsPatience.l5_succ ..).trans (bif_f (dec_f (by omega))))
        ps.length 0 k ((baseCards b ++ st) ++ ws) (by omega) (BIG_lt hk hp.1) (by simp only [List.length_append]; omega)
      refine h.trans ?_
      rw [List.drop_zero, run_all, foldl_gl, ← he]
      cases ps.all pileFine with
      | false => rfl
      | true =>
        refine (bif_t rfl).trans ((bind_s (spec_IsHand.any hk _)).trans ?_)
        have hpm : (baseCards b ++ st ++ ws ++ (ps.map fun y => gl y 0).flatten).Perm ([st, ws, baseCards b] ++ ps.map fun y => gl y 0).flatten := by
          have e : ([st, ws, baseCards b] ++ ps.map fun y => gl y 0).flatten = (st ++ ws ++ baseCards b) ++ (ps.map fun y => gl y 0).flatten := by simp
          rw [e]
          refine List.Perm.append_right _ ?_
          rw [List.append_assoc]
          exact List.perm_append_comm
        unfold whole
        rw [← isHand_perm hpm, ← hpm.length_eq]
        cases isHand (baseCards b ++ st ++ ws ++ (ps.map fun y => gl y 0).flatten) <;> rfl
theorem impl_IsPatience.eq {k : Nat} (hk : BIG ≤ k) {ps : List (List Leaf)} {b st ws : List Int} (hp : smRecs ps) (hb : b.length < 1048577) (hs : st.length < 1048577) (hw : ws.length < 1048577) : impl_IsPatience.f k ps b st ws = some (isPatience ps b st ws) := by
  unfold isPatience
  have hbl := baseCards_len b
  have hp1 := hp.1
  refine (bind_s (impl_InRange.eq ..)).trans ?_
  cases inR (ps.length : Int) 1 7 with
  | false => rfl
  | true =>
    refine (bif_f rfl).trans ((bind_s (impl_IsBase.eq hk hb)).trans ?_)
    cases isBase b with
    | false => rfl
    | true =>
      refine (bif_f rfl).trans ((bind_s (impl_BaseCards.eq hk hb)).trans ?_)
      generalize he : (fun x7 : List (List Int) => (impl_isWhole.f k x7).bind fun r8 => some r8) = E
      have h := scan (B := List (List Int)) ps (fun m a i => impl_IsPatience.l5 k ps (ps.length : Int) (fun _ => some false) E m i a) (fun _ y => pileFine y) (fun a y => a ++ [gl y 0]) E (fun _ _ => some false) (fun i a => a.length ≤ 3 + i)
        (fun m a i h hI => by
          have hy := smRec_gl (hp.2 _ (List.getElem_mem h)) 0
          refine (impl_IsPatience.l5_succ ..).trans ((bif_t (dec_t (by omega))).trans ((chk_t (in_t h)).trans ?_))
          rw [Int.toNat_natCast, getD_lt _ h, wrap_up (by omega)]
          refine (bind_s (impl_IsPile.eq hk _ hy)).trans ?_
          unfold pileFine
          cases hpl : isPile (gl ps[i] 0) (gi ps[i] 1) with
          | false => rfl
          | true =>
            refine (bif_f rfl).trans ?_
            cases hd : decide (((gl ps[i] 0).length : Int) > 0) with
            | false => exact (bif_f rfl).trans ((chk_t (rm24 (by omega))).trans rfl)
            | true =>
              refine (bif_t rfl).trans ((bind_s (impl_OpenCards.eq hk _ hy)).trans ?_)
              have eo : (openCards (gl ps[i] 0) (gi ps[i] 1) == 0) = (gi ps[i] 1 == ((gl ps[i] 0).length : Int)) := by
                unfold openCards
                rw [hpl, cond_true, Bool.eq_iff_iff, beq_iff_eq, beq_iff_eq]; omega
              rw [eo]
              cases (gi ps[i] 1 == ((gl ps[i] 0).length : Int)) with
              | true => rfl
              | false => exact (bif_f rfl).trans ((chk_t (rm24 (by omega))).trans rfl))
        (fun a i h hI _ => by rw [List.length_append, List.length_singleton]; omega)
        (fun m a hI => (impl_IsPatience.l5_succ ..).trans (bif_f (dec_f (by omega))))
        ps.length 0 k [st, ws, baseCards b] (by omega) (BIG_lt hk hp.1) (by simp)
      refine h.trans ?_
      rw [List.drop_zero, run_all, foldl_snoc, ← he]
      cases ps.all pileFine with
      | false => rfl
      | true =>
        refine (bif_t rfl).trans ((bind_s (impl_isWhole.any hk ⟨by simp; omega, fun y hy => ?_⟩)).trans ?_)
        · rcases List.mem_append.1 hy with hy | hy
          · simp only [List.mem_cons, List.not_mem_nil, or_false] at hy
            rcases hy with rfl | rfl | rfl
            · exact hs
            · exact hw
            · omega
          · obtain ⟨z, hz, rfl⟩ := List.mem_map.1 hy
            exact smRec_gl (hp.2 z hz) 0
        · rfl
end Go.Proofs.YtfbafmeeejmgoaaGreat
