/- How much of a patience lies open, in plain Lean. Conditions: enough rounds, lists of at most 2^20. -/
import Derived.Test.YtfbafmeeejmgoaaGreatKit
import Derived.Test.YtfbafmeeejmgoaaGreatFFnMeasured
import Derived.Test.YtfbafmeeejmgoaaGreatPPatience
set_option linter.unusedVariables false
set_option linter.unusedSimpArgs false
namespace Go.Proofs.YtfbafmeeejmgoaaGreat
open Go Go.Proofs.YtfbafmeeejmgoaaGreat.V
def openStep (b : Int) (y : List Leaf) : Int := b + openCards (gl y 0) (gi y 1)
def openShare (ps : List (List Leaf)) (b st ws : List Int) : Int := bif isPatience ps b st ws then (100 * ps.foldl openStep ((ws.length : Int) + ((baseCards b).length : Int))).tdiv 52 else 0
theorem openSum_bd : ∀ (ps : List (List Leaf)) (n : Int), 0 ≤ n → 0 ≤ ps.foldl openStep n ∧ ps.foldl openStep n ≤ n + 52 * (ps.length : Int)
  | [], n, h => by simp; omega
  | y :: ps, n, h => by
    have h1 := openCards_bd (gl y 0) (gi y 1)
    have h2 := openSum_bd ps (openStep n y) (by unfold openStep; omega)
    rw [List.foldl_cons, List.length_cons]
    have h3 : openStep n y = n + openCards (gl y 0) (gi y 1) := rfl
    omega
theorem share_wrap {x : Int} (h : 0 ≤ x ∧ x ≤ 1000000000) : IntKind.wrap .i64 ((IntKind.wrap .i64 (100 * x)).tdiv 52) = (100 * x).tdiv 52 := by
  have e : IntKind.wrap .i64 (100 * x) = 100 * x := wrap_i64 (by omega) (by omega)
  rw [e, Int.tdiv_eq_ediv_of_nonneg (by omega)]
  exact wrap_i64 (by omega) (by omega)
theorem impl_OpenShare.eq {k : Nat} (hk : BIG ≤ k) {ps : List (List Leaf)} {b st ws : List Int} (hp : smRecs ps) (hb : b.length < 1048577) (hs : st.length < 1048577) (hw : ws.length < 1048577) : impl_OpenShare.f k ps b st ws = some (openShare ps b st ws) := by
  unfold openShare
  have hbl := baseCards_len b
  have hp1 := hp.1
  refine (bind_s (impl_IsPatience.eq hk hp hb hs hw)).trans ?_
  cases isPatience ps b st ws with
  | false => rfl
  | true =>
    refine (bif_f rfl).trans ((bind_s (impl_BaseCards.eq hk hb)).trans ?_)
    have h := scan (B := Int) ps (fun m a i => impl_OpenShare.l5 k ps (ps.length : Int) (fun x4 => some (IntKind.wrap .i64 ((IntKind.wrap .i64 (100 * x4)).tdiv 52))) m a i) (fun _ _ => true) openStep (fun x4 => some (IntKind.wrap .i64 ((IntKind.wrap .i64 (100 * x4)).tdiv 52))) (fun _ _ => none) (fun i a => 0 ≤ a ∧ a ≤ 1048700 + (i : Int) * 52)
      (fun m a i h hI => by
        have hy := smRec_gl (hp.2 _ (List.getElem_mem h)) 0
        have h1 := openCards_bd (gl ps[i] 0) (gi ps[i] 1)
        refine (impl_OpenShare.l5_succ ..).trans ((bif_t (dec_t (by omega))).trans ((chk_t (in_t h)).trans ?_))
        rw [Int.toNat_natCast, getD_lt _ h, wrap_up (by omega)]
        refine (bind_s (impl_OpenCards.eq hk _ hy)).trans ?_
        rw [wrap_i64 (by omega) (by omega)]
        rfl)
      (fun a i h hI _ => by
        have h1 := openCards_bd (gl ps[i] 0) (gi ps[i] 1)
        have h3 : openStep a ps[i] = a + openCards (gl ps[i] 0) (gi ps[i] 1) := rfl
        omega)
      (fun m a hI => (impl_OpenShare.l5_succ ..).trans (bif_f (dec_f (by omega))))
      ps.length 0 k ((ws.length : Int) + ((baseCards b).length : Int)) (by omega) (BIG_lt hk hp.1) (by omega)
    rw [wrap_i64 (by omega) (by omega)]
    refine h.trans ?_
    have hbd := openSum_bd ps ((ws.length : Int) + ((baseCards b).length : Int)) (by omega)
    rw [List.drop_zero, run_fold, share_wrap (by omega)]
    rfl
end Go.Proofs.YtfbafmeeejmgoaaGreat
