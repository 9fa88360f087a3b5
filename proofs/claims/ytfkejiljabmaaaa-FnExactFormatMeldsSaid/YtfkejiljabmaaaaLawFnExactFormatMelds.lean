import Derived.Test.YtfkejiljabmaaaaRows
import Derived.Test.YtfkejiljabmaaaaVLaw
import Derived.Test.YtfkejiljabmaaaaMFnExactFormatMelds
import Derived.Test.YtfkejiljabmaaaaPFnExactFormatMelds
import Derived.WalkKit
import Derived.ProofKit
import Derived.OpenShut
import Derived.ShutString
import Derived.ChangeOld
import Derived.Below
import Derived.SizedLaws
set_option linter.unusedVariables false
set_option linter.unusedSimpArgs false
namespace Go.Proofs.Ytfkejiljabmaaaa
open Go Go.Proofs.Ytfkejiljabmaaaa.V
theorem laws_FnExactFormatMelds.eq {k : Nat} (hk : BIG ≤ k) {a0 : List (List Int)} (j_a0 : a0.length ≤ maxLen) (i_a0 : ∀ y ∈ a0, y.length ≤ maxLen ∧ ∀ n ∈ y, wfI .i64 n) : laws_FnExactFormatMelds.f k a0 = some true := by
  obtain ⟨z0, e0, c0⟩ := laws_szIntSS.eq hk (left := 1048576) (by omega) (by omega) j_a0 (fun y hy => (i_a0 y hy).1)
  rcases c0 with c0 | ⟨p0, q0, s_a0_0, s_a0_1⟩
  · exact (bind_s e0).trans (bif_t (dec_t c0))
  obtain ⟨r, hs, hi⟩ := FnExactFormatMelds.same hk a0 s_a0_0 s_a0_1 (fun y hy => (i_a0 y hy).2)
  exact (bind_s e0).trans <| (bif_f (dec_f (by omega))).trans <| (bind_s (laws_toIntSS.eq hk s_a0_0 s_a0_1)).trans <| (bind_s hs).trans <| (bind_s (laws_toIntSS.eq hk s_a0_0 s_a0_1)).trans <| (bind_s hi).trans <| (bif_f (by simp)).trans <| (bind_s (laws_toIntSS.eq hk s_a0_0 s_a0_1)).trans <| (bind_s (laws_eqIntSS.eq hk s_a0_0 s_a0_1)).trans <| (bif_f (by simp)).trans <| rfl
end Go.Proofs.Ytfkejiljabmaaaa
namespace Go.Proofs.Ytfkejiljabmaaaa.fnExactFormatMelds
open Go.ChangeShapes Go.WideShapes Go.ChangeAt Go.RowKit
open Go.ChangeMaps (open_string shut_string)
set_option linter.unusedVariables false
theorem own : ownKnob Try.prog.godebug = none := by kernel_rfl
theorem laidOut : laidOutB Try.prog = true := by kernel_rfl
set_option maxRecDepth 100000 in
theorem lifted (os : Os) (started : os.Started) (H : Type) (enc : TypeId × Value → H) :
    ReturnsInHanded {} Try.checked os 9 .any (Rows.fnExactFormatMeldsSpec.pre6 enc Try.prog Try.f9 Rows.fnExactFormatMeldsRow.domain false) (Rows.fnExactFormatMeldsSpec.post enc Try.prog Try.f9 false true false false) := by
  refine returnsInHanded_of_change_sized (C := Try.checked) own started (by kernel_rfl) Try.func9
    (ChangeSpec.witness6 (enc := enc) (C := Try.checked) false ⟨#[], #[.slice none 0 0], []⟩ 8 (by kernel_rfl) (by kernel_rfl) (by kernel_rfl) (by kernel_rfl)) ?_
  intro W base args ds gs before hval0 hW hcnd hsz0 _
  have hval : ∀ (j : Nat) t v, Try.f9.params[j]? = some t → args[j]? = some v → Value.okWide Try.prog W .any base t v := hval0
  have hW' := hW
  obtain ⟨p, q, hA0, hV, rfl, hfz, hnd⟩ := hW
  have hA : DataW.TrodAll enc Try.prog W 0 (fun _ => true) true Try.f9.params.toList args.toList ds p := hA0
  obtain ⟨rfl, rfl⟩ := trodVars_none hV
  rw [Try.params9] at hA hval
  obtain ⟨dvs, hrel, hok0⟩ := V.args_open M.tok (Zf := fun _ => False) (ts := [28]) (by kernel_rfl) (fun j t v e1 e2 => hval j t v (by simpa using e1) (by simpa using e2)) (show DataW.TrodAll enc Try.prog W 0 (fun _ => true) true [28] args.toList ds p from hA)
  obtain ⟨v0, vs0, t0, ts0, p0, q0, hargs, rfl, rfl, h0, r0⟩ := trodAll_cons hA
  obtain ⟨rfl, rfl, rfl⟩ := trodAll_nil r0
  obtain rfl : args = #[v0] := by cases args; simp_all
  have lt0 : ∀ x ∈ p0, x.block < W.heap.size := by obtain ⟨m, hm⟩ := h0; exact DataW.trod_lt m _ _ _ hm
  obtain ⟨d0, ds0, rfl, oa0, hok1⟩ := V.okVs_cons hok0
  obtain ⟨e0, rfl, ob0⟩ := V.okV_l (by kernel_rfl) oa0
  obtain ⟨x0, rfl, i0, j0⟩ := V.okL_rows (show M.tt 28 = some ⟨.slice 24, 1, 24⟩ by kernel_rfl) (by kernel_rfl) ob0
  obtain rfl := V.okVs_nil hok1
  have hc := laws_FnExactFormatMelds.con V.BIG x0 (laws_FnExactFormatMelds.eq (Nat.le_refl _) j0 i0)
  refine (V.law_calls rfl hc hrel).mono fun e W' ⟨he, bel⟩ => ?_
  subst he
  exact ⟨_, rfl, _, _, _, [], _, [], hW', trodAll_mk1 (shut_bool Try.underlying4 _), (trodAll_cons_mk (Below.trod laidOut (by kernel_rfl) (of_decide_eq_true (by kernel_rfl)) h0 bel lt0) trodAll_mk0), rfl, bel.frame _, fun h => by cases h⟩
theorem over : Rows.fnExactFormatMeldsRow.holds Try.pinned (OpenSpec.ofChange Rows.fnExactFormatMeldsSpec) :=
  OpenClaim.holds_of_wide 9 Try.f9 rfl rfl rfl rfl rfl rfl rfl ⟨rfl, rfl, rfl, rfl, rfl⟩ rfl rfl rfl rfl rfl (by kernel_rfl) Try.func9 (by kernel_rfl)
    (of_decide_eq_true (by kernel_rfl)) (by unfold Func.isWrapper; first | (rw [if_pos (by decide +kernel)]; kernel_rfl) | (rw [if_neg (by decide +kernel)]; exact ⟨rfl, rfl⟩))
    (fun os started H enc _ => lifted os started H enc)
theorem proved : Rows.FnExactFormatMeldsSaid := over
#print axioms proved
end Go.Proofs.Ytfkejiljabmaaaa.fnExactFormatMelds
namespace Go.Proofs.Ytfkejiljabmaaaa
/-- The row, under a short name, for the claim. -/
theorem fnExactFormatMelds_holds : Rows.FnExactFormatMeldsSaid := fnExactFormatMelds.proved
end Go.Proofs.Ytfkejiljabmaaaa
