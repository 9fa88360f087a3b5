import Derived.Test.YtfmmdbnkeadieaaRows
import Derived.Test.YtfmmdbnkeadieaaVLaw
import Derived.Test.YtfmmdbnkeadieaaMFnExactOpenShare
import Derived.Test.YtfmmdbnkeadieaaPFnExactOpenShare
import Derived.WalkKit
import Derived.ProofKit
import Derived.OpenShut
import Derived.ShutString
import Derived.ChangeOld
import Derived.Below
import Derived.SizedLaws
set_option linter.unusedVariables false
set_option linter.unusedSimpArgs false
namespace Go.Proofs.Ytfmmdbnkeadieaa
open Go Go.Proofs.Ytfmmdbnkeadieaa.V
theorem laws_FnExactOpenShare.eq {k : Nat} (hk : BIG ≤ k) {a0_0 : List (List Leaf)} {a0_1 : List Int} {a0_2 : List Int} {a0_3 : List Int} (j_a0_0 : a0_0.length ≤ maxLen) (i_a0_0 : ∀ y ∈ a0_0, recWf [true, false] y) (j_a0_1 : a0_1.length ≤ maxLen) (i_a0_1 : ∀ n ∈ a0_1, wfI .i64 n) (j_a0_2 : a0_2.length ≤ maxLen) (i_a0_2 : ∀ n ∈ a0_2, wfI .i64 n) (j_a0_3 : a0_3.length ≤ maxLen) (i_a0_3 : ∀ n ∈ a0_3, wfI .i64 n) : laws_FnExactOpenShare.f k a0_0 a0_1 a0_2 a0_3 = some true := by
  obtain ⟨z0, e0, c0⟩ := laws_szPatience.eq hk (left := 1048576) (by omega) (by omega) j_a0_0 i_a0_0 j_a0_1 j_a0_2 j_a0_3
  rcases c0 with c0 | ⟨p0, q0, s_a0_0_0, s_a0_0_1, s_a0_1_0, s_a0_2_0, s_a0_3_0⟩
  · exact (bind_s e0).trans (bif_t (dec_t c0))
  obtain ⟨r, hs, hi⟩ := FnExactOpenShare.same hk a0_0 a0_1 a0_2 a0_3 s_a0_0_0 s_a0_0_1 i_a0_0 s_a0_1_0 i_a0_1 s_a0_2_0 i_a0_2 s_a0_3_0 i_a0_3
  exact (bind_s e0).trans <| (bif_f (dec_f (by omega))).trans <| (bind_s (laws_toPatience.eq hk s_a0_0_0 (fun y hy => ⟨s_a0_0_1 y hy, i_a0_0 y hy⟩) s_a0_1_0 s_a0_2_0 s_a0_3_0)).trans <| (bind_s hs).trans <| (bind_s (laws_toPatience.eq hk s_a0_0_0 (fun y hy => ⟨s_a0_0_1 y hy, i_a0_0 y hy⟩) s_a0_1_0 s_a0_2_0 s_a0_3_0)).trans <| (bind_s hi).trans <| (bif_f (by simp)).trans <| (bind_s (laws_toPatience.eq hk s_a0_0_0 (fun y hy => ⟨s_a0_0_1 y hy, i_a0_0 y hy⟩) s_a0_1_0 s_a0_2_0 s_a0_3_0)).trans <| (bind_s (laws_eqPatience.eq hk s_a0_0_0 s_a0_0_1 s_a0_1_0 s_a0_2_0 s_a0_3_0)).trans <| (bif_f (by simp)).trans <| rfl
end Go.Proofs.Ytfmmdbnkeadieaa
namespace Go.Proofs.Ytfmmdbnkeadieaa.fnExactOpenShare
open Go.ChangeShapes Go.WideShapes Go.ChangeAt Go.RowKit
open Go.ChangeMaps (open_string shut_string)
set_option linter.unusedVariables false
theorem own : ownKnob Try.prog.godebug = none := by kernel_rfl
theorem laidOut : laidOutB Try.prog = true := by kernel_rfl
set_option maxRecDepth 100000 in
theorem lifted (os : Os) (started : os.Started) (H : Type) (enc : TypeId × Value → H) :
    ReturnsInHanded {} Try.checked os 5 .any (Rows.fnExactOpenShareSpec.pre6 enc Try.prog Try.f5 Rows.fnExactOpenShareRow.domain false) (Rows.fnExactOpenShareSpec.post enc Try.prog Try.f5 false true false false) := by
  refine returnsInHanded_of_change_sized (C := Try.checked) own started (by kernel_rfl) Try.func5
    (ChangeSpec.witness6 (enc := enc) (C := Try.checked) false ⟨#[], #[.agg #[.slice none 0 0, .slice none 0 0, .slice none 0 0, .slice none 0 0]], []⟩ 8 (by kernel_rfl) (by kernel_rfl) (by kernel_rfl) (by kernel_rfl)) ?_
  intro W base args ds gs before hval0 hW hcnd hsz0 _
  have hval : ∀ (j : Nat) t v, Try.f5.params[j]? = some t → args[j]? = some v → Value.okWide Try.prog W .any base t v := hval0
  have hW' := hW
  obtain ⟨p, q, hA0, hV, rfl, hfz, hnd⟩ := hW
  have hA : DataW.TrodAll enc Try.prog W 0 (fun _ => true) true Try.f5.params.toList args.toList ds p := hA0
  obtain ⟨rfl, rfl⟩ := trodVars_none hV
  rw [Try.params5] at hA hval
  obtain ⟨dvs, hrel, hok0⟩ := V.args_open M.tok (Zf := fun _ => False) (ts := [46]) (by kernel_rfl) (fun j t v e1 e2 => hval j t v (by simpa using e1) (by simpa using e2)) (show DataW.TrodAll enc Try.prog W 0 (fun _ => true) true [46] args.toList ds p from hA)
  obtain ⟨v0, vs0, t0, ts0, p0, q0, hargs, rfl, rfl, h0, r0⟩ := trodAll_cons hA
  obtain ⟨rfl, rfl, rfl⟩ := trodAll_nil r0
  obtain rfl : args = #[v0] := by cases args; simp_all
  have lt0 : ∀ x ∈ p0, x.block < W.heap.size := by obtain ⟨m, hm⟩ := h0; exact DataW.trod_lt m _ _ _ hm
  obtain ⟨d0, ds0, rfl, oa0, hok1⟩ := V.okVs_cons hok0
  obtain ⟨e0, rfl, o0_0⟩ := V.okV_agg (show M.tt 46 = some ⟨.struct [(0, 44), (1, 22), (2, 22), (3, 22)], 4, 96⟩ by kernel_rfl) oa0
  rw [show V.leafTypes M.tt V.depth 46 = [44, 22, 22, 22] by kernel_rfl] at o0_0
  obtain ⟨e0_0, es0_0, rfl, p0_0, o0_1⟩ := V.okLs_cons o0_0
  obtain ⟨x0_0, rfl, i0_0, j0_0⟩ := V.okL_recs (sg := [true, false]) (show M.tt 44 = some ⟨.slice 117, 1, 24⟩ by kernel_rfl) (by kernel_rfl) p0_0
  obtain ⟨e0_1, es0_1, rfl, p0_1, o0_2⟩ := V.okLs_cons o0_1
  obtain ⟨x0_1, rfl, i0_1, j0_1⟩ := V.okL_ints (k := .i64) (show M.tt 22 = some ⟨.slice 3, 1, 24⟩ by kernel_rfl) (by kernel_rfl) p0_1
  obtain ⟨e0_2, es0_2, rfl, p0_2, o0_3⟩ := V.okLs_cons o0_2
  obtain ⟨x0_2, rfl, i0_2, j0_2⟩ := V.okL_ints (k := .i64) (show M.tt 22 = some ⟨.slice 3, 1, 24⟩ by kernel_rfl) (by kernel_rfl) p0_2
  obtain ⟨e0_3, es0_3, rfl, p0_3, o0_4⟩ := V.okLs_cons o0_3
  obtain ⟨x0_3, rfl, i0_3, j0_3⟩ := V.okL_ints (k := .i64) (show M.tt 22 = some ⟨.slice 3, 1, 24⟩ by kernel_rfl) (by kernel_rfl) p0_3
  obtain rfl := V.okLs_nil o0_4
  obtain rfl := V.okVs_nil hok1
  have hc := (laws_FnExactOpenShare.con V.BIG).2 ((x0_0, x0_1, x0_2, x0_3, ()), ()) true (laws_FnExactOpenShare.eq (Nat.le_refl _) j0_0 i0_0 j0_1 i0_1 j0_2 i0_2 j0_3 i0_3)
  refine (V.law_calls rfl hc hrel).mono fun e W' ⟨he, bel⟩ => ?_
  subst he
  exact ⟨_, rfl, _, _, _, [], _, [], hW', trodAll_mk1 (shut_bool Try.underlying4 _), (trodAll_cons_mk (Below.trod laidOut (by kernel_rfl) (of_decide_eq_true (by kernel_rfl)) h0 bel lt0) trodAll_mk0), rfl, bel.frame _, fun h => by cases h⟩
set_option maxHeartbeats 100000000 in
theorem closed : joinedFacts Try.prog 5 Try.f5 Rows.fnExactOpenShareSpec Rows.fnExactOpenShareRow = true := by
  unfold joinedFacts
  repeat' (with_reducible refine V.and_t ?_ ?_)
  all_goals (as_aux_lemma => kernel_rfl)
theorem over : Rows.fnExactOpenShareRow.holds Try.pinned (OpenSpec.ofChange Rows.fnExactOpenShareSpec) :=
  OpenClaim.holds_of_wide 5 Try.f5 rfl rfl rfl rfl rfl rfl rfl ⟨rfl, rfl, rfl, rfl, rfl⟩ rfl rfl rfl rfl rfl (by kernel_rfl) Try.func5 closed
    (of_decide_eq_true (by kernel_rfl)) (by unfold Func.isWrapper; first | (rw [if_pos (by decide +kernel)]; kernel_rfl) | (rw [if_neg (by decide +kernel)]; exact ⟨rfl, rfl⟩))
    (fun os started H enc _ => lifted os started H enc)
theorem proved : Rows.FnExactOpenShareSaid := over
#print axioms proved
end Go.Proofs.Ytfmmdbnkeadieaa.fnExactOpenShare
namespace Go.Proofs.Ytfmmdbnkeadieaa
/-- The row, under a short name, for the claim. -/
theorem fnExactOpenShare_holds : Rows.FnExactOpenShareSaid := fnExactOpenShare.proved
end Go.Proofs.Ytfmmdbnkeadieaa
