import Derived.Test.YtfkejiljabmaaaaRows
import Derived.Test.YtfkejiljabmaaaaVLaw
import Derived.Test.YtfkejiljabmaaaaMFnExactCountEvents
import Derived.Test.YtfkejiljabmaaaaPFnExactCountEvents
import Derived.WalkKit
import Derived.ProofKit
import Derived.OpenShut
import Derived.ShutString
import Derived.ChangeOld
import Derived.Below
import Derived.SizedLaws
set_option linter.unusedVariables false
set_option linter.unusedSimpArgs false
namespace Go.Proofs.Ytfkejiljabmaaaa
open Go Go.Proofs.Ytfkejiljabmaaaa.V
theorem laws_FnExactCountEvents.eq {k : Nat} (hk : BIG ≤ k) {a0 : List (List Leaf)} {a1 : Int} (j_a0 : a0.length ≤ maxLen) (i_a0 : ∀ y ∈ a0, recWf [false, false, true, true] y) (i_a1 : wfI .i64 a1) : laws_FnExactCountEvents.f k a0 a1 = some true := by
  obtain ⟨z0, e0, c0⟩ := laws_szEventS.eq hk (left := 1048576) (by omega) (by omega) j_a0 i_a0
  rcases c0 with c0 | ⟨p0, q0, s_a0_0, s_a0_1⟩
  · exact (bind_s e0).trans (bif_t (dec_t c0))
  obtain ⟨r, hs, hi⟩ := FnExactCountEvents.same hk a0 a1 s_a0_0 s_a0_1 i_a0 i_a1
  exact (bind_s e0).trans <| (bif_f (dec_f (by omega))).trans <| (bind_s (laws_toEventS.eq hk s_a0_0 (fun y hy => ⟨s_a0_1 y hy, i_a0 y hy⟩))).trans <| (bind_s hs).trans <| (bind_s (laws_toEventS.eq hk s_a0_0 (fun y hy => ⟨s_a0_1 y hy, i_a0 y hy⟩))).trans <| (bind_s hi).trans <| (bif_f (by simp)).trans <| (bind_s (laws_toEventS.eq hk s_a0_0 (fun y hy => ⟨s_a0_1 y hy, i_a0 y hy⟩))).trans <| (bind_s (laws_eqEventS.eq hk s_a0_0 s_a0_1)).trans <| (bif_f (by simp)).trans <| rfl
end Go.Proofs.Ytfkejiljabmaaaa
namespace Go.Proofs.Ytfkejiljabmaaaa.fnExactCountEvents
open Go.ChangeShapes Go.WideShapes Go.ChangeAt Go.RowKit
open Go.ChangeMaps (open_string shut_string)
set_option linter.unusedVariables false
theorem own : ownKnob Try.prog.godebug = none := by kernel_rfl
theorem laidOut : laidOutB Try.prog = true := by kernel_rfl
set_option maxRecDepth 100000 in
theorem lifted (os : Os) (started : os.Started) (H : Type) (enc : TypeId × Value → H) :
    ReturnsInHanded {} Try.checked os 6 .any (Rows.fnExactCountEventsSpec.pre6 enc Try.prog Try.f6 Rows.fnExactCountEventsRow.domain false) (Rows.fnExactCountEventsSpec.post enc Try.prog Try.f6 false true false false) := by
  refine returnsInHanded_of_change_sized (C := Try.checked) own started (by kernel_rfl) Try.func6
    (ChangeSpec.witness6 (enc := enc) (C := Try.checked) false ⟨#[], #[.slice none 0 0, .int .i64 0], []⟩ 8 (by kernel_rfl) (by kernel_rfl) (by kernel_rfl) (by kernel_rfl)) ?_
  intro W base args ds gs before hval0 hW hcnd hsz0 _
  have hval : ∀ (j : Nat) t v, Try.f6.params[j]? = some t → args[j]? = some v → Value.okWide Try.prog W .any base t v := hval0
  have hW' := hW
  obtain ⟨p, q, hA0, hV, rfl, hfz, hnd⟩ := hW
  have hA : DataW.TrodAll enc Try.prog W 0 (fun _ => true) true Try.f6.params.toList args.toList ds p := hA0
  obtain ⟨rfl, rfl⟩ := trodVars_none hV
  rw [Try.params6] at hA hval
  obtain ⟨dvs, hrel, hok0⟩ := V.args_open M.tok (Zf := fun _ => False) (ts := [34, 3]) (by kernel_rfl) (fun j t v e1 e2 => hval j t v (by simpa using e1) (by simpa using e2)) (show DataW.TrodAll enc Try.prog W 0 (fun _ => true) true [34, 3] args.toList ds p from hA)
  obtain ⟨v0, vs0, t0, ts0, p0, q0, hargs, rfl, rfl, h0, r0⟩ := trodAll_cons hA
  obtain ⟨v1, vs1, t1, ts1, p1, q1, rfl, rfl, rfl, h1, r1⟩ := trodAll_cons r0
  obtain ⟨rfl, rfl, rfl⟩ := trodAll_nil r1
  obtain rfl : args = #[v0, v1] := by cases args; simp_all
  have lt0 : ∀ x ∈ p0, x.block < W.heap.size := by obtain ⟨m, hm⟩ := h0; exact DataW.trod_lt m _ _ _ hm
  have lt1 : ∀ x ∈ p1, x.block < W.heap.size := by obtain ⟨m, hm⟩ := h1; exact DataW.trod_lt m _ _ _ hm
  obtain ⟨d0, ds0, rfl, oa0, hok1⟩ := V.okVs_cons hok0
  obtain ⟨e0, rfl, ob0⟩ := V.okV_l (by kernel_rfl) oa0
  obtain ⟨x0, rfl, i0, j0⟩ := V.okL_recs (sg := [false, false, true, true]) (show M.tt 34 = some ⟨.slice 75, 1, 24⟩ by kernel_rfl) (by kernel_rfl) ob0
  obtain ⟨d1, ds1, rfl, oa1, hok2⟩ := V.okVs_cons hok1
  obtain ⟨e1, rfl, ob1⟩ := V.okV_l (by kernel_rfl) oa1
  obtain ⟨x1, rfl, i1⟩ := V.okL_int (show M.tt 3 = some ⟨.int .i64, 1, 8⟩ by kernel_rfl) ob1
  obtain rfl := V.okVs_nil hok2
  have hc := laws_FnExactCountEvents.con V.BIG x0 x1 (laws_FnExactCountEvents.eq (Nat.le_refl _) j0 i0 i1)
  refine (V.law_calls rfl hc hrel).mono fun e W' ⟨he, bel⟩ => ?_
  subst he
  exact ⟨_, rfl, _, _, _, [], _, [], hW', trodAll_mk1 (shut_bool Try.underlying4 _), (trodAll_cons_mk (Below.trod laidOut (by kernel_rfl) (of_decide_eq_true (by kernel_rfl)) h0 bel lt0) (trodAll_cons_mk (Below.trod laidOut (by kernel_rfl) (of_decide_eq_true (by kernel_rfl)) h1 bel lt1) trodAll_mk0)), rfl, bel.frame _, fun h => by cases h⟩
theorem over : Rows.fnExactCountEventsRow.holds Try.pinned (OpenSpec.ofChange Rows.fnExactCountEventsSpec) :=
  OpenClaim.holds_of_wide 6 Try.f6 rfl rfl rfl rfl rfl rfl rfl ⟨rfl, rfl, rfl, rfl, rfl⟩ rfl rfl rfl rfl rfl (by kernel_rfl) Try.func6 (by kernel_rfl)
    (of_decide_eq_true (by kernel_rfl)) (by unfold Func.isWrapper; first | (rw [if_pos (by decide +kernel)]; kernel_rfl) | (rw [if_neg (by decide +kernel)]; exact ⟨rfl, rfl⟩))
    (fun os started H enc _ => lifted os started H enc)
theorem proved : Rows.FnExactCountEventsSaid := over
#print axioms proved
end Go.Proofs.Ytfkejiljabmaaaa.fnExactCountEvents
namespace Go.Proofs.Ytfkejiljabmaaaa
/-- The row, under a short name, for the claim. -/
theorem fnExactCountEvents_holds : Rows.FnExactCountEventsSaid := fnExactCountEvents.proved
end Go.Proofs.Ytfkejiljabmaaaa
