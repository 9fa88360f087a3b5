import Derived.Test.YtfbafmeeejmgoaaGreatRows
import Derived.Test.YtfbafmeeejmgoaaGreatVLaw
import Derived.Test.YtfbafmeeejmgoaaGreatMFnMeasured
import Derived.Test.YtfbafmeeejmgoaaGreatPFnMeasured
import Derived.WalkKit
import Derived.ProofKit
import Derived.OpenShut
import Derived.ShutString
import Derived.ChangeOld
import Derived.Below
import Derived.SizedLaws
set_option linter.unusedVariables false
set_option linter.unusedSimpArgs false
open Go
namespace Go.Proofs.YtfbafmeeejmgoaaGreat.fnMeasured
open Go.ChangeShapes Go.WideShapes Go.ChangeAt Go.RowKit
open Go.ChangeMaps (open_string shut_string)
set_option linter.unusedVariables false
theorem own : ownKnob Tryz.prog.godebug = none := by kernel_rfl
theorem laidOut : laidOutB Tryz.prog = true := by kernel_rfl
set_option maxRecDepth 100000 in
theorem lifted (os : Os) (started : os.Started) (H : Type) (enc : TypeId × Value → H) :
    ReturnsInHanded {} Tryz.checked os 3 .any (Rows.fnMeasuredSpec.pre6 enc Tryz.prog Tryz.f3 Rows.fnMeasuredRow.domain false) (Rows.fnMeasuredSpec.post enc Tryz.prog Tryz.f3 false true false false) := by
  refine returnsInHanded_of_change_sized (C := Tryz.checked) own started (by kernel_rfl) Tryz.func3
    (ChangeSpec.witness6 (enc := enc) (C := Tryz.checked) false ⟨#[], #[.slice none 0 0], []⟩ 8 (by kernel_rfl) (by kernel_rfl) (by kernel_rfl) (by kernel_rfl)) ?_
  intro W base args ds gs before hval0 hW hcnd hsz0 _
  have hval : ∀ (j : Nat) t v, Tryz.f3.params[j]? = some t → args[j]? = some v → Value.okWide Tryz.prog W .any base t v := hval0
  have hW' := hW
  obtain ⟨p, q, hA0, hV, rfl, hfz, hnd⟩ := hW
  have hA : DataW.TrodAll enc Tryz.prog W 0 (fun _ => true) true Tryz.f3.params.toList args.toList ds p := hA0
  obtain ⟨rfl, rfl⟩ := trodVars_none hV
  rw [Tryz.params3] at hA hval
  obtain ⟨dvs, hrel, hok0⟩ := V.args_open M.tok (Zf := fun _ => False) (ts := [22]) (by kernel_rfl) (fun j t v e1 e2 => hval j t v (by simpa using e1) (by simpa using e2)) (show DataW.TrodAll enc Tryz.prog W 0 (fun _ => true) true [22] args.toList ds p from hA)
  obtain ⟨v0, vs0, t0, ts0, p0, q0, hargs, rfl, rfl, h0, r0⟩ := trodAll_cons hA
  obtain ⟨rfl, rfl, rfl⟩ := trodAll_nil r0
  obtain rfl : args = #[v0] := by cases args; simp_all
  have lt0 : ∀ x ∈ p0, x.block < W.heap.size := by obtain ⟨m, hm⟩ := h0; exact DataW.trod_lt m _ _ _ hm
  obtain ⟨d0, ds0, rfl, oa0, hok1⟩ := V.okVs_cons hok0
  obtain ⟨e0, rfl, ob0⟩ := V.okV_l (by kernel_rfl) oa0
  obtain ⟨x0, rfl, i0, j0⟩ := V.okL_ints (k := .u8) (show M.tt 22 = some ⟨.slice 5, 1, 24⟩ by kernel_rfl) (by kernel_rfl) ob0
  obtain rfl := V.okVs_nil hok1
  have hc := (laws_FnMeasured.con V.BIG).2 (x0, ()) true (laws_FnMeasured.eq (Nat.le_refl _) j0 i0)
  refine (V.law_calls_frz (V.no_ground (by kernel_rfl) _ _) rfl hc (V.lent_frz hrel)).mono fun e W' ⟨he, bel⟩ => ?_
  subst he
  exact ⟨_, rfl, _, _, _, [], _, [], hW', trodAll_mk1 (shut_bool Tryz.underlying4 _), (trodAll_cons_mk (Below.trod laidOut (by kernel_rfl) (of_decide_eq_true (by kernel_rfl)) h0 bel lt0) trodAll_mk0), rfl, bel.frame _, fun h => by cases h⟩
set_option maxHeartbeats 100000000 in
theorem closed : joinedFacts Tryz.prog 3 Tryz.f3 Rows.fnMeasuredSpec Rows.fnMeasuredRow = true := by
  unfold joinedFacts
  repeat' (with_reducible refine V.and_t ?_ ?_)
  all_goals (as_aux_lemma => kernel_rfl)
theorem over : Rows.fnMeasuredRow.holds Tryz.pinned (OpenSpec.ofChange Rows.fnMeasuredSpec) :=
  OpenClaim.holds_of_wide 3 Tryz.f3 rfl rfl rfl rfl rfl rfl rfl ⟨rfl, rfl, rfl, rfl, rfl⟩ rfl rfl rfl rfl rfl (by kernel_rfl) Tryz.func3 closed
    (of_decide_eq_true (by kernel_rfl)) (by unfold Func.isWrapper; first | (rw [if_pos (by decide +kernel)]; kernel_rfl) | (rw [if_neg (by decide +kernel)]; exact ⟨rfl, rfl⟩))
    (fun os started H enc _ => lifted os started H enc)
theorem proved : Rows.FnMeasuredSaid := over
#print axioms proved
end Go.Proofs.YtfbafmeeejmgoaaGreat.fnMeasured
namespace Go.Proofs.YtfbafmeeejmgoaaGreat
/-- The row, under a short name, for the claim. -/
theorem fnMeasured_holds : Rows.FnMeasuredSaid := fnMeasured.proved
end Go.Proofs.YtfbafmeeejmgoaaGreat
