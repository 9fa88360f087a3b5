import Derived.Test.YtfkejiljabmaaaaRows
import Derived.Test.YtfkejiljabmaaaaVLaw
import Derived.Test.YtfkejiljabmaaaaMFnExactWinsOf
import Derived.Test.YtfkejiljabmaaaaPFnExactWinsOf
import Derived.WalkKit
import Derived.ProofKit
import Derived.OpenShut
import Derived.ShutString
import Derived.ChangeOld
import Derived.Below
import Derived.SizedLaws
set_option linter.unusedVariables false
set_option linter.unusedSimpArgs false
namespace Go.Proofs.Ytfkejiljabmaaaa
open Go Go.Proofs.Ytfkejiljabmaaaa.V
theorem laws_FnExactWinsOf.eq {k : Nat} (hk : BIG ≤ k) {a0 : Int} {a1 : List (List Int)} {a2 : Int} (i_a0 : wfI .i64 a0) (j_a1 : a1.length ≤ maxLen) (i_a1 : ∀ y ∈ a1, y.length ≤ maxLen ∧ ∀ n ∈ y, wfI .i64 n) (i_a2 : wfI .i64 a2) : laws_FnExactWinsOf.f k a0 a1 a2 = some true := by
  obtain ⟨z0, e0, c0⟩ := laws_szIntSS.eq hk (left := 1048576) (by omega) (by omega) j_a1 (fun y hy => (i_a1 y hy).1)
  rcases c0 with c0 | ⟨p0, q0, s_a1_0, s_a1_1⟩
  · exact (bind_s e0).trans (bif_t (dec_t c0))
  obtain ⟨r, hs, hi⟩ := FnExactWinsOf.same hk a0 a1 a2 i_a0 s_a1_0 s_a1_1 (fun y hy => (i_a1 y hy).2) i_a2
  exact (bind_s e0).trans <| (bif_f (dec_f (by omega))).trans <| (bind_s (laws_toIntSS.eq hk s_a1_0 s_a1_1)).trans <| (bind_s hs).trans <| (bind_s (laws_toIntSS.eq hk s_a1_0 s_a1_1)).trans <| (bind_s hi).trans <| (bif_f (by simp)).trans <| (bind_s (laws_toIntSS.eq hk s_a1_0 s_a1_1)).trans <| (bind_s (laws_eqIntSS.eq hk s_a1_0 s_a1_1)).trans <| (bif_f (by simp)).trans <| rfl
end Go.Proofs.Ytfkejiljabmaaaa
namespace Go.Proofs.Ytfkejiljabmaaaa.fnExactWinsOf
open Go.ChangeShapes Go.WideShapes Go.ChangeAt Go.RowKit
open Go.ChangeMaps (open_string shut_string)
set_option linter.unusedVariables false
theorem own : ownKnob Try.prog.godebug = none := by kernel_rfl
theorem laidOut : laidOutB Try.prog = true := by kernel_rfl
set_option maxRecDepth 100000 in
theorem lifted (os : Os) (started : os.Started) (H : Type) (enc : TypeId × Value → H) :
    ReturnsInHanded {} Try.checked os 7 .any (Rows.fnExactWinsOfSpec.pre6 enc Try.prog Try.f7 Rows.fnExactWinsOfRow.domain false) (Rows.fnExactWinsOfSpec.post enc Try.prog Try.f7 false true false false) := by
  refine returnsInHanded_of_change_sized (C := Try.checked) own started (by kernel_rfl) Try.func7
    (ChangeSpec.witness6 (enc := enc) (C := Try.checked) false ⟨#[], #[.int .i64 0, .slice none 0 0, .int .i64 0], []⟩ 8 (by kernel_rfl) (by kernel_rfl) (by kernel_rfl) (by kernel_rfl)) ?_
  intro W base args ds gs before hval0 hW hcnd hsz0 _
  have hval : ∀ (j : Nat) t v, Try.f7.params[j]? = some t → args[j]? = some v → Value.okWide Try.prog W .any base t v := hval0
  have hW' := hW
  obtain ⟨p, q, hA0, hV, rfl, hfz, hnd⟩ := hW
  have hA : DataW.TrodAll enc Try.prog W 0 (fun _ => true) true Try.f7.params.toList args.toList ds p := hA0
  obtain ⟨rfl, rfl⟩ := trodVars_none hV
  rw [Try.params7] at hA hval
  obtain ⟨dvs, hrel, hok0⟩ := V.args_open M.tok (Zf := fun _ => False) (ts := [3, 28, 3]) (by kernel_rfl) (fun j t v e1 e2 => hval j t v (by simpa using e1) (by simpa using e2)) (show DataW.TrodAll enc Try.prog W 0 (fun _ => true) true [3, 28, 3] args.toList ds p from hA)
  obtain ⟨v0, vs0, t0, ts0, p0, q0, hargs, rfl, rfl, h0, r0⟩ := trodAll_cons hA
  obtain ⟨v1, vs1, t1, ts1, p1, q1, rfl, rfl, rfl, h1, r1⟩ := trodAll_cons r0
  obtain ⟨v2, vs2, t2, ts2, p2, q2, rfl, rfl, rfl, h2, r2⟩ := trodAll_cons r1
  obtain ⟨rfl, rfl, rfl⟩ := trodAll_nil r2
  obtain rfl : args = #[v0, v1, v2] := by cases args; simp_all
  have lt0 : ∀ x ∈ p0, x.block < W.heap.size := by obtain ⟨m, hm⟩ := h0; exact DataW.trod_lt m _ _ _ hm
  have lt1 : ∀ x ∈ p1, x.block < W.heap.size := by obtain ⟨m, hm⟩ := h1; exact DataW.trod_lt m _ _ _ hm
  have lt2 : ∀ x ∈ p2, x.block < W.heap.size := by obtain ⟨m, hm⟩ := h2; exact DataW.trod_lt m _ _ _ hm
  obtain ⟨d0, ds0, rfl, oa0, hok1⟩ := V.okVs_cons hok0
  obtain ⟨e0, rfl, ob0⟩ := V.okV_l (by kernel_rfl) oa0
  obtain ⟨x0, rfl, i0⟩ := V.okL_int (show M.tt 3 = some ⟨.int .i64, 1, 8⟩ by kernel_rfl) ob0
  obtain ⟨d1, ds1, rfl, oa1, hok2⟩ := V.okVs_cons hok1
  obtain ⟨e1, rfl, ob1⟩ := V.okV_l (by kernel_rfl) oa1
  obtain ⟨x1, rfl, i1, j1⟩ := V.okL_rows (show M.tt 28 = some ⟨.slice 24, 1, 24⟩ by kernel_rfl) (by kernel_rfl) ob1
  obtain ⟨d2, ds2, rfl, oa2, hok3⟩ := V.okVs_cons hok2
  obtain ⟨e2, rfl, ob2⟩ := V.okV_l (by kernel_rfl) oa2
  obtain ⟨x2, rfl, i2⟩ := V.okL_int (show M.tt 3 = some ⟨.int .i64, 1, 8⟩ by kernel_rfl) ob2
  obtain rfl := V.okVs_nil hok3
  have hc := laws_FnExactWinsOf.con V.BIG x0 x1 x2 (laws_FnExactWinsOf.eq (Nat.le_refl _) i0 j1 i1 i2)
  refine (V.law_calls rfl hc hrel).mono fun e W' ⟨he, bel⟩ => ?_
  subst he
  exact ⟨_, rfl, _, _, _, [], _, [], hW', trodAll_mk1 (shut_bool Try.underlying4 _), (trodAll_cons_mk (Below.trod laidOut (by kernel_rfl) (of_decide_eq_true (by kernel_rfl)) h0 bel lt0) (trodAll_cons_mk (Below.trod laidOut (by kernel_rfl) (of_decide_eq_true (by kernel_rfl)) h1 bel lt1) (trodAll_cons_mk (Below.trod laidOut (by kernel_rfl) (of_decide_eq_true (by kernel_rfl)) h2 bel lt2) trodAll_mk0))), rfl, bel.frame _, fun h => by cases h⟩
theorem over : Rows.fnExactWinsOfRow.holds Try.pinned (OpenSpec.ofChange Rows.fnExactWinsOfSpec) :=
  OpenClaim.holds_of_wide 7 Try.f7 rfl rfl rfl rfl rfl rfl rfl ⟨rfl, rfl, rfl, rfl, rfl⟩ rfl rfl rfl rfl rfl (by kernel_rfl) Try.func7 (by kernel_rfl)
    (of_decide_eq_true (by kernel_rfl)) (by unfold Func.isWrapper; first | (rw [if_pos (by decide +kernel)]; kernel_rfl) | (rw [if_neg (by decide +kernel)]; exact ⟨rfl, rfl⟩))
    (fun os started H enc _ => lifted os started H enc)
theorem proved : Rows.FnExactWinsOfSaid := over
#print axioms proved
end Go.Proofs.Ytfkejiljabmaaaa.fnExactWinsOf
namespace Go.Proofs.Ytfkejiljabmaaaa
/-- The row, under a short name, for the claim. -/
theorem fnExactWinsOf_holds : Rows.FnExactWinsOfSaid := fnExactWinsOf.proved
end Go.Proofs.Ytfkejiljabmaaaa
