import Derived.Test.YtfmmdbnkeadieabRows
import Derived.Test.YtfmmdbnkeadieabVLaw
import Derived.Test.YtfmmdbnkeadieabMFnExactSomeWinner
import Derived.Test.YtfmmdbnkeadieabPFnExactSomeWinner
import Derived.WalkKit
import Derived.ProofKit
import Derived.OpenShut
import Derived.ShutString
import Derived.ChangeOld
import Derived.Below
import Derived.SizedLaws
set_option linter.unusedVariables false
set_option linter.unusedSimpArgs false
namespace Go.Proofs.Ytfmmdbnkeadieab
open Go Go.Proofs.Ytfmmdbnkeadieab.V
theorem laws_FnExactSomeWinner.eq {k : Nat} (hk : BIG ≤ k) {a0_0 : Int} {a0_1 : Int} {a0_2 : Bool} {a0_3 : Bool} {a0_4 : List Int} {a0_5 : List Int} {a0_6 : Int} {a0_7 : Int} {a1 : List Int} {a2 : List Int} (i_a0_0 : wfI .i64 a0_0) (i_a0_1 : wfI .i64 a0_1) (j_a0_4 : a0_4.length ≤ maxLen) (i_a0_4 : ∀ n ∈ a0_4, wfI .i64 n) (j_a0_5 : a0_5.length ≤ maxLen) (i_a0_5 : ∀ n ∈ a0_5, wfI .i64 n) (i_a0_6 : wfI .i64 a0_6) (i_a0_7 : wfI .i64 a0_7) (j_a1 : a1.length ≤ maxLen) (i_a1 : ∀ n ∈ a1, wfI .i64 n) (j_a2 : a2.length ≤ maxLen) (i_a2 : ∀ n ∈ a2, wfI .i64 n) : laws_FnExactSomeWinner.f k a0_0 a0_1 a0_2 a0_3 a0_4 a0_5 a0_6 a0_7 a1 a2 = some true := by
  by_cases g_a1 : (a1.length : Int) > (1048576 : Int)
  · exact (bif_t (dec_t g_a1))
  have s_a1_0 : a1.length < 1048577 := by omega
  by_cases g_a2 : (a2.length : Int) > (1048576 : Int)
  · exact (bif_f (dec_f g_a1)).trans <| (bif_t (dec_t g_a2))
  have s_a2_0 : a2.length < 1048577 := by omega
  obtain ⟨z0, e0, c0⟩ := laws_szRules.eq hk (left := 1048576) (by omega) (by omega) j_a0_4 j_a0_5
  rcases c0 with c0 | ⟨p0, q0, s_a0_4_0, s_a0_5_0⟩
  · exact (bif_f (dec_f g_a1)).trans <| (bif_f (dec_f g_a2)).trans <| (bind_s e0).trans (bif_t (dec_t c0))
  obtain ⟨r, hs, hi, f0⟩ := FnExactSomeWinner.same hk a0_0 a0_1 a0_2 a0_3 a0_4 a0_5 a0_6 a0_7 a1 a2 i_a0_0 i_a0_1 s_a0_4_0 i_a0_4 s_a0_5_0 i_a0_5 i_a0_6 i_a0_7 s_a1_0 i_a1 s_a2_0 i_a2
  obtain ⟨m0_0, m0_1, w0_0, w0_1, u0, k0_0, k0_1⟩ := laws_markRules.eq hk a0_0 a0_1 a0_2 a0_3 a0_4 a0_5 a0_6 a0_7 (1 : Int) s_a0_4_0 s_a0_5_0 (by omega) (by omega)
  have b0_0 := mkI_le k0_0
  have b0_1 := mkI_le k0_1
  obtain ⟨m1_0, w1_0, u1, k1_0⟩ := laws_markIntS.eq hk a1 m0_1 s_a1_0 (by omega) (by omega)
  have b1_0 := mkI_le k1_0
  obtain ⟨m2_0, w2_0, u2, k2_0⟩ := laws_markIntS.eq hk a2 m1_0 s_a2_0 (by omega) (by omega)
  have b2_0 := mkI_le k2_0
  obtain ⟨m3_0, w3_0, u3, k3_0⟩ := laws_markIntS.eq hk r (1 : Int) f0 (by omega) (by omega)
  have b3_0 := mkI_le k3_0
  exact (bif_f (dec_f g_a1)).trans <| (bif_f (dec_f g_a2)).trans <| (bind_s e0).trans <| (bif_f (dec_f (by omega))).trans <| (bind_s (laws_toRules.eq hk s_a0_4_0 s_a0_5_0)).trans <| (bind_s (laws_toIntS.eq hk s_a1_0)).trans <| (bind_s (laws_toIntS.eq hk s_a2_0)).trans <| (bind_s hs).trans <| (bind_s (laws_toRules.eq hk s_a0_4_0 s_a0_5_0)).trans <| (bind_s (laws_toIntS.eq hk s_a1_0)).trans <| (bind_s (laws_toIntS.eq hk s_a2_0)).trans <| (bind_s hi).trans <| (bind_s (laws_eqIntS.eq hk f0)).trans <| (bif_f (by simp)).trans <| (bind_s (laws_toRules.eq hk s_a0_4_0 s_a0_5_0)).trans <| (bind_s (laws_eqRules.eq hk s_a0_4_0 s_a0_5_0)).trans <| (bif_f (by simp)).trans <| (bind_s (laws_toIntS.eq hk s_a1_0)).trans <| (bind_s (laws_eqIntS.eq hk s_a1_0)).trans <| (bif_f (by simp)).trans <| (bind_s (laws_toIntS.eq hk s_a2_0)).trans <| (bind_s (laws_eqIntS.eq hk s_a2_0)).trans <| (bif_f (by simp)).trans <| (bind_s u0).trans <| (bind_s u1).trans <| (bind_s u2).trans <| (bif_f (dec_f (by omega))).trans <| (bind_s (laws_eqIntS.eq hk f0)).trans <| (bif_f (by simp)).trans <| (bind_s u3).trans <| (bind_s (laws_heldIntS.eq hk w3_0 (1 : Int) m3_0 k3_0 (by omega) (by omega))).trans <| (bif_f (dec_f (by omega))).trans <| (bif_f (by simp)).trans <| (bind_s (laws_toRules.eq hk s_a0_4_0 s_a0_5_0)).trans <| (bind_s (laws_toIntS.eq hk s_a1_0)).trans <| (bind_s (laws_toIntS.eq hk s_a2_0)).trans <| (bind_s hi).trans <| (bind_s (laws_eqIntS.eq hk f0)).trans <| (bif_f (by simp)).trans <| (bind_s (laws_heldIntS.eq hk w3_0 (1 : Int) m3_0 k3_0 (by omega) (by omega))).trans <| (bif_f (dec_f (by omega))).trans <| (bif_f (by simp)).trans <| rfl
end Go.Proofs.Ytfmmdbnkeadieab
namespace Go.Proofs.Ytfmmdbnkeadieab.fnExactSomeWinner
open Go.ChangeShapes Go.WideShapes Go.ChangeAt Go.RowKit
open Go.ChangeMaps (open_string shut_string)
set_option linter.unusedVariables false
theorem own : ownKnob Try.prog.godebug = none := by kernel_rfl
theorem laidOut : laidOutB Try.prog = true := by kernel_rfl
set_option maxRecDepth 100000 in
theorem lifted (os : Os) (started : os.Started) (H : Type) (enc : TypeId × Value → H) :
    ReturnsInHanded {} Try.checked os 3 .any (Rows.fnExactSomeWinnerSpec.pre6 enc Try.prog Try.f3 Rows.fnExactSomeWinnerRow.domain false) (Rows.fnExactSomeWinnerSpec.post enc Try.prog Try.f3 false true false false) := by
  refine returnsInHanded_of_change_sized (C := Try.checked) own started (by kernel_rfl) Try.func3
    (ChangeSpec.witness6 (enc := enc) (C := Try.checked) false ⟨#[], #[.agg #[.int .i64 0, .int .i64 0, .bool false, .bool false, .slice none 0 0, .slice none 0 0, .int .i64 0, .int .i64 0], .slice none 0 0, .slice none 0 0], []⟩ 8 (by kernel_rfl) (by kernel_rfl) (by kernel_rfl) (by kernel_rfl)) ?_
  intro W base args ds gs before hval0 hW hcnd hsz0 _
  have hval : ∀ (j : Nat) t v, Try.f3.params[j]? = some t → args[j]? = some v → Value.okWide Try.prog W .any base t v := hval0
  have hW' := hW
  obtain ⟨p, q, hA0, hV, rfl, hfz, hnd⟩ := hW
  have hA : DataW.TrodAll enc Try.prog W 0 (fun _ => true) true Try.f3.params.toList args.toList ds p := hA0
  obtain ⟨rfl, rfl⟩ := trodVars_none hV
  rw [Try.params3] at hA hval
  obtain ⟨dvs, hrel, hok0⟩ := V.args_open M.tok (Zf := fun _ => False) (ts := [24, 22, 22]) (by kernel_rfl) (fun j t v e1 e2 => hval j t v (by simpa using e1) (by simpa using e2)) (show DataW.TrodAll enc Try.prog W 0 (fun _ => true) true [24, 22, 22] args.toList ds p from hA)
  obtain ⟨v0, vs0, t0, ts0, p0, q0, hargs, rfl, rfl, h0, r0⟩ := trodAll_cons hA
  obtain ⟨v1, vs1, t1, ts1, p1, q1, rfl, rfl, rfl, h1, r1⟩ := trodAll_cons r0
  obtain ⟨v2, vs2, t2, ts2, p2, q2, rfl, rfl, rfl, h2, r2⟩ := trodAll_cons r1
  obtain ⟨rfl, rfl, rfl⟩ := trodAll_nil r2
  obtain rfl : args = #[v0, v1, v2] := by cases args; simp_all
  have lt0 : ∀ x ∈ p0, x.block < W.heap.size := by obtain ⟨m, hm⟩ := h0; exact DataW.trod_lt m _ _ _ hm
  have lt1 : ∀ x ∈ p1, x.block < W.heap.size := by obtain ⟨m, hm⟩ := h1; exact DataW.trod_lt m _ _ _ hm
  have lt2 : ∀ x ∈ p2, x.block < W.heap.size := by obtain ⟨m, hm⟩ := h2; exact DataW.trod_lt m _ _ _ hm
  obtain ⟨d0, ds0, rfl, oa0, hok1⟩ := V.okVs_cons hok0
  obtain ⟨e0, rfl, o0_0⟩ := V.okV_agg (show M.tt 24 = some ⟨.struct [(0, 3), (1, 3), (2, 4), (3, 4), (4, 22), (5, 22), (6, 3), (7, 3)], 8, 88⟩ by kernel_rfl) oa0
  rw [show V.leafTypes M.tt V.depth 24 = [3, 3, 4, 4, 22, 22, 3, 3] by kernel_rfl] at o0_0
  obtain ⟨e0_0, es0_0, rfl, p0_0, o0_1⟩ := V.okLs_cons o0_0
  obtain ⟨x0_0, rfl, i0_0⟩ := V.okL_int (show M.tt 3 = some ⟨.int .i64, 1, 8⟩ by kernel_rfl) p0_0
  obtain ⟨e0_1, es0_1, rfl, p0_1, o0_2⟩ := V.okLs_cons o0_1
  obtain ⟨x0_1, rfl, i0_1⟩ := V.okL_int (show M.tt 3 = some ⟨.int .i64, 1, 8⟩ by kernel_rfl) p0_1
  obtain ⟨e0_2, es0_2, rfl, p0_2, o0_3⟩ := V.okLs_cons o0_2
  obtain ⟨x0_2, rfl⟩ := V.okL_bool (show M.tt 4 = some ⟨.bool, 1, 1⟩ by kernel_rfl) p0_2
  obtain ⟨e0_3, es0_3, rfl, p0_3, o0_4⟩ := V.okLs_cons o0_3
  obtain ⟨x0_3, rfl⟩ := V.okL_bool (show M.tt 4 = some ⟨.bool, 1, 1⟩ by kernel_rfl) p0_3
  obtain ⟨e0_4, es0_4, rfl, p0_4, o0_5⟩ := V.okLs_cons o0_4
  obtain ⟨x0_4, rfl, i0_4, j0_4⟩ := V.okL_ints (k := .i64) (show M.tt 22 = some ⟨.slice 3, 1, 24⟩ by kernel_rfl) (by kernel_rfl) p0_4
  obtain ⟨e0_5, es0_5, rfl, p0_5, o0_6⟩ := V.okLs_cons o0_5
  obtain ⟨x0_5, rfl, i0_5, j0_5⟩ := V.okL_ints (k := .i64) (show M.tt 22 = some ⟨.slice 3, 1, 24⟩ by kernel_rfl) (by kernel_rfl) p0_5
  obtain ⟨e0_6, es0_6, rfl, p0_6, o0_7⟩ := V.okLs_cons o0_6
  obtain ⟨x0_6, rfl, i0_6⟩ := V.okL_int (show M.tt 3 = some ⟨.int .i64, 1, 8⟩ by kernel_rfl) p0_6
  obtain ⟨e0_7, es0_7, rfl, p0_7, o0_8⟩ := V.okLs_cons o0_7
  obtain ⟨x0_7, rfl, i0_7⟩ := V.okL_int (show M.tt 3 = some ⟨.int .i64, 1, 8⟩ by kernel_rfl) p0_7
  obtain rfl := V.okLs_nil o0_8
  obtain ⟨d1, ds1, rfl, oa1, hok2⟩ := V.okVs_cons hok1
  obtain ⟨e1, rfl, ob1⟩ := V.okV_l (by kernel_rfl) oa1
  obtain ⟨x1, rfl, i1, j1⟩ := V.okL_ints (k := .i64) (show M.tt 22 = some ⟨.slice 3, 1, 24⟩ by kernel_rfl) (by kernel_rfl) ob1
  obtain ⟨d2, ds2, rfl, oa2, hok3⟩ := V.okVs_cons hok2
  obtain ⟨e2, rfl, ob2⟩ := V.okV_l (by kernel_rfl) oa2
  obtain ⟨x2, rfl, i2, j2⟩ := V.okL_ints (k := .i64) (show M.tt 22 = some ⟨.slice 3, 1, 24⟩ by kernel_rfl) (by kernel_rfl) ob2
  obtain rfl := V.okVs_nil hok3
  have hc := (laws_FnExactSomeWinner.con V.BIG).2 ((x0_0, x0_1, x0_2, x0_3, x0_4, x0_5, x0_6, x0_7, ()), x1, x2, ()) true (laws_FnExactSomeWinner.eq (Nat.le_refl _) i0_0 i0_1 j0_4 i0_4 j0_5 i0_5 i0_6 i0_7 j1 i1 j2 i2)
  refine (V.law_calls rfl hc hrel).mono fun e W' ⟨he, bel⟩ => ?_
  subst he
  exact ⟨_, rfl, _, _, _, [], _, [], hW', trodAll_mk1 (shut_bool Try.underlying4 _), (trodAll_cons_mk (Below.trod laidOut (by kernel_rfl) (of_decide_eq_true (by kernel_rfl)) h0 bel lt0) (trodAll_cons_mk (Below.trod laidOut (by kernel_rfl) (of_decide_eq_true (by kernel_rfl)) h1 bel lt1) (trodAll_cons_mk (Below.trod laidOut (by kernel_rfl) (of_decide_eq_true (by kernel_rfl)) h2 bel lt2) trodAll_mk0))), rfl, bel.frame _, fun h => by cases h⟩
set_option maxHeartbeats 100000000 in
theorem closed : joinedFacts Try.prog 3 Try.f3 Rows.fnExactSomeWinnerSpec Rows.fnExactSomeWinnerRow = true := by
  unfold joinedFacts
  repeat' (with_reducible refine V.and_t ?_ ?_)
  all_goals (as_aux_lemma => kernel_rfl)
theorem over : Rows.fnExactSomeWinnerRow.holds Try.pinned (OpenSpec.ofChange Rows.fnExactSomeWinnerSpec) :=
  OpenClaim.holds_of_wide 3 Try.f3 rfl rfl rfl rfl rfl rfl rfl ⟨rfl, rfl, rfl, rfl, rfl⟩ rfl rfl rfl rfl rfl (by kernel_rfl) Try.func3 closed
    (of_decide_eq_true (by kernel_rfl)) (by unfold Func.isWrapper; first | (rw [if_pos (by decide +kernel)]; kernel_rfl) | (rw [if_neg (by decide +kernel)]; exact ⟨rfl, rfl⟩))
    (fun os started H enc _ => lifted os started H enc)
theorem proved : Rows.FnExactSomeWinnerSaid := over
#print axioms proved
end Go.Proofs.Ytfmmdbnkeadieab.fnExactSomeWinner
namespace Go.Proofs.Ytfmmdbnkeadieab
/-- The row, under a short name, for the claim. -/
theorem fnExactSomeWinner_holds : Rows.FnExactSomeWinnerSaid := fnExactSomeWinner.proved
end Go.Proofs.Ytfmmdbnkeadieab
