import Derived.Test.YtfmmdbnkeadieaaRows
import Derived.Test.YtfmmdbnkeadieaaVLaw
import Derived.Test.YtfmmdbnkeadieaaMFnExactAutoMove
import Derived.Test.YtfmmdbnkeadieaaPFnExactAutoMove
import Derived.WalkKit
import Derived.ProofKit
import Derived.OpenShut
import Derived.ShutString
import Derived.ChangeOld
import Derived.Below
import Derived.SizedLaws
set_option linter.unusedVariables false
set_option linter.unusedSimpArgs false
namespace Go.Proofs.Ytfmmdbnkeadieaa
open Go Go.Proofs.Ytfmmdbnkeadieaa.V
set_option maxRecDepth 100000 in
theorem laws_FnExactAutoMove.eq {k : Nat} (hk : BIG ≤ k) {a0_0 : Int} {a0_1 : Int} {a0_2 : Bool} {a0_3 : Bool} {a0_4 : List Int} {a0_5 : List Int} {a0_6 : Int} {a0_7 : Int} {a0_8 : List (List Int)} {a0_9 : List Int} {a0_10 : List Int} {a0_11 : Int} {a0_12 : Int} {a0_13 : Int} {a1 : Int} (i_a0_0 : wfI .i64 a0_0) (i_a0_1 : wfI .i64 a0_1) (j_a0_4 : a0_4.length ≤ maxLen) (i_a0_4 : ∀ n ∈ a0_4, wfI .i64 n) (j_a0_5 : a0_5.length ≤ maxLen) (i_a0_5 : ∀ n ∈ a0_5, wfI .i64 n) (i_a0_6 : wfI .i64 a0_6) (i_a0_7 : wfI .i64 a0_7) (j_a0_8 : a0_8.length ≤ maxLen) (i_a0_8 : ∀ y ∈ a0_8, y.length ≤ maxLen ∧ ∀ n ∈ y, wfI .i64 n) (j_a0_9 : a0_9.length ≤ maxLen) (i_a0_9 : ∀ n ∈ a0_9, wfI .i64 n) (j_a0_10 : a0_10.length ≤ maxLen) (i_a0_10 : ∀ n ∈ a0_10, wfI .i64 n) (i_a0_11 : wfI .i64 a0_11) (i_a0_12 : wfI .i64 a0_12) (i_a0_13 : wfI .i64 a0_13) (i_a1 : wfI .i64 a1) : laws_FnExactAutoMove.f k a0_0 a0_1 a0_2 a0_3 a0_4 a0_5 a0_6 a0_7 a0_8 a0_9 a0_10 a0_11 a0_12 a0_13 a1 = some true := by
  obtain ⟨z0, e0, c0⟩ := laws_szGame.eq hk (left := 1048576) (by omega) (by omega) j_a0_4 j_a0_5 j_a0_8 (fun y hy => (i_a0_8 y hy).1) j_a0_9 j_a0_10
  rcases c0 with c0 | ⟨p0, q0, s_a0_4_0, s_a0_5_0, s_a0_8_0, s_a0_8_1, s_a0_9_0, s_a0_10_0⟩
  · exact (bind_s e0).trans (bif_t (dec_t c0))
  obtain ⟨r, hs, hi, f0, f1, f2, f3, f4, f5⟩ := FnExactAutoMove.same hk a0_0 a0_1 a0_2 a0_3 a0_4 a0_5 a0_6 a0_7 a0_8 a0_9 a0_10 a0_11 a0_12 a0_13 a1 i_a0_0 i_a0_1 s_a0_4_0 i_a0_4 s_a0_5_0 i_a0_5 i_a0_6 i_a0_7 s_a0_8_0 s_a0_8_1 (fun y hy => (i_a0_8 y hy).2) s_a0_9_0 i_a0_9 s_a0_10_0 i_a0_10 i_a0_11 i_a0_12 i_a0_13 i_a1
  obtain ⟨m0_0, m0_1, m0_2, m0_3, m0_4, w0_0, w0_1, w0_2, w0_3, w0_4, u0, k0_0, k0_1, k0_2, k0_3, k0_4⟩ := laws_markGame.eq hk a0_0 a0_1 a0_2 a0_3 a0_4 a0_5 a0_6 a0_7 a0_8 a0_9 a0_10 a0_11 a0_12 a0_13 (1 : Int) s_a0_4_0 s_a0_5_0 s_a0_8_0 s_a0_8_1 s_a0_9_0 s_a0_10_0 (by omega) (by omega)
  have b0_0 := mkI_le k0_0
  have b0_1 := mkI_le k0_1
  have b0_2 := mkII_le k0_2
  have b0_3 := mkI_le k0_3
  have b0_4 := mkI_le k0_4
  obtain ⟨m1_0, m1_1, m1_2, m1_3, m1_4, w1_0, w1_1, w1_2, w1_3, w1_4, u1, k1_0, k1_1, k1_2, k1_3, k1_4⟩ := laws_markGame.eq hk (r.1) (r.2.1) (r.2.2.1) (r.2.2.2.1) (r.2.2.2.2.1) (r.2.2.2.2.2.1) (r.2.2.2.2.2.2.1) (r.2.2.2.2.2.2.2.1) (r.2.2.2.2.2.2.2.2.1) (r.2.2.2.2.2.2.2.2.2.1) (r.2.2.2.2.2.2.2.2.2.2.1) (r.2.2.2.2.2.2.2.2.2.2.2.1) (r.2.2.2.2.2.2.2.2.2.2.2.2.1) (r.2.2.2.2.2.2.2.2.2.2.2.2.2.1) (1 : Int) f0 f1 f2 f3 f4 f5 (by omega) (by omega)
  have b1_0 := mkI_le k1_0
  have b1_1 := mkI_le k1_1
  have b1_2 := mkII_le k1_2
  have b1_3 := mkI_le k1_3
  have b1_4 := mkI_le k1_4
  exact (bind_s e0).trans <| (bif_f (dec_f (by omega))).trans <| (bind_s (laws_toGame.eq hk s_a0_4_0 s_a0_5_0 s_a0_8_0 s_a0_8_1 s_a0_9_0 s_a0_10_0)).trans <| (bind_s hs).trans <| (bind_s (laws_toGame.eq hk s_a0_4_0 s_a0_5_0 s_a0_8_0 s_a0_8_1 s_a0_9_0 s_a0_10_0)).trans <| (bind_s hi).trans <| (bind_s (laws_eqGame.eq hk f0 f1 f2 f3 f4 f5)).trans <| (bif_f (by simp)).trans <| (bif_f (by simp)).trans <| (bind_s (laws_toGame.eq hk s_a0_4_0 s_a0_5_0 s_a0_8_0 s_a0_8_1 s_a0_9_0 s_a0_10_0)).trans <| (bind_s (laws_eqGame.eq hk s_a0_4_0 s_a0_5_0 s_a0_8_0 s_a0_8_1 s_a0_9_0 s_a0_10_0)).trans <| (bif_f (by simp)).trans <| (bind_s u0).trans <| (bif_f (dec_f (by omega))).trans <| (bind_s (laws_eqGame.eq hk f0 f1 f2 f3 f4 f5)).trans <| (bif_f (by simp)).trans <| (bif_f (by simp)).trans <| (bind_s u1).trans <| (bind_s (laws_heldGame.eq hk (r.1) (r.2.1) (r.2.2.1) (r.2.2.2.1) w1_0 w1_1 (r.2.2.2.2.2.2.1) (r.2.2.2.2.2.2.2.1) w1_2 w1_3 w1_4 (r.2.2.2.2.2.2.2.2.2.2.2.1) (r.2.2.2.2.2.2.2.2.2.2.2.2.1) (r.2.2.2.2.2.2.2.2.2.2.2.2.2.1) (1 : Int) m1_0 m1_1 m1_2 m1_3 m1_4 k1_0 k1_1 k1_2 k1_3 k1_4 (by omega) (by omega))).trans <| (bif_f (dec_f (by omega))).trans <| (bif_f (by simp)).trans <| (bind_s (laws_toGame.eq hk s_a0_4_0 s_a0_5_0 s_a0_8_0 s_a0_8_1 s_a0_9_0 s_a0_10_0)).trans <| (bind_s hi).trans <| (bind_s (laws_eqGame.eq hk f0 f1 f2 f3 f4 f5)).trans <| (bif_f (by simp)).trans <| (bif_f (by simp)).trans <| (bind_s (laws_heldGame.eq hk (r.1) (r.2.1) (r.2.2.1) (r.2.2.2.1) w1_0 w1_1 (r.2.2.2.2.2.2.1) (r.2.2.2.2.2.2.2.1) w1_2 w1_3 w1_4 (r.2.2.2.2.2.2.2.2.2.2.2.1) (r.2.2.2.2.2.2.2.2.2.2.2.2.1) (r.2.2.2.2.2.2.2.2.2.2.2.2.2.1) (1 : Int) m1_0 m1_1 m1_2 m1_3 m1_4 k1_0 k1_1 k1_2 k1_3 k1_4 (by omega) (by omega))).trans <| (bif_f (dec_f (by omega))).trans <| (bif_f (by simp)).trans <| rfl
end Go.Proofs.Ytfmmdbnkeadieaa
namespace Go.Proofs.Ytfmmdbnkeadieaa.fnExactAutoMove
open Go.ChangeShapes Go.WideShapes Go.ChangeAt Go.RowKit
open Go.ChangeMaps (open_string shut_string)
set_option linter.unusedVariables false
theorem own : ownKnob Try.prog.godebug = none := by kernel_rfl
theorem laidOut : laidOutB Try.prog = true := by kernel_rfl
set_option maxRecDepth 100000 in
theorem lifted (os : Os) (started : os.Started) (H : Type) (enc : TypeId × Value → H) :
    ReturnsInHanded {} Try.checked os 10 .any (Rows.fnExactAutoMoveSpec.pre6 enc Try.prog Try.f10 Rows.fnExactAutoMoveRow.domain false) (Rows.fnExactAutoMoveSpec.post enc Try.prog Try.f10 false true false false) := by
  refine returnsInHanded_of_change_sized (C := Try.checked) own started (by kernel_rfl) Try.func10
    (ChangeSpec.witness6 (enc := enc) (C := Try.checked) false ⟨#[], #[.agg #[.int .i64 0, .int .i64 0, .bool false, .bool false, .slice none 0 0, .slice none 0 0, .int .i64 0, .int .i64 0, .slice none 0 0, .slice none 0 0, .slice none 0 0, .int .i64 0, .int .i64 0, .int .i64 0], .int .i64 0], []⟩ 8 (by kernel_rfl) (by kernel_rfl) (by kernel_rfl) (by kernel_rfl)) ?_
  intro W base args ds gs before hval0 hW hcnd hsz0 _
  have hval : ∀ (j : Nat) t v, Try.f10.params[j]? = some t → args[j]? = some v → Value.okWide Try.prog W .any base t v := hval0
  have hW' := hW
  obtain ⟨p, q, hA0, hV, rfl, hfz, hnd⟩ := hW
  have hA : DataW.TrodAll enc Try.prog W 0 (fun _ => true) true Try.f10.params.toList args.toList ds p := hA0
  obtain ⟨rfl, rfl⟩ := trodVars_none hV
  rw [Try.params10] at hA hval
  obtain ⟨dvs, hrel, hok0⟩ := V.args_open M.tok (Zf := fun _ => False) (ts := [31, 3]) (by kernel_rfl) (fun j t v e1 e2 => hval j t v (by simpa using e1) (by simpa using e2)) (show DataW.TrodAll enc Try.prog W 0 (fun _ => true) true [31, 3] args.toList ds p from hA)
  obtain ⟨v0, vs0, t0, ts0, p0, q0, hargs, rfl, rfl, h0, r0⟩ := trodAll_cons hA
  obtain ⟨v1, vs1, t1, ts1, p1, q1, rfl, rfl, rfl, h1, r1⟩ := trodAll_cons r0
  obtain ⟨rfl, rfl, rfl⟩ := trodAll_nil r1
  obtain rfl : args = #[v0, v1] := by cases args; simp_all
  have lt0 : ∀ x ∈ p0, x.block < W.heap.size := by obtain ⟨m, hm⟩ := h0; exact DataW.trod_lt m _ _ _ hm
  have lt1 : ∀ x ∈ p1, x.block < W.heap.size := by obtain ⟨m, hm⟩ := h1; exact DataW.trod_lt m _ _ _ hm
  obtain ⟨d0, ds0, rfl, oa0, hok1⟩ := V.okVs_cons hok0
  obtain ⟨e0, rfl, o0_0⟩ := V.okV_agg (show M.tt 31 = some ⟨.struct [(0, 28), (8, 29), (9, 22), (10, 22), (11, 3), (12, 3), (13, 3)], 14, 184⟩ by kernel_rfl) oa0
  rw [show V.leafTypes M.tt V.depth 31 = [3, 3, 4, 4, 22, 22, 3, 3, 29, 22, 22, 3, 3, 3] by kernel_rfl] at o0_0
  obtain ⟨e0_0, es0_0, rfl, p0_0, o0_1⟩ := V.okLs_cons o0_0
  obtain ⟨x0_0, rfl, i0_0⟩ := V.okL_int (show M.tt 3 = some ⟨.int .i64, 1, 8⟩ by kernel_rfl) p0_0
  obtain ⟨e0_1, es0_1, rfl, p0_1, o0_2⟩ := V.okLs_cons o0_1
  obtain ⟨x0_1, rfl, i0_1⟩ := V.okL_int (show M.tt 3 = some ⟨.int .i64, 1, 8⟩ by kernel_rfl) p0_1
  obtain ⟨e0_2, es0_2, rfl, p0_2, o0_3⟩ := V.okLs_cons o0_2
  obtain ⟨x0_2, rfl⟩ := V.okL_bool (show M.tt 4 = some ⟨.bool, 1, 1⟩ by kernel_rfl) p0_2
  obtain ⟨e0_3, es0_3, rfl, p0_3, o0_4⟩ := V.okLs_cons o0_3
  obtain ⟨x0_3, rfl⟩ := V.okL_bool (show M.tt 4 = some ⟨.bool, 1, 1⟩ by kernel_rfl) p0_3
  obtain ⟨e0_4, es0_4, rfl, p0_4, o0_5⟩ := V.okLs_cons o0_4
  obtain ⟨x0_4, rfl, i0_4, j0_4⟩ := V.okL_ints (k := .i64) (show M.tt 22 = some ⟨.slice 3, 1, 24⟩ by kernel_rfl) (by kernel_rfl) p0_4
  obtain ⟨e0_5, es0_5, rfl, p0_5, o0_6⟩ := V.okLs_cons o0_5
  obtain ⟨x0_5, rfl, i0_5, j0_5⟩ := V.okL_ints (k := .i64) (show M.tt 22 = some ⟨.slice 3, 1, 24⟩ by kernel_rfl) (by kernel_rfl) p0_5
  obtain ⟨e0_6, es0_6, rfl, p0_6, o0_7⟩ := V.okLs_cons o0_6
  obtain ⟨x0_6, rfl, i0_6⟩ := V.okL_int (show M.tt 3 = some ⟨.int .i64, 1, 8⟩ by kernel_rfl) p0_6
  obtain ⟨e0_7, es0_7, rfl, p0_7, o0_8⟩ := V.okLs_cons o0_7
  obtain ⟨x0_7, rfl, i0_7⟩ := V.okL_int (show M.tt 3 = some ⟨.int .i64, 1, 8⟩ by kernel_rfl) p0_7
  obtain ⟨e0_8, es0_8, rfl, p0_8, o0_9⟩ := V.okLs_cons o0_8
  obtain ⟨x0_8, rfl, i0_8, j0_8⟩ := V.okL_rows (show M.tt 29 = some ⟨.slice 22, 1, 24⟩ by kernel_rfl) (by kernel_rfl) p0_8
  obtain ⟨e0_9, es0_9, rfl, p0_9, o0_10⟩ := V.okLs_cons o0_9
  obtain ⟨x0_9, rfl, i0_9, j0_9⟩ := V.okL_ints (k := .i64) (show M.tt 22 = some ⟨.slice 3, 1, 24⟩ by kernel_rfl) (by kernel_rfl) p0_9
  obtain ⟨e0_10, es0_10, rfl, p0_10, o0_11⟩ := V.okLs_cons o0_10
  obtain ⟨x0_10, rfl, i0_10, j0_10⟩ := V.okL_ints (k := .i64) (show M.tt 22 = some ⟨.slice 3, 1, 24⟩ by kernel_rfl) (by kernel_rfl) p0_10
  obtain ⟨e0_11, es0_11, rfl, p0_11, o0_12⟩ := V.okLs_cons o0_11
  obtain ⟨x0_11, rfl, i0_11⟩ := V.okL_int (show M.tt 3 = some ⟨.int .i64, 1, 8⟩ by kernel_rfl) p0_11
  obtain ⟨e0_12, es0_12, rfl, p0_12, o0_13⟩ := V.okLs_cons o0_12
  obtain ⟨x0_12, rfl, i0_12⟩ := V.okL_int (show M.tt 3 = some ⟨.int .i64, 1, 8⟩ by kernel_rfl) p0_12
  obtain ⟨e0_13, es0_13, rfl, p0_13, o0_14⟩ := V.okLs_cons o0_13
  obtain ⟨x0_13, rfl, i0_13⟩ := V.okL_int (show M.tt 3 = some ⟨.int .i64, 1, 8⟩ by kernel_rfl) p0_13
  obtain rfl := V.okLs_nil o0_14
  obtain ⟨d1, ds1, rfl, oa1, hok2⟩ := V.okVs_cons hok1
  obtain ⟨e1, rfl, ob1⟩ := V.okV_l (by kernel_rfl) oa1
  obtain ⟨x1, rfl, i1⟩ := V.okL_int (show M.tt 3 = some ⟨.int .i64, 1, 8⟩ by kernel_rfl) ob1
  obtain rfl := V.okVs_nil hok2
  have hc := (laws_FnExactAutoMove.con V.BIG).2 ((x0_0, x0_1, x0_2, x0_3, x0_4, x0_5, x0_6, x0_7, x0_8, x0_9, x0_10, x0_11, x0_12, x0_13, ()), x1, ()) true (laws_FnExactAutoMove.eq (Nat.le_refl _) i0_0 i0_1 j0_4 i0_4 j0_5 i0_5 i0_6 i0_7 j0_8 i0_8 j0_9 i0_9 j0_10 i0_10 i0_11 i0_12 i0_13 i1)
  refine (V.law_calls rfl hc hrel).mono fun e W' ⟨he, bel⟩ => ?_
  subst he
  exact ⟨_, rfl, _, _, _, [], _, [], hW', trodAll_mk1 (shut_bool Try.underlying4 _), (trodAll_cons_mk (Below.trod laidOut (by kernel_rfl) (of_decide_eq_true (by kernel_rfl)) h0 bel lt0) (trodAll_cons_mk (Below.trod laidOut (by kernel_rfl) (of_decide_eq_true (by kernel_rfl)) h1 bel lt1) trodAll_mk0)), rfl, bel.frame _, fun h => by cases h⟩
set_option maxHeartbeats 100000000 in
theorem closed : joinedFacts Try.prog 10 Try.f10 Rows.fnExactAutoMoveSpec Rows.fnExactAutoMoveRow = true := by
  unfold joinedFacts
  repeat' (with_reducible refine V.and_t ?_ ?_)
  all_goals (as_aux_lemma => kernel_rfl)
theorem over : Rows.fnExactAutoMoveRow.holds Try.pinned (OpenSpec.ofChange Rows.fnExactAutoMoveSpec) :=
  OpenClaim.holds_of_wide 10 Try.f10 rfl rfl rfl rfl rfl rfl rfl ⟨rfl, rfl, rfl, rfl, rfl⟩ rfl rfl rfl rfl rfl (by kernel_rfl) Try.func10 closed
    (of_decide_eq_true (by kernel_rfl)) (by unfold Func.isWrapper; first | (rw [if_pos (by decide +kernel)]; kernel_rfl) | (rw [if_neg (by decide +kernel)]; exact ⟨rfl, rfl⟩))
    (fun os started H enc _ => lifted os started H enc)
theorem proved : Rows.FnExactAutoMoveSaid := over
#print axioms proved
end Go.Proofs.Ytfmmdbnkeadieaa.fnExactAutoMove
namespace Go.Proofs.Ytfmmdbnkeadieaa
/-- The row, under a short name, for the claim. -/
theorem fnExactAutoMove_holds : Rows.FnExactAutoMoveSaid := fnExactAutoMove.proved
end Go.Proofs.Ytfmmdbnkeadieaa
