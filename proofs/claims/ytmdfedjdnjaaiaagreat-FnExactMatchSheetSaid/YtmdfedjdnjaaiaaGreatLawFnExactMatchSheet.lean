import Derived.Test.YtmdfedjdnjaaiaaGreatRows
import Derived.Test.YtmdfedjdnjaaiaaGreatVLaw
import Derived.Test.YtmdfedjdnjaaiaaGreatMFnExactMatchSheet
import Derived.Test.YtmdfedjdnjaaiaaGreatPFnExactMatchSheet
import Derived.WalkKit
import Derived.ProofKit
import Derived.OpenShut
import Derived.ShutString
import Derived.ChangeOld
import Derived.Below
import Derived.SizedLaws
set_option linter.unusedVariables false
set_option linter.unusedSimpArgs false
namespace Go.Proofs.YtmdfedjdnjaaiaaGreat
open Go Go.Proofs.YtmdfedjdnjaaiaaGreat.V
set_option maxRecDepth 100000 in
theorem laws_FnExactMatchSheet.eq {k : Nat} (hk : BIG ≤ k) {a0_0 : Int} {a0_1 : Int} {a0_2 : Bool} {a0_3 : Bool} {a0_4 : List Int} {a0_5 : List Int} {a0_6 : Int} {a0_7 : Int} {a1 : Int} {a2 : Int} {a3 : List Int} (i_a0_0 : wfI .i64 a0_0) (i_a0_1 : wfI .i64 a0_1) (j_a0_4 : a0_4.length ≤ maxLen) (i_a0_4 : ∀ n ∈ a0_4, wfI .i64 n) (j_a0_5 : a0_5.length ≤ maxLen) (i_a0_5 : ∀ n ∈ a0_5, wfI .i64 n) (i_a0_6 : wfI .i64 a0_6) (i_a0_7 : wfI .i64 a0_7) (i_a1 : wfI .i64 a1) (i_a2 : wfI .i64 a2) (j_a3 : a3.length ≤ maxLen) (i_a3 : ∀ n ∈ a3, wfI .i64 n) : laws_FnExactMatchSheet.f k a0_0 a0_1 a0_2 a0_3 a0_4 a0_5 a0_6 a0_7 a1 a2 a3 = some true := by
  by_cases g_a3 : (a3.length : Int) > (1048576 : Int)
  · exact (bif_t (dec_t g_a3))
  have s_a3_0 : a3.length < 1048577 := by omega
  obtain ⟨z0, e0, c0⟩ := laws_szRules.eq hk (left := 1048576) (by omega) (by omega) j_a0_4 j_a0_5
  rcases c0 with c0 | ⟨p0, q0, s_a0_4_0, s_a0_5_0⟩
  · exact (bif_f (dec_f g_a3)).trans <| (bind_s e0).trans (bif_t (dec_t c0))
  obtain ⟨r, hs, hi, f0, f1⟩ := FnExactMatchSheet.same hk a0_0 a0_1 a0_2 a0_3 a0_4 a0_5 a0_6 a0_7 a1 a2 a3 i_a0_0 i_a0_1 s_a0_4_0 i_a0_4 s_a0_5_0 i_a0_5 i_a0_6 i_a0_7 i_a1 i_a2 s_a3_0 i_a3
  obtain ⟨m0_0, m0_1, w0_0, w0_1, u0, k0_0, k0_1⟩ := laws_markRules.eq hk a0_0 a0_1 a0_2 a0_3 a0_4 a0_5 a0_6 a0_7 (1 : Int) s_a0_4_0 s_a0_5_0 (by omega) (by omega)
  have b0_0 := mkI_le k0_0
  have b0_1 := mkI_le k0_1
  obtain ⟨m1_0, w1_0, u1, k1_0⟩ := laws_markIntS.eq hk a3 m0_1 s_a3_0 (by omega) (by omega)
  have b1_0 := mkI_le k1_0
  obtain ⟨m2_0, w2_0, u2, k2_0⟩ := laws_markIntSS.eq hk r (1 : Int) f0 f1 (by omega) (by omega)
  have b2_0 := mkII_le k2_0
  exact (bif_f (dec_f g_a3)).trans <| (bind_s e0).trans <| (bif_f (dec_f (by omega))).trans <| (bind_s (laws_toRules.eq hk s_a0_4_0 s_a0_5_0)).trans <| (bind_s (laws_toIntS.eq hk s_a3_0)).trans <| (bind_s hs).trans <| (bind_s (laws_toRules.eq hk s_a0_4_0 s_a0_5_0)).trans <| (bind_s (laws_toIntS.eq hk s_a3_0)).trans <| (bind_s hi).trans <| (bind_s (laws_eqIntSS.eq hk f0 f1)).trans <| (bif_f (by simp)).trans <| (bind_s (laws_toRules.eq hk s_a0_4_0 s_a0_5_0)).trans <| (bind_s (laws_eqRules.eq hk s_a0_4_0 s_a0_5_0)).trans <| (bif_f (by simp)).trans <| (bind_s (laws_toIntS.eq hk s_a3_0)).trans <| (bind_s (laws_eqIntS.eq hk s_a3_0)).trans <| (bif_f (by simp)).trans <| (bind_s u0).trans <| (bind_s u1).trans <| (bif_f (dec_f (by omega))).trans <| (bind_s (laws_eqIntSS.eq hk f0 f1)).trans <| (bif_f (by simp)).trans <| (bind_s u2).trans <| (bind_s (laws_heldIntSS.eq hk w2_0 (1 : Int) m2_0 k2_0 (by omega) (by omega))).trans <| (bif_f (dec_f (by omega))).trans <| (bif_f (by simp)).trans <| (bind_s (laws_toRules.eq hk s_a0_4_0 s_a0_5_0)).trans <| (bind_s (laws_toIntS.eq hk s_a3_0)).trans <| (bind_s hi).trans <| (bind_s (laws_eqIntSS.eq hk f0 f1)).trans <| (bif_f (by simp)).trans <| (bind_s (laws_heldIntSS.eq hk w2_0 (1 : Int) m2_0 k2_0 (by omega) (by omega))).trans <| (bif_f (dec_f (by omega))).trans <| (bif_f (by simp)).trans <| rfl
end Go.Proofs.YtmdfedjdnjaaiaaGreat
namespace Go.Proofs.YtmdfedjdnjaaiaaGreat.fnExactMatchSheet
open Go.ChangeShapes Go.WideShapes Go.ChangeAt Go.RowKit
open Go.ChangeMaps (open_string shut_string)
set_option linter.unusedVariables false
theorem own : ownKnob Tryz.prog.godebug = none := by kernel_rfl
theorem laidOut : laidOutB Tryz.prog = true := by kernel_rfl
set_option maxRecDepth 100000 in
theorem lifted (os : Os) (started : os.Started) (H : Type) (enc : TypeId × Value → H) :
    ReturnsInHanded {} Tryz.checked os 9 .any (Rows.fnExactMatchSheetSpec.pre6 enc Tryz.prog Tryz.f9 Rows.fnExactMatchSheetRow.domain false) (Rows.fnExactMatchSheetSpec.post enc Tryz.prog Tryz.f9 false true false false) := by
  refine returnsInHanded_of_change_sized (C := Tryz.checked) own started (by kernel_rfl) Tryz.func9
    (ChangeSpec.witness6 (enc := enc) (C := Tryz.checked) false ⟨#[], #[.agg #[.int .i64 0, .int .i64 0, .bool false, .bool false, .slice none 0 0, .slice none 0 0, .int .i64 0, .int .i64 0], .int .i64 0, .int .i64 0, .slice none 0 0], []⟩ 8 (by kernel_rfl) (by kernel_rfl) (by kernel_rfl) (by kernel_rfl)) ?_
  intro W base args ds gs before hval0 hW hcnd hsz0 _
  have hval : ∀ (j : Nat) t v, Tryz.f9.params[j]? = some t → args[j]? = some v → Value.okWide Tryz.prog W .any base t v := hval0
  have hW' := hW
  obtain ⟨p, q, hA0, hV, rfl, hfz, hnd⟩ := hW
  have hA : DataW.TrodAll enc Tryz.prog W 0 (fun _ => true) true Tryz.f9.params.toList args.toList ds p := hA0
  obtain ⟨rfl, rfl⟩ := trodVars_none hV
  rw [Tryz.params9] at hA hval
  obtain ⟨dvs, hrel, hok0⟩ := V.args_open M.tok (Zf := fun _ => False) (ts := [57, 3, 3, 24]) (by kernel_rfl) (fun j t v e1 e2 => hval j t v (by simpa using e1) (by simpa using e2)) (show DataW.TrodAll enc Tryz.prog W 0 (fun _ => true) true [57, 3, 3, 24] args.toList ds p from hA)
  obtain ⟨v0, vs0, t0, ts0, p0, q0, hargs, rfl, rfl, h0, r0⟩ := trodAll_cons hA
  obtain ⟨v1, vs1, t1, ts1, p1, q1, rfl, rfl, rfl, h1, r1⟩ := trodAll_cons r0
  obtain ⟨v2, vs2, t2, ts2, p2, q2, rfl, rfl, rfl, h2, r2⟩ := trodAll_cons r1
  obtain ⟨v3, vs3, t3, ts3, p3, q3, rfl, rfl, rfl, h3, r3⟩ := trodAll_cons r2
  obtain ⟨rfl, rfl, rfl⟩ := trodAll_nil r3
  obtain rfl : args = #[v0, v1, v2, v3] := by cases args; simp_all
  have lt0 : ∀ x ∈ p0, x.block < W.heap.size := by obtain ⟨m, hm⟩ := h0; exact DataW.trod_lt m _ _ _ hm
  have lt1 : ∀ x ∈ p1, x.block < W.heap.size := by obtain ⟨m, hm⟩ := h1; exact DataW.trod_lt m _ _ _ hm
  have lt2 : ∀ x ∈ p2, x.block < W.heap.size := by obtain ⟨m, hm⟩ := h2; exact DataW.trod_lt m _ _ _ hm
  have lt3 : ∀ x ∈ p3, x.block < W.heap.size := by obtain ⟨m, hm⟩ := h3; exact DataW.trod_lt m _ _ _ hm
  obtain ⟨d0, ds0, rfl, oa0, hok1⟩ := V.okVs_cons hok0
  obtain ⟨e0, rfl, o0_0⟩ := V.okV_agg (show M.tt 57 = some ⟨.struct [(0, 3), (1, 3), (2, 4), (3, 4), (4, 24), (5, 24), (6, 3), (7, 3)], 8, 88⟩ by kernel_rfl) oa0
  rw [show V.leafTypes M.tt V.depth 57 = [3, 3, 4, 4, 24, 24, 3, 3] by kernel_rfl] at o0_0
  obtain ⟨e0_0, es0_0, rfl, p0_0, o0_1⟩ := V.okLs_cons o0_0
  obtain ⟨x0_0, rfl, i0_0⟩ := V.okL_int (show M.tt 3 = some ⟨.int .i64, 1, 8⟩ by kernel_rfl) p0_0
  obtain ⟨e0_1, es0_1, rfl, p0_1, o0_2⟩ := V.okLs_cons o0_1
  obtain ⟨x0_1, rfl, i0_1⟩ := V.okL_int (show M.tt 3 = some ⟨.int .i64, 1, 8⟩ by kernel_rfl) p0_1
  obtain ⟨e0_2, es0_2, rfl, p0_2, o0_3⟩ := V.okLs_cons o0_2
  obtain ⟨x0_2, rfl⟩ := V.okL_bool (show M.tt 4 = some ⟨.bool, 1, 1⟩ by kernel_rfl) p0_2
  obtain ⟨e0_3, es0_3, rfl, p0_3, o0_4⟩ := V.okLs_cons o0_3
  obtain ⟨x0_3, rfl⟩ := V.okL_bool (show M.tt 4 = some ⟨.bool, 1, 1⟩ by kernel_rfl) p0_3
  obtain ⟨e0_4, es0_4, rfl, p0_4, o0_5⟩ := V.okLs_cons o0_4
  obtain ⟨x0_4, rfl, i0_4, j0_4⟩ := V.okL_ints (k := .i64) (show M.tt 24 = some ⟨.slice 3, 1, 24⟩ by kernel_rfl) (by kernel_rfl) p0_4
  obtain ⟨e0_5, es0_5, rfl, p0_5, o0_6⟩ := V.okLs_cons o0_5
  obtain ⟨x0_5, rfl, i0_5, j0_5⟩ := V.okL_ints (k := .i64) (show M.tt 24 = some ⟨.slice 3, 1, 24⟩ by kernel_rfl) (by kernel_rfl) p0_5
  obtain ⟨e0_6, es0_6, rfl, p0_6, o0_7⟩ := V.okLs_cons o0_6
  obtain ⟨x0_6, rfl, i0_6⟩ := V.okL_int (show M.tt 3 = some ⟨.int .i64, 1, 8⟩ by kernel_rfl) p0_6
  obtain ⟨e0_7, es0_7, rfl, p0_7, o0_8⟩ := V.okLs_cons o0_7
  obtain ⟨x0_7, rfl, i0_7⟩ := V.okL_int (show M.tt 3 = some ⟨.int .i64, 1, 8⟩ by kernel_rfl) p0_7
  obtain rfl := V.okLs_nil o0_8
  obtain ⟨d1, ds1, rfl, oa1, hok2⟩ := V.okVs_cons hok1
  obtain ⟨e1, rfl, ob1⟩ := V.okV_l (by kernel_rfl) oa1
  obtain ⟨x1, rfl, i1⟩ := V.okL_int (show M.tt 3 = some ⟨.int .i64, 1, 8⟩ by kernel_rfl) ob1
  obtain ⟨d2, ds2, rfl, oa2, hok3⟩ := V.okVs_cons hok2
  obtain ⟨e2, rfl, ob2⟩ := V.okV_l (by kernel_rfl) oa2
  obtain ⟨x2, rfl, i2⟩ := V.okL_int (show M.tt 3 = some ⟨.int .i64, 1, 8⟩ by kernel_rfl) ob2
  obtain ⟨d3, ds3, rfl, oa3, hok4⟩ := V.okVs_cons hok3
  obtain ⟨e3, rfl, ob3⟩ := V.okV_l (by kernel_rfl) oa3
  obtain ⟨x3, rfl, i3, j3⟩ := V.okL_ints (k := .i64) (show M.tt 24 = some ⟨.slice 3, 1, 24⟩ by kernel_rfl) (by kernel_rfl) ob3
  obtain rfl := V.okVs_nil hok4
  have hc := (laws_FnExactMatchSheet.con V.BIG).2 ((x0_0, x0_1, x0_2, x0_3, x0_4, x0_5, x0_6, x0_7, ()), x1, x2, x3, ()) true (laws_FnExactMatchSheet.eq (Nat.le_refl _) i0_0 i0_1 j0_4 i0_4 j0_5 i0_5 i0_6 i0_7 i1 i2 j3 i3)
  refine (V.law_calls rfl hc hrel).mono fun e W' ⟨he, bel⟩ => ?_
  subst he
  exact ⟨_, rfl, _, _, _, [], _, [], hW', trodAll_mk1 (shut_bool Tryz.underlying4 _), (trodAll_cons_mk (Below.trod laidOut (by kernel_rfl) (of_decide_eq_true (by kernel_rfl)) h0 bel lt0) (trodAll_cons_mk (Below.trod laidOut (by kernel_rfl) (of_decide_eq_true (by kernel_rfl)) h1 bel lt1) (trodAll_cons_mk (Below.trod laidOut (by kernel_rfl) (of_decide_eq_true (by kernel_rfl)) h2 bel lt2) (trodAll_cons_mk (Below.trod laidOut (by kernel_rfl) (of_decide_eq_true (by kernel_rfl)) h3 bel lt3) trodAll_mk0)))), rfl, bel.frame _, fun h => by cases h⟩
set_option maxHeartbeats 100000000 in
theorem closed : joinedFacts Tryz.prog 9 Tryz.f9 Rows.fnExactMatchSheetSpec Rows.fnExactMatchSheetRow = true := by
  unfold joinedFacts
  repeat' (with_reducible refine V.and_t ?_ ?_)
  all_goals (as_aux_lemma => kernel_rfl)
theorem over : Rows.fnExactMatchSheetRow.holds Tryz.pinned (OpenSpec.ofChange Rows.fnExactMatchSheetSpec) :=
  OpenClaim.holds_of_wide 9 Tryz.f9 rfl rfl rfl rfl rfl rfl rfl ⟨rfl, rfl, rfl, rfl, rfl⟩ rfl rfl rfl rfl rfl (by kernel_rfl) Tryz.func9 closed
    (of_decide_eq_true (by kernel_rfl)) (by unfold Func.isWrapper; first | (rw [if_pos (by decide +kernel)]; kernel_rfl) | (rw [if_neg (by decide +kernel)]; exact ⟨rfl, rfl⟩))
    (fun os started H enc _ => lifted os started H enc)
theorem proved : Rows.FnExactMatchSheetSaid := over
#print axioms proved
end Go.Proofs.YtmdfedjdnjaaiaaGreat.fnExactMatchSheet
namespace Go.Proofs.YtmdfedjdnjaaiaaGreat
/-- The row, under a short name, for the claim. -/
theorem fnExactMatchSheet_holds : Rows.FnExactMatchSheetSaid := fnExactMatchSheet.proved
end Go.Proofs.YtmdfedjdnjaaiaaGreat
