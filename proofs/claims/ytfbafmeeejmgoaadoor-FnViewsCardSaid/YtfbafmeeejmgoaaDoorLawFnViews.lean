import Derived.Test.YtfbafmeeejmgoaaDoorRows
import Derived.Test.YtfbafmeeejmgoaaDoorVLaw
import Derived.Test.YtfbafmeeejmgoaaDoorMFnViews
import Derived.Test.YtfbafmeeejmgoaaDoorPFnViews
import Derived.WalkKit
import Derived.ProofKit
import Derived.OpenShut
import Derived.ShutString
import Derived.ChangeOld
import Derived.Below
import Derived.SizedLaws
import Derived.Test.YtfbafmeeejmgoaaDoorCards
import Derived.Test.YtfbafmeeejmgoaaDoorTie
import Derived.LaidMore
import Derived.Stop.Joined
import Derived.Lib.LaidTab
import Derived.SevenTiedAt
set_option linter.unusedVariables false
set_option linter.unusedSimpArgs false
open Go
namespace Go.Proofs.YtfbafmeeejmgoaaDoor.fnViews
open Go.ChangeShapes Go.WideShapes Go.ChangeAt Go.RowKit
open Go.ChangeMaps (open_string shut_string)
set_option linter.unusedVariables false
theorem own : ownKnob Tryd.prog.godebug = none := by kernel_rfl
theorem laidOut : laidOutB Tryd.prog = true := by kernel_rfl
abbrev laidL : List (String × DataW Unit) := [("math/bits.deBruijn32tab", Rows.laid_math_bits_deBruijn32tab), ("math/bits.deBruijn64tab", Rows.laid_math_bits_deBruijn64tab), ("internal/strconv.uint64pow10", Rows.laid_internal_strconv_uint64pow10)]
theorem door_met (os : Os) (args : Array Value) : laidMetH Tryd.prog laidL ((World.doorLaid Tryd.prog 24 os).forCall (fun _ _ => 0) ⟨#[], args, []⟩).memory :=
  laidMetH_of_parts3 (fuel := 8) (laidMet_of_run' 8 (by kernel_rfl) (by kernel_rfl)) (by kernel_rfl) (by kernel_rfl)
theorem gT : Tryd.prog.globalNamed "internal/strconv.uint64pow10" = some 1 := by kernel_rfl
theorem gTy : (Tryd.prog.globals[1]?).map (·.type) = some 99 := by kernel_rfl
theorem uT : Tryd.prog.underlying 99 = some (.array 20 93) := by kernel_rfl
theorem uE : Tryd.prog.underlying 93 = some (.int .u64) := by kernel_rfl
theorem grounded {W : World} (h : laidMetH Tryd.prog laidL W) : V.Ground Tryd.prog W (V.Zall W) := by
  rw [MakeChecks.laidMetH_plain _ _ _ (by kernel_rfl)] at h
  obtain ⟨ps, ⟨g0, t0, cs0, f0, p0, q0, hg0, ht0, hv0, hd0, ⟨g1, t1, cs1, f1, p1, q1, hg1, ht1, hv1, hd1, ⟨g2, t2, cs2, f2, p2, q2, hg2, ht2, hv2, hd2, _, _⟩, _⟩, _⟩, _, _⟩ := h
  obtain rfl := Option.some.inj (gT.symm.trans hg2)
  obtain rfl := Option.some.inj (gTy.symm.trans ht2)
  have hc := Lib.cells_of_tab (k := .u64) (zs := Lib.pow10Tab) uT uE (by kernel_rfl) (by kernel_rfl) hd2
  intro b hb
  obtain rfl := Option.some.inj (gT.symm.trans hb)
  refine ⟨V.var_lt gT hv2, ?_⟩
  rw [show V.tabName = "internal/strconv.uint64pow10" from rfl, hv2]
  exact congrArg some (Array.toArray_toList.symm.trans (congrArg List.toArray hc))
set_option maxRecDepth 100000 in
theorem lifted (os : Os) (started : os.Started) (H : Type) (enc : TypeId × Value → H) :
    ReturnsInHanded {} Tryd.checked os 4 .any (fun w args => (Rows.fnViewsSpec.pre enc Tryd.prog Tryd.f4 [] false w args ∧ laidMetH Tryd.prog laidL w) ∧ sizedMet enc Tryd.prog Tryd.f4 (OpenSpec.ofChange Rows.fnViewsSpec) false w args) (Rows.fnViewsSpec.post enc Tryd.prog Tryd.f4 false true false false) := by
  refine returnsInHanded_of_change_and (C := Tryd.checked) (X := fun w _ => laidMetH Tryd.prog laidL w) (fun _ _ _ hh h => h.of_heap hh) own started (by kernel_rfl) Tryd.func4
    (ChangeSpec.witness_shaped (enc := enc) (C := Tryd.checked) (os := os) (X := fun w _ => laidMetH Tryd.prog laidL w) false (World.doorLaid Tryd.prog 24 os) #[.slice none 0 0] 8 rfl (World.shaped_of_RefB (by kernel_rfl) (by kernel_rfl)) (by kernel_rfl) (by kernel_rfl) (by kernel_rfl) (door_met os _)) ?_
  intro W base args ds gs before hval0 hW _ _ hL _
  have hval : ∀ (j : Nat) t v, Tryd.f4.params[j]? = some t → args[j]? = some v → Value.okWide Tryd.prog W .any base t v := hval0
  have hW' := hW
  obtain ⟨p, q, hA0, hV, rfl, hfz, hnd⟩ := hW
  have hA : DataW.TrodAll enc Tryd.prog W 0 (fun _ => true) true Tryd.f4.params.toList args.toList ds p := hA0
  obtain ⟨rfl, rfl⟩ := trodVars_none hV
  rw [Tryd.params4] at hA hval
  obtain ⟨dvs, hrel, hok0⟩ := V.args_open M.tok (Zf := V.Zall W) (ts := [27]) (by kernel_rfl) (fun j t v e1 e2 => hval j t v (by simpa using e1) (by simpa using e2)) (show DataW.TrodAll enc Tryd.prog W 0 (fun _ => true) true [27] args.toList ds p from hA)
  obtain ⟨v0, vs0, t0, ts0, p0, q0, hargs, rfl, rfl, h0, r0⟩ := trodAll_cons hA
  obtain ⟨rfl, rfl, rfl⟩ := trodAll_nil r0
  obtain rfl : args = #[v0] := by cases args; simp_all
  have lt0 : ∀ x ∈ p0, x.block < W.heap.size := by obtain ⟨m, hm⟩ := h0; exact DataW.trod_lt m _ _ _ hm
  obtain ⟨d0, ds0, rfl, oa0, hok1⟩ := V.okVs_cons hok0
  obtain ⟨e0, rfl, ob0⟩ := V.okV_l (by kernel_rfl) oa0
  obtain ⟨x0, rfl, i0, j0⟩ := V.okL_ints (k := .u8) (show M.tt 27 = some ⟨.slice 5, 1, 24⟩ by kernel_rfl) (by kernel_rfl) ob0
  obtain rfl := V.okVs_nil hok1
  have hc := (laws_FnViews.con V.BIG).2 (x0, ()) true (laws_FnViews.eq (Nat.le_refl _) j0 i0)
  refine (V.law_calls_frz (grounded hL) rfl hc (V.lent_frz hrel)).mono fun e W' ⟨he, bel⟩ => ?_
  subst he
  exact ⟨_, rfl, _, _, _, [], _, [], hW', trodAll_mk1 (shut_bool Tryd.underlying4 _), (trodAll_cons_mk (Below.trod laidOut (by kernel_rfl) (of_decide_eq_true (by kernel_rfl)) h0 bel lt0) trodAll_mk0), rfl, bel.frame _, fun h => by cases h⟩
set_option maxHeartbeats 100000000 in
theorem closed : joinedFacts Tryd.prog 4 Tryd.f4 Rows.fnViewsSpec Rows.fnViewsRow = true := by
  unfold joinedFacts
  repeat' (with_reducible refine V.and_t ?_ ?_)
  all_goals (as_aux_lemma => kernel_rfl)
theorem over : Rows.fnViewsRow.holds Tryd.pinned (OpenSpec.ofChange Rows.fnViewsSpec) :=
  OpenClaim.holds_of_wide 4 Tryd.f4 rfl rfl rfl rfl rfl rfl rfl ⟨rfl, rfl, rfl, rfl, rfl⟩ rfl rfl rfl rfl rfl (by kernel_rfl) Tryd.func4 closed
    (of_decide_eq_true (by kernel_rfl)) (by unfold Func.isWrapper; first | (rw [if_pos (by decide +kernel)]; kernel_rfl) | (rw [if_neg (by decide +kernel)]; exact ⟨rfl, rfl⟩))
    (fun os started H enc _ => lifted os started H enc)
theorem card : Rows.FnViewsCardSaid :=
  Claim7.holds_tied_plain_at .later [] [.data, .data, .data] true (true, "12c803e2f92bff99264c1006f4b2e423ca1b99a7c92adfd902b43574a3dc3183") false
    over (fun _ h => by cases h) (by kernel_rfl) (fun _ h => by cases h) fnViews_row_tie rfl ⟨rfl, rfl⟩ (by kernel_rfl) rfl
    (fun f fn hf hfn => by
      obtain rfl : f = 4 := Option.some.inj ((show Tryd.prog.funcNamed "loop.example/g03010/laws.FnViews" = some 4 by kernel_rfl).symm.trans hf) |>.symm
      obtain rfl : fn = Tryd.f4 := (Option.some.inj (Tryd.func4.symm.trans hfn)).symm
      exact ⟨by kernel_rfl, fun j t ht => by
        rw [Tryd.params4] at ht
        have hm : t ∈ [27] := by simpa using Array.mem_of_getElem? ht
        have hall : ([27].all fun u => !Tryd.prog.wantsStandIn u) = true := by kernel_rfl
        exact (show Tryd.prog.wantsStandIn t = false by simpa using List.all_eq_true.1 hall t hm)⟩)
    (by kernel_rfl)
#print axioms card
end Go.Proofs.YtfbafmeeejmgoaaDoor.fnViews
namespace Go.Proofs.YtfbafmeeejmgoaaDoor
/-- The tied card, under a short name, for the claim. -/
theorem fnViews_holds : Rows.FnViewsCardSaid := fnViews.card
end Go.Proofs.YtfbafmeeejmgoaaDoor
