/- Marked lists of events. Conditions: enough rounds, lists of at most 2^20. -/
import Derived.Test.YtfmmdbnkeadieabGreatKit
import Derived.Test.YtfmmdbnkeadieabGreatFFnExactRunEvents
import Derived.Test.YtfmmdbnkeadieabGreatXFnExactRunEvents
set_option linter.unusedVariables false
set_option linter.unusedSimpArgs false
namespace Go.Proofs.YtfmmdbnkeadieabGreat
open Go Go.Proofs.YtfmmdbnkeadieabGreat.V
theorem laws_markEventS.loop {R : Type} {k : Nat} (hk : BIG ≤ k) (N : Nat) (e0 : Int → List (List Leaf) → Option R) (hN : N < 1048577) : ∀ (r i n : Nat) (m : Int) (x : List (List Leaf)), i + r = N → r < n → x.length = N → (∀ y ∈ x.drop i, smRec y ∧ recWf [false, false, true, true] y) → 0 ≤ m → m ≤ 1152921504606846976 + 8388608 * (i : Int) → ∃ m' y, laws_markEventS.l2 k e0 n m (i : Int) x = e0 m' y ∧ y.length = N ∧ y.take i = x.take i ∧ m ≤ m' ∧ m' ≤ m + 8388608 * (r : Int) ∧ mkRs [false, false, true, true] (y.drop i) m m' := by
  intro r
  induction r with
  | zero =>
    intro i n m x hi hn hx hs h0 hm
    obtain ⟨n, rfl⟩ : ∃ n', n = n' + 1 := ⟨n - 1, by omega⟩
    refine ⟨m, x, (laws_markEventS.l2_succ ..).trans (bif_f (dec_f (by omega))), hx, rfl, by omega, by omega, ?_⟩
    rw [List.drop_eq_nil_of_le (by omega)]
    rfl
  | succ r ih =>
    intro i n m x hi hn hx hs h0 hm
    obtain ⟨n, rfl⟩ : ∃ n', n = n' + 1 := ⟨n - 1, by omega⟩
    have hil : i < x.length := by omega
    rw [drop_cons hil] at hs
    obtain ⟨hsm, hz⟩ := hs x[i] List.mem_cons_self
    have hs' : ∀ y ∈ x.drop (i + 1), smRec y ∧ recWf [false, false, true, true] y := fun y hy => hs y (List.mem_cons_of_mem _ hy)
    have hl2 := smRec_gl hsm 2
    have hl3 := smRec_gl hsm 3
    have hg : x.getD i [] = x[i] := getD_lt _ hil
    generalize x[i] = z at *
    obtain ⟨z0, z_0, rfl, zw0, zh0⟩ := recWf_int hz
    obtain ⟨z1, z_1, rfl, zw1, zh1⟩ := recWf_int zh0
    obtain ⟨z2, z_2, rfl, zw2, zh2⟩ := recWf_ints zh1
    obtain ⟨z3, z_3, rfl, zw3, zh3⟩ := recWf_ints zh2
    obtain rfl := recWf_nil zh3
    have hl2 : z2.length < 1048577 := hl2
    have hl3 : z3.length < 1048577 := hl3
    obtain ⟨m1, w2, e2, q2⟩ := laws_markIntS.eq hk z2 (m + 2) hl2 (by omega) (by omega)
    have b2 := mkI_le q2
    obtain ⟨m2, w3, e3, q3⟩ := laws_markIntS.eq hk z3 m1 hl3 (by omega) (by omega)
    have b3 := mkI_le q3
    obtain ⟨m', y, g1, g2, g3, g4, g5, g6⟩ := ih (i + 1) n m2 (x.set i [.int m, .int (m + 1), .ints w2, .ints w3]) (by omega) (by omega) (by simpa using hx) (by rw [List.drop_set_of_lt (by omega)]; exact hs') (by omega) (by omega)
    obtain ⟨t1, t2⟩ := drop_of_take (w := [.int m, .int (m + 1), .ints w2, .ints w3]) (by rw [g2, hx]) hil g3
    refine ⟨m', y, ?_, g2, t1, by omega, by omega, ?_⟩
    · refine (laws_markEventS.l2_succ ..).trans ((bif_t (dec_t (by omega))).trans ((chk_t (in_t hil)).trans ?_))
      rw [Int.toNat_natCast, wrap_up (by omega), wrap_i64 (n := m + 1) (by omega) (by omega), wrap_i64 (n := m + 1 + 1) (by omega) (by omega)]
      refine (bind_s (show some (x.set i (setLeaf [false, false, true, true] (x.getD i []) 0 (.int m))) = some (x.set i [.int m, .int z1, .ints z2, .ints z3]) by rw [hg]; rfl)).trans ?_
      refine (chk_t (in_t (by simpa using hil))).trans ?_
      refine (bind_s (show some ((x.set i [.int m, .int z1, .ints z2, .ints z3]).set i (setLeaf [false, false, true, true] ((x.set i [.int m, .int z1, .ints z2, .ints z3]).getD i []) 1 (.int (m + 1)))) = some (x.set i [.int m, .int (m + 1), .ints z2, .ints z3]) by rw [set_getD _ _ hil, List.set_set]; rfl)).trans ?_
      refine (chk_t (in_t (by simpa using hil))).trans ((chk_t (blt_t (by simpa using hil))).trans ?_)
      refine (bind_s (show laws_markIntS.f k (gl ((x.set i [.int m, .int (m + 1), .ints z2, .ints z3]).getD i []) 2) (m + 1 + 1) = _ by rw [set_getD _ _ hil, show m + 1 + 1 = m + 2 by omega]; exact e2)).trans ?_
      refine (bind_s (show some ((x.set i [.int m, .int (m + 1), .ints z2, .ints z3]).set i (setLeaf [false, false, true, true] ((x.set i [.int m, .int (m + 1), .ints z2, .ints z3]).getD i []) 2 (.ints w2))) = some (x.set i [.int m, .int (m + 1), .ints w2, .ints z3]) by rw [set_getD _ _ hil, List.set_set]; rfl)).trans ?_
      refine (chk_t (in_t (by simpa using hil))).trans ((chk_t (blt_t (by simpa using hil))).trans ?_)
      refine (bind_s (show laws_markIntS.f k (gl ((x.set i [.int m, .int (m + 1), .ints w2, .ints z3]).getD i []) 3) m1 = _ by rw [set_getD _ _ hil]; exact e3)).trans ?_
      refine (bind_s (show some ((x.set i [.int m, .int (m + 1), .ints w2, .ints z3]).set i (setLeaf [false, false, true, true] ((x.set i [.int m, .int (m + 1), .ints w2, .ints z3]).getD i []) 3 (.ints w3))) = some (x.set i [.int m, .int (m + 1), .ints w2, .ints w3]) by rw [set_getD _ _ hil, List.set_set]; rfl)).trans ?_
      exact g1
    · rw [t2]
      exact ⟨m2, ⟨rfl, rfl, m1, by rw [show m + 1 + 1 = m + 2 by omega]; exact q2, m2, q3, rfl⟩, by omega, by omega, g6⟩
theorem laws_markEventS.eq {k : Nat} (hk : BIG ≤ k) (v : List (List Leaf)) (m : Int) (hv : v.length < 1048577) (hs : ∀ y ∈ v, smRec y ∧ recWf [false, false, true, true] y) (h0 : 0 ≤ m) (hm : m ≤ 1152921504606846976) : ∃ m' w, laws_markEventS.f k v m = some (m', w) ∧ mkR [false, false, true, true] w m m' := by
  obtain ⟨m', y, g1, g2, g3, g4, g5, g6⟩ := laws_markEventS.loop hk v.length (fun x3 x4 => some (x3, x4)) hv v.length 0 k m v (by omega) (BIG_lt hk hv) rfl (by simpa using hs) h0 (by omega)
  exact ⟨m', y, g1, by omega, g4, by omega, by simpa using g6⟩
end Go.Proofs.YtfmmdbnkeadieabGreat
