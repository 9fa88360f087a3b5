/- That the Go functions come to the answers of the plain ones. Printed by a program. -/
import Derived.Test.YtbblolalkpfapaaGreatT
import Derived.Test.YtbblolalkpfapaaGreatMFnExactMatchWinner
import Derived.Test.YtbblolalkpfapaaGreatMFnExactStepSeal
import Derived.Test.YtbblolalkpfapaaGreatMFnExactBranch
import Derived.Test.YtbblolalkpfapaaGreatFFnExactStepDeal
set_option linter.unusedVariables false
set_option maxRecDepth 100000
set_option maxHeartbeats 20000000
namespace Go.Proofs.YtbblolalkpfapaaGreat
open Go Go.Proofs.YtbblolalkpfapaaGreat.V Go.Proofs.YtbblolalkpfapaaGreat.M

namespace spec_SeedSeal
def S : Sp := ⟨177, ⟨[3, 3, 3], [3], [.bor, .bor, .bor], .own⟩, [.I, .I, .I], [.O]⟩
theorem con (k : Nat) : Con Tryz.prog S (f k) := con_fn (nt := 12) (live := []) (Λ := noL) tok (all_cons (ok_con (spec_Hash.con k)) all_nil) mixed Tryz.func177 (by kernel_rfl) all_nil fun x => by kernel_rfl
end spec_SeedSeal

namespace spec_IsOpened
def S : Sp := ⟨224, ⟨[3, 3, 3, 3], [4], [.bor, .bor, .bor, .bor], .own⟩, [.I, .I, .I, .I], [.B]⟩
theorem con (k : Nat) : Con Tryz.prog S (f k) := con_fn (nt := 23) (live := []) (Λ := noL) tok (all_cons (ok_con (spec_l1In.con k)) (all_cons (ok_con (spec_SeedSeal.con k)) all_nil)) mixed Tryz.func224 (by kernel_rfl) all_nil fun x => by kernel_rfl
end spec_IsOpened

namespace spec_AreOpened
def S : Sp := ⟨190, ⟨[22, 22, 22], [4], [.bor, .bor, .bor], .own⟩, [.V, .V, .V], [.B]⟩
def live : List (Nat × List Nat) := [(4, [0, 1, 2, 7]), (100004, [6])]
def G {R : Type} (k : Nat) : Glob R := mkG tt [spec_l1In.S.ent (spec_l1In.f k), spec_IsOpened.S.ent (spec_IsOpened.f k)] 47
def h4 : Hd := ⟨[.V, .V, .V, .I], []⟩
def T4 {R : Type} (k : Nat) (K : X → St → Option R) : h4.Fn (Option R) := fun v0 v1 v2 v3 => l4 k v0 v1 v2 (K .ret (stOf [6] [.one (.l (.b false))] [])) (K (.exit 0) (stOf [6] [.one (.l (.any))] [])) k v3
def tab {R : Type} (k : Nat) : LTab R := fun id K vs hs => bif id == 4 then h4.tell vs hs (T4 k K) else none
theorem fit4 {R : Type} (k : Nat) : Fit (R := R) (G k) live (tab k) (bl Tryz.f190 0) := h4.fit (key := 4) (by kernel_rfl) (T4 k) (fun _ _ _ => rfl) fun K r v0 v1 v2 v3 h => fit_mk h (fun a => h4.mk' v0 v1 v2 a) (fun _ _ _ v3 => some v3) rfl (fun _ => rfl) fun Lp a => by kernel_rfl
theorem con (k : Nat) : Con Tryz.prog S (f k) := con_fn (nt := 47) (live := live) (Λ := tab k) tok (all_cons (ok_con (spec_l1In.con k)) (all_cons (ok_con (spec_IsOpened.con k)) all_nil)) mixed Tryz.func190 (by kernel_rfl) (all_cons (fit4 k) all_nil) fun x => by kernel_rfl
end spec_AreOpened

namespace spec_JointSeed
def S : Sp := ⟨193, ⟨[22], [3], [.bor], .own⟩, [.V], [.O]⟩
def live : List (Nat × List Nat) := [(3, [0, 3, 4]), (100003, [2, 3])]
def G {R : Type} (k : Nat) : Glob R := mkG tt [spec_Mod.S.ent (spec_Mod.f k)] 20
def h3 : Hd := ⟨[.V, .I, .I], []⟩
def T3 {R : Type} (k : Nat) (K : X → St → Option R) : h3.Fn (Option R) := fun v0 v1 v2 => l3 k v0 (fun p0 => K (.exit 0) (stOf [2, 3] [.one (.l (.any)), .one (.l (.i .i64 p0))] [])) k v1 v2
def tab {R : Type} (k : Nat) : LTab R := fun id K vs hs => bif id == 3 then h3.tell vs hs (T3 k K) else none
theorem fit3 {R : Type} (k : Nat) : Fit (R := R) (G k) live (tab k) (bl Tryz.f193 0) := h3.fit (key := 3) (by kernel_rfl) (T3 k) (fun _ _ _ => rfl) fun K r v0 v1 v2 h => fit_mk h (fun a => h3.mk' v0 a.1 a.2) (fun _ v1 v2 => some (v1, v2)) rfl (fun _ => rfl) fun Lp a => by kernel_rfl
theorem con (k : Nat) : Con Tryz.prog S (f k) := con_fn (nt := 20) (live := live) (Λ := tab k) tok (all_cons (ok_con (spec_Mod.con k)) all_nil) mixed Tryz.func193 (by kernel_rfl) (all_cons (fit3 k) all_nil) fun x => by kernel_rfl
end spec_JointSeed

namespace spec_JointDeck
def S : Sp := ⟨134, ⟨[22, 22, 22], [22, 4], [.bor, .bor, .bor], .own⟩, [.V, .V, .V], [.l .own (.ints .i64), .B]⟩
theorem con (k : Nat) : Con Tryz.prog S (f k) := con_fn (nt := 18) (live := []) (Λ := noL) tok (all_cons (ok_con (spec_AreOpened.con k)) (all_cons (ok_con (spec_Shuffled.con k)) (all_cons (ok_con (spec_FullDeck.con k)) (all_cons (ok_con (spec_JointSeed.con k)) all_nil)))) mixed Tryz.func134 (by kernel_rfl) all_nil fun x => by kernel_rfl
end spec_JointDeck

namespace spec_IsSealed
def S : Sp := ⟨136, ⟨[42], [4], [.bor], .own⟩, [.agg .lent kd37], [.B]⟩
theorem con (k : Nat) : Con Tryz.prog S (f k) := con_fn (nt := 15) (live := []) (Λ := noL) tok all_nil mixed Tryz.func136 (by kernel_rfl) all_nil fun x => by kernel_rfl
end spec_IsSealed

namespace spec_StepDeal
def S : Sp := ⟨62, ⟨[42, 22, 22], [42, 4], [.bor, .bor, .bor], .own⟩, [.agg .lent kd37, .V, .V], [.agg .own kd37, .B]⟩
theorem con (k : Nat) : Con Tryz.prog S (f k) := con_fn (nt := 48) (live := []) (Λ := noL) tok (all_cons (ok_con (spec_l33Copy.con k)) (all_cons (ok_con (spec_l34Done.con k)) (all_cons (ok_con (spec_JointDeck.con k)) (all_cons (ok_con (spec_NewGame.con k)) (all_cons (ok_con (spec_IsSealed.con k)) all_nil))))) mixed Tryz.func62 (by kernel_rfl) all_nil fun x => by kernel_rfl
end spec_StepDeal

namespace impl_SeedSeal
def S : Sp := ⟨148, ⟨[3, 3, 3], [3], [.bor, .bor, .bor], .own⟩, [.I, .I, .I], [.O]⟩
theorem con (k : Nat) : Con Tryz.prog S (f k) := con_fn (nt := 12) (live := []) (Λ := noL) tok (all_cons (ok_con (impl_Hash.con k)) all_nil) mixed Tryz.func148 (by kernel_rfl) all_nil fun x => by kernel_rfl
end impl_SeedSeal

namespace impl_IsOpened
def S : Sp := ⟨217, ⟨[3, 3, 3, 3], [4], [.bor, .bor, .bor, .bor], .own⟩, [.I, .I, .I, .I], [.B]⟩
theorem con (k : Nat) : Con Tryz.prog S (f k) := con_fn (nt := 23) (live := []) (Λ := noL) tok (all_cons (ok_con (impl_InRange.con k)) (all_cons (ok_con (impl_SeedSeal.con k)) all_nil)) mixed Tryz.func217 (by kernel_rfl) all_nil fun x => by kernel_rfl
end impl_IsOpened

namespace impl_AreOpened
def S : Sp := ⟨178, ⟨[22, 22, 22], [4], [.bor, .bor, .bor], .own⟩, [.V, .V, .V], [.B]⟩
def live : List (Nat × List Nat) := [(5, [0, 1, 2, 27, 28]), (100005, [6])]
def G {R : Type} (k : Nat) : Glob R := mkG tt [impl_InRange.S.ent (impl_InRange.f k), impl_IsOpened.S.ent (impl_IsOpened.f k)] 47
def h5 : Hd := ⟨[.V, .V, .V, .I, .I], []⟩
def T5 {R : Type} (k : Nat) (K : X → St → Option R) : h5.Fn (Option R) := fun v0 v1 v2 v3 v4 => l5 k v0 v1 v2 v3 (K .ret (stOf [6] [.one (.l (.b false))] [])) (K (.exit 0) (stOf [6] [.one (.l (.any))] [])) k v4
def tab {R : Type} (k : Nat) : LTab R := fun id K vs hs => bif id == 5 then h5.tell vs hs (T5 k K) else none
theorem fit5 {R : Type} (k : Nat) : Fit (R := R) (G k) live (tab k) (bl Tryz.f178 0) := h5.fit (key := 5) (by kernel_rfl) (T5 k) (fun _ _ _ => rfl) fun K r v0 v1 v2 v3 v4 h => fit_mk h (fun a => h5.mk' v0 v1 v2 v3 a) (fun _ _ _ _ v4 => some v4) rfl (fun _ => rfl) fun Lp a => by kernel_rfl
theorem con (k : Nat) : Con Tryz.prog S (f k) := con_fn (nt := 47) (live := live) (Λ := tab k) tok (all_cons (ok_con (impl_InRange.con k)) (all_cons (ok_con (impl_IsOpened.con k)) all_nil)) mixed Tryz.func178 (by kernel_rfl) (all_cons (fit5 k) all_nil) fun x => by kernel_rfl
end impl_AreOpened

namespace impl_JointSeed
def S : Sp := ⟨181, ⟨[22], [3], [.bor], .own⟩, [.V], [.O]⟩
def live : List (Nat × List Nat) := [(3, [3, 6, 7, 8]), (100003, [2, 3])]
def G {R : Type} (k : Nat) : Glob R := mkG tt [impl_Mod.S.ent (impl_Mod.f k)] 19
def h3 : Hd := ⟨[.I, .V, .I, .I], []⟩
def T3 {R : Type} (k : Nat) (K : X → St → Option R) : h3.Fn (Option R) := fun v0 v1 v2 v3 => l3 k v1 v2 (fun p0 => K (.exit 0) (stOf [2, 3] [.one (.l (.any)), .one (.l (.i .i64 p0))] [])) k v0 v3
def tab {R : Type} (k : Nat) : LTab R := fun id K vs hs => bif id == 3 then h3.tell vs hs (T3 k K) else none
theorem fit3 {R : Type} (k : Nat) : Fit (R := R) (G k) live (tab k) (bl Tryz.f181 0) := h3.fit (key := 3) (by kernel_rfl) (T3 k) (fun _ _ _ => rfl) fun K r v0 v1 v2 v3 h => fit_mk h (fun a => h3.mk' a.1 v1 v2 a.2) (fun v0 _ _ v3 => some (v0, v3)) rfl (fun _ => rfl) fun Lp a => by kernel_rfl
theorem con (k : Nat) : Con Tryz.prog S (f k) := con_fn (nt := 19) (live := live) (Λ := tab k) tok (all_cons (ok_con (impl_Mod.con k)) all_nil) mixed Tryz.func181 (by kernel_rfl) (all_cons (fit3 k) all_nil) fun x => by kernel_rfl
end impl_JointSeed

namespace impl_JointDeck
def S : Sp := ⟨128, ⟨[22, 22, 22], [22, 4], [.bor, .bor, .bor], .own⟩, [.V, .V, .V], [.l .own (.ints .i64), .B]⟩
theorem con (k : Nat) : Con Tryz.prog S (f k) := con_fn (nt := 17) (live := []) (Λ := noL) tok (all_cons (ok_con (impl_AreOpened.con k)) (all_cons (ok_con (impl_Shuffled.con k)) (all_cons (ok_con (impl_FullDeck.con k)) (all_cons (ok_con (impl_JointSeed.con k)) all_nil)))) mixed Tryz.func128 (by kernel_rfl) all_nil fun x => by kernel_rfl
end impl_JointDeck

namespace impl_IsSealed
def S : Sp := ⟨137, ⟨[42], [4], [.bor], .own⟩, [.agg .lent kd37], [.B]⟩
theorem con (k : Nat) : Con Tryz.prog S (f k) := con_fn (nt := 15) (live := []) (Λ := noL) tok all_nil mixed Tryz.func137 (by kernel_rfl) all_nil fun x => by kernel_rfl
end impl_IsSealed

namespace impl_StepDeal
def S : Sp := ⟨63, ⟨[42, 22, 22], [42, 4], [.bor, .bor, .bor], .own⟩, [.agg .lent kd37, .V, .V], [.agg .own kd37, .B]⟩
theorem con (k : Nat) : Con Tryz.prog S (f k) := con_fn (nt := 50) (live := []) (Λ := noL) tok (all_cons (ok_con (impl_Table_copied.con k)) (all_cons (ok_con (impl_Table_becomes.con k)) (all_cons (ok_con (impl_NewGame.con k)) (all_cons (ok_con (impl_JointDeck.con k)) (all_cons (ok_con (impl_IsSealed.con k)) all_nil))))) mixed Tryz.func63 (by kernel_rfl) all_nil fun x => by kernel_rfl
end impl_StepDeal

namespace laws_FnExactStepDeal
def S : Sp := ⟨11, ⟨[37, 22, 22], [4], [.bor, .bor, .bor], .own⟩, [.agg .lent kd37, .V, .V], [.B]⟩
theorem con (k : Nat) : Con Tryz.prog S (f k) := con_fn (nt := 138) (live := []) (Λ := noL) tok (all_cons (ok_con (laws_toIntS.con k)) (all_cons (ok_con (laws_eqIntS.con k)) (all_cons (ok_con (laws_szTable.con k)) (all_cons (ok_con (laws_toTable.con k)) (all_cons (ok_con (laws_eqTable.con k)) (all_cons (ok_con (laws_markTable.con k)) (all_cons (ok_con (laws_heldTable.con k)) (all_cons (ok_con (laws_markIntS.con k)) (all_cons (ok_con (spec_StepDeal.con k)) (all_cons (ok_con (impl_StepDeal.con k)) all_nil)))))))))) mixed Tryz.func11 (by kernel_rfl) all_nil fun x => by kernel_rfl
end laws_FnExactStepDeal
end Go.Proofs.YtbblolalkpfapaaGreat
