/- That the Go functions come to the answers of the plain ones. Printed by a program. -/
import Derived.Test.YtfmmdbnkeadieaaT
import Derived.Test.YtfmmdbnkeadieaaMFnExactRecordOut
import Derived.Test.YtfmmdbnkeadieaaMFnExactNothingLost
import Derived.Test.YtfmmdbnkeadieaaFFnExactIsFairDeck
set_option linter.unusedVariables false
set_option maxRecDepth 100000
set_option maxHeartbeats 20000000
namespace Go.Proofs.Ytfmmdbnkeadieaa
open Go Go.Proofs.Ytfmmdbnkeadieaa.V Go.Proofs.Ytfmmdbnkeadieaa.M

namespace spec_Mod
def S : Sp := ⟨170, ⟨[3, 3], [3], [.bor, .bor], .own⟩, [.I, .I], [.O]⟩
theorem con (k : Nat) : Con Try.prog S (f k) := con_fn (nt := 15) (live := []) (Λ := noL) tok (all_cons (ok_con (spec_l1In.con k)) all_nil) mixed Try.func170 (by kernel_rfl) all_nil fun x => by kernel_rfl
end spec_Mod

namespace spec_Hash
def S : Sp := ⟨171, ⟨[22], [3], [.bor], .own⟩, [.V], [.O]⟩
def live : List (Nat × List Nat) := [(3, [0, 3, 4]), (100003, [2, 3])]
def G {R : Type} (k : Nat) : Glob R := mkG tt [spec_Mod.S.ent (spec_Mod.f k)] 22
def h3 : Hd := ⟨[.V, .I, .I], []⟩
def T3 {R : Type} (k : Nat) (K : X → St → Option R) : h3.Fn (Option R) := fun v0 v1 v2 => l3 k v0 (fun p0 => K (.exit 0) (stOf [2, 3] [.one (.l (.any)), .one (.l (.i .i64 p0))] [])) k v1 v2
def tab {R : Type} (k : Nat) : LTab R := fun id K vs hs => bif id == 3 then h3.tell vs hs (T3 k K) else none
theorem fit3 {R : Type} (k : Nat) : Fit (R := R) (G k) live (tab k) (bl Try.f171 0) := h3.fit (key := 3) (by kernel_rfl) (T3 k) (fun _ _ _ => rfl) fun K r v0 v1 v2 h => fit_mk h (fun a => h3.mk' v0 a.1 a.2) (fun _ v1 v2 => some (v1, v2)) (by kernel_rfl) (fun _ => by kernel_rfl) fun Lp a => by kernel_rfl
theorem con (k : Nat) : Con Try.prog S (f k) := con_fn (nt := 22) (live := live) (Λ := tab k) tok (all_cons (ok_con (spec_Mod.con k)) all_nil) mixed Try.func171 (by kernel_rfl) (all_cons (fit3 k) all_nil) fun x => by kernel_rfl
end spec_Hash

namespace spec_SeedSeal
def S : Sp := ⟨195, ⟨[3, 3, 3], [3], [.bor, .bor, .bor], .own⟩, [.I, .I, .I], [.O]⟩
theorem con (k : Nat) : Con Try.prog S (f k) := con_fn (nt := 12) (live := []) (Λ := noL) tok (all_cons (ok_con (spec_Hash.con k)) all_nil) mixed Try.func195 (by kernel_rfl) all_nil fun x => by kernel_rfl
end spec_SeedSeal

namespace spec_IsOpened
def S : Sp := ⟨169, ⟨[3, 3, 3, 3], [4], [.bor, .bor, .bor, .bor], .own⟩, [.I, .I, .I, .I], [.B]⟩
theorem con (k : Nat) : Con Try.prog S (f k) := con_fn (nt := 23) (live := []) (Λ := noL) tok (all_cons (ok_con (spec_l1In.con k)) (all_cons (ok_con (spec_SeedSeal.con k)) all_nil)) mixed Try.func169 (by kernel_rfl) all_nil fun x => by kernel_rfl
end spec_IsOpened

namespace spec_AreOpened
def S : Sp := ⟨136, ⟨[22, 22, 22], [4], [.bor, .bor, .bor], .own⟩, [.V, .V, .V], [.B]⟩
def live : List (Nat × List Nat) := [(4, [0, 1, 2, 7]), (100004, [6])]
def G {R : Type} (k : Nat) : Glob R := mkG tt [spec_l1In.S.ent (spec_l1In.f k), spec_IsOpened.S.ent (spec_IsOpened.f k)] 47
def h4 : Hd := ⟨[.V, .V, .V, .I], []⟩
def T4 {R : Type} (k : Nat) (K : X → St → Option R) : h4.Fn (Option R) := fun v0 v1 v2 v3 => l4 k v0 v1 v2 (K .ret (stOf [6] [.one (.l (.b false))] [])) (K (.exit 0) (stOf [6] [.one (.l (.any))] [])) k v3
def tab {R : Type} (k : Nat) : LTab R := fun id K vs hs => bif id == 4 then h4.tell vs hs (T4 k K) else none
theorem fit4 {R : Type} (k : Nat) : Fit (R := R) (G k) live (tab k) (bl Try.f136 0) := h4.fit (key := 4) (by kernel_rfl) (T4 k) (fun _ _ _ => rfl) fun K r v0 v1 v2 v3 h => fit_mk h (fun a => h4.mk' v0 v1 v2 a) (fun _ _ _ v3 => some v3) (by kernel_rfl) (fun _ => by kernel_rfl) fun Lp a => by kernel_rfl
theorem con (k : Nat) : Con Try.prog S (f k) := con_fn (nt := 47) (live := live) (Λ := tab k) tok (all_cons (ok_con (spec_l1In.con k)) (all_cons (ok_con (spec_IsOpened.con k)) all_nil)) mixed Try.func136 (by kernel_rfl) (all_cons (fit4 k) all_nil) fun x => by kernel_rfl
end spec_AreOpened

namespace spec_Shuffled
def S : Sp := ⟨137, ⟨[22, 3], [22], [.bor, .bor], .own⟩, [.V, .I], [.l .own (.ints .i64)]⟩
def live : List (Nat × List Nat) := [(3, [1, 5, 6]), (100003, [4, 5])]
def G {R : Type} (k : Nat) : Glob R := mkG tt [spec_Mod.S.ent (spec_Mod.f k), spec_Hash.S.ent (spec_Hash.f k)] 42
def h3 : Hd := ⟨[.I, .l (.own 0), .I], [.V]⟩
def T3 {R : Type} (k : Nat) (K : X → St → Option R) : h3.Fn (Option R) := fun v0 v1 v2 => l3 k v0 (fun p0 => K (.exit 0) (stOf [4, 5] [.one (.l (.any)), .one (.l (.own 0))] [some (.row 0 0 (.ints .i64 p0))])) k v1 v2
def tab {R : Type} (k : Nat) : LTab R := fun id K vs hs => bif id == 3 then h3.tell vs hs (T3 k K) else none
theorem fit3 {R : Type} (k : Nat) : Fit (R := R) (G k) live (tab k) (bl Try.f137 0) := h3.fit (key := 3) (by kernel_rfl) (T3 k) (fun _ _ _ => rfl) fun K r v0 v1 v2 h => fit_mk h (fun a => h3.mk' v0 a.1 a.2) (fun _ v1 v2 => some (v1, v2)) (by kernel_rfl) (fun _ => by kernel_rfl) fun Lp a => by kernel_rfl
theorem con (k : Nat) : Con Try.prog S (f k) := con_fn (nt := 42) (live := live) (Λ := tab k) tok (all_cons (ok_con (spec_Mod.con k)) (all_cons (ok_con (spec_Hash.con k)) all_nil)) mixed Try.func137 (by kernel_rfl) (all_cons (fit3 k) all_nil) fun x => by kernel_rfl
end spec_Shuffled

namespace spec_Missing
def S : Sp := ⟨172, ⟨[22], [22], [.bor], .own⟩, [.V], [.l .own (.ints .i64)]⟩
def live : List (Nat × List Nat) := [(3, [0, 3, 4]), (100003, [2, 3])]
def G {R : Type} (k : Nat) : Glob R := mkG tt [spec_HasCard.S.ent (spec_HasCard.f k)] 19
def h3 : Hd := ⟨[.V, .l (.own 0), .I], [.V]⟩
def T3 {R : Type} (k : Nat) (K : X → St → Option R) : h3.Fn (Option R) := fun v0 v1 v2 => l3 k v0 (fun p0 => K (.exit 0) (stOf [2, 3] [.one (.l (.any)), .one (.l (.own 0))] [some (.row 0 0 (.ints .i64 p0))])) k v1 v2
def tab {R : Type} (k : Nat) : LTab R := fun id K vs hs => bif id == 3 then h3.tell vs hs (T3 k K) else none
theorem fit3 {R : Type} (k : Nat) : Fit (R := R) (G k) live (tab k) (bl Try.f172 0) := h3.fit (key := 3) (by kernel_rfl) (T3 k) (fun _ _ _ => rfl) fun K r v0 v1 v2 h => fit_mk h (fun a => h3.mk' v0 a.1 a.2) (fun _ v1 v2 => some (v1, v2)) (by kernel_rfl) (fun _ => by kernel_rfl) fun Lp a => by kernel_rfl
theorem con (k : Nat) : Con Try.prog S (f k) := con_fn (nt := 19) (live := live) (Λ := tab k) tok (all_cons (ok_con (spec_HasCard.con k)) all_nil) mixed Try.func172 (by kernel_rfl) (all_cons (fit3 k) all_nil) fun x => by kernel_rfl
end spec_Missing

namespace spec_FullDeck
def S : Sp := ⟨138, ⟨[], [22], [], .own⟩, [], [.l .own (.ints .i64)]⟩
theorem con (k : Nat) : Con Try.prog S (f k) := con_fn (nt := 2) (live := []) (Λ := noL) tok (all_cons (ok_con (spec_Missing.con k)) all_nil) mixed Try.func138 (by kernel_rfl) all_nil fun x => by kernel_rfl
end spec_FullDeck

namespace spec_JointSeed
def S : Sp := ⟨139, ⟨[22], [3], [.bor], .own⟩, [.V], [.O]⟩
def live : List (Nat × List Nat) := [(3, [0, 3, 4]), (100003, [2, 3])]
def G {R : Type} (k : Nat) : Glob R := mkG tt [spec_Mod.S.ent (spec_Mod.f k)] 20
def h3 : Hd := ⟨[.V, .I, .I], []⟩
def T3 {R : Type} (k : Nat) (K : X → St → Option R) : h3.Fn (Option R) := fun v0 v1 v2 => l3 k v0 (fun p0 => K (.exit 0) (stOf [2, 3] [.one (.l (.any)), .one (.l (.i .i64 p0))] [])) k v1 v2
def tab {R : Type} (k : Nat) : LTab R := fun id K vs hs => bif id == 3 then h3.tell vs hs (T3 k K) else none
theorem fit3 {R : Type} (k : Nat) : Fit (R := R) (G k) live (tab k) (bl Try.f139 0) := h3.fit (key := 3) (by kernel_rfl) (T3 k) (fun _ _ _ => rfl) fun K r v0 v1 v2 h => fit_mk h (fun a => h3.mk' v0 a.1 a.2) (fun _ v1 v2 => some (v1, v2)) (by kernel_rfl) (fun _ => by kernel_rfl) fun Lp a => by kernel_rfl
theorem con (k : Nat) : Con Try.prog S (f k) := con_fn (nt := 20) (live := live) (Λ := tab k) tok (all_cons (ok_con (spec_Mod.con k)) all_nil) mixed Try.func139 (by kernel_rfl) (all_cons (fit3 k) all_nil) fun x => by kernel_rfl
end spec_JointSeed

namespace spec_JointDeck
def S : Sp := ⟨83, ⟨[22, 22, 22], [22, 4], [.bor, .bor, .bor], .own⟩, [.V, .V, .V], [.l .own (.ints .i64), .B]⟩
theorem con (k : Nat) : Con Try.prog S (f k) := con_fn (nt := 18) (live := []) (Λ := noL) tok (all_cons (ok_con (spec_AreOpened.con k)) (all_cons (ok_con (spec_Shuffled.con k)) (all_cons (ok_con (spec_FullDeck.con k)) (all_cons (ok_con (spec_JointSeed.con k)) all_nil)))) mixed Try.func83 (by kernel_rfl) all_nil fun x => by kernel_rfl
end spec_JointDeck

namespace spec_EqualInts
def S : Sp := ⟨84, ⟨[22, 22], [4], [.bor, .bor], .own⟩, [.V, .V], [.B]⟩
def live : List (Nat × List Nat) := [(4, [0, 1, 5]), (100004, [4])]
def G {R : Type} (k : Nat) : Glob R := mkG tt [] 26
def h4 : Hd := ⟨[.V, .V, .I], []⟩
def T4 {R : Type} (k : Nat) (K : X → St → Option R) : h4.Fn (Option R) := fun v0 v1 v2 => l4 k v0 v1 (K .ret (stOf [4] [.one (.l (.b false))] [])) (K (.exit 0) (stOf [4] [.one (.l (.any))] [])) k v2
def tab {R : Type} (k : Nat) : LTab R := fun id K vs hs => bif id == 4 then h4.tell vs hs (T4 k K) else none
theorem fit4 {R : Type} (k : Nat) : Fit (R := R) (G k) live (tab k) (bl Try.f84 0) := h4.fit (key := 4) (by kernel_rfl) (T4 k) (fun _ _ _ => rfl) fun K r v0 v1 v2 h => fit_mk h (fun a => h4.mk' v0 v1 a) (fun _ _ v2 => some v2) (by kernel_rfl) (fun _ => by kernel_rfl) fun Lp a => by kernel_rfl
theorem con (k : Nat) : Con Try.prog S (f k) := con_fn (nt := 26) (live := live) (Λ := tab k) tok all_nil mixed Try.func84 (by kernel_rfl) (all_cons (fit4 k) all_nil) fun x => by kernel_rfl
end spec_EqualInts

namespace spec_IsFairDeck
def S : Sp := ⟨25, ⟨[40, 22, 22], [4], [.bor, .bor, .bor], .own⟩, [.agg .lent kd33, .V, .V], [.B]⟩
theorem con (k : Nat) : Con Try.prog S (f k) := con_fn (nt := 28) (live := []) (Λ := noL) tok (all_cons (ok_con (spec_JointDeck.con k)) (all_cons (ok_con (spec_EqualInts.con k)) all_nil)) mixed Try.func25 (by kernel_rfl) all_nil fun x => by kernel_rfl
end spec_IsFairDeck

namespace impl_Mod
def S : Sp := ⟨174, ⟨[3, 3], [3], [.bor, .bor], .own⟩, [.I, .I], [.O]⟩
theorem con (k : Nat) : Con Try.prog S (f k) := con_fn (nt := 15) (live := []) (Λ := noL) tok (all_cons (ok_con (impl_InRange.con k)) all_nil) mixed Try.func174 (by kernel_rfl) all_nil fun x => by kernel_rfl
end impl_Mod

namespace impl_Hash
def S : Sp := ⟨175, ⟨[22], [3], [.bor], .own⟩, [.V], [.O]⟩
def live : List (Nat × List Nat) := [(3, [3, 6, 7, 8]), (100003, [2, 3])]
def G {R : Type} (k : Nat) : Glob R := mkG tt [impl_Mod.S.ent (impl_Mod.f k)] 21
def h3 : Hd := ⟨[.I, .V, .I, .I], []⟩
def T3 {R : Type} (k : Nat) (K : X → St → Option R) : h3.Fn (Option R) := fun v0 v1 v2 v3 => l3 k v1 v2 (fun p0 => K (.exit 0) (stOf [2, 3] [.one (.l (.any)), .one (.l (.i .i64 p0))] [])) k v0 v3
def tab {R : Type} (k : Nat) : LTab R := fun id K vs hs => bif id == 3 then h3.tell vs hs (T3 k K) else none
theorem fit3 {R : Type} (k : Nat) : Fit (R := R) (G k) live (tab k) (bl Try.f175 0) := h3.fit (key := 3) (by kernel_rfl) (T3 k) (fun _ _ _ => rfl) fun K r v0 v1 v2 v3 h => fit_mk h (fun a => h3.mk' a.1 v1 v2 a.2) (fun v0 _ _ v3 => some (v0, v3)) (by kernel_rfl) (fun _ => by kernel_rfl) fun Lp a => by kernel_rfl
theorem con (k : Nat) : Con Try.prog S (f k) := con_fn (nt := 21) (live := live) (Λ := tab k) tok (all_cons (ok_con (impl_Mod.con k)) all_nil) mixed Try.func175 (by kernel_rfl) (all_cons (fit3 k) all_nil) fun x => by kernel_rfl
end impl_Hash

namespace impl_SeedSeal
def S : Sp := ⟨196, ⟨[3, 3, 3], [3], [.bor, .bor, .bor], .own⟩, [.I, .I, .I], [.O]⟩
theorem con (k : Nat) : Con Try.prog S (f k) := con_fn (nt := 12) (live := []) (Λ := noL) tok (all_cons (ok_con (impl_Hash.con k)) all_nil) mixed Try.func196 (by kernel_rfl) all_nil fun x => by kernel_rfl
end impl_SeedSeal

namespace impl_IsOpened
def S : Sp := ⟨173, ⟨[3, 3, 3, 3], [4], [.bor, .bor, .bor, .bor], .own⟩, [.I, .I, .I, .I], [.B]⟩
theorem con (k : Nat) : Con Try.prog S (f k) := con_fn (nt := 23) (live := []) (Λ := noL) tok (all_cons (ok_con (impl_InRange.con k)) (all_cons (ok_con (impl_SeedSeal.con k)) all_nil)) mixed Try.func173 (by kernel_rfl) all_nil fun x => by kernel_rfl
end impl_IsOpened

namespace impl_AreOpened
def S : Sp := ⟨140, ⟨[22, 22, 22], [4], [.bor, .bor, .bor], .own⟩, [.V, .V, .V], [.B]⟩
def live : List (Nat × List Nat) := [(5, [0, 1, 2, 27, 28]), (100005, [6])]
def G {R : Type} (k : Nat) : Glob R := mkG tt [impl_InRange.S.ent (impl_InRange.f k), impl_IsOpened.S.ent (impl_IsOpened.f k)] 47
def h5 : Hd := ⟨[.V, .V, .V, .I, .I], []⟩
def T5 {R : Type} (k : Nat) (K : X → St → Option R) : h5.Fn (Option R) := fun v0 v1 v2 v3 v4 => l5 k v0 v1 v2 v3 (K .ret (stOf [6] [.one (.l (.b false))] [])) (K (.exit 0) (stOf [6] [.one (.l (.any))] [])) k v4
def tab {R : Type} (k : Nat) : LTab R := fun id K vs hs => bif id == 5 then h5.tell vs hs (T5 k K) else none
theorem fit5 {R : Type} (k : Nat) : Fit (R := R) (G k) live (tab k) (bl Try.f140 0) := h5.fit (key := 5) (by kernel_rfl) (T5 k) (fun _ _ _ => rfl) fun K r v0 v1 v2 v3 v4 h => fit_mk h (fun a => h5.mk' v0 v1 v2 v3 a) (fun _ _ _ _ v4 => some v4) (by kernel_rfl) (fun _ => by kernel_rfl) fun Lp a => by kernel_rfl
theorem con (k : Nat) : Con Try.prog S (f k) := con_fn (nt := 47) (live := live) (Λ := tab k) tok (all_cons (ok_con (impl_InRange.con k)) (all_cons (ok_con (impl_IsOpened.con k)) all_nil)) mixed Try.func140 (by kernel_rfl) (all_cons (fit5 k) all_nil) fun x => by kernel_rfl
end impl_AreOpened

namespace impl_Shuffled
def S : Sp := ⟨141, ⟨[22, 3], [22], [.bor, .bor], .own⟩, [.V, .I], [.l .own (.ints .i64)]⟩
def live : List (Nat × List Nat) := [(3, [1, 5, 6]), (100003, [4, 5])]
def G {R : Type} (k : Nat) : Glob R := mkG tt [impl_copyOf.S.ent (impl_copyOf.f k), impl_Mod.S.ent (impl_Mod.f k), impl_Hash.S.ent (impl_Hash.f k)] 39
def h3 : Hd := ⟨[.I, .l (.own 0), .I], [.V]⟩
def T3 {R : Type} (k : Nat) (K : X → St → Option R) : h3.Fn (Option R) := fun v0 v1 v2 => l3 k v0 (fun p0 => K (.exit 0) (stOf [4, 5] [.one (.l (.any)), .one (.l (.own 0))] [some (.row 0 0 (.ints .i64 p0))])) k v1 v2
def tab {R : Type} (k : Nat) : LTab R := fun id K vs hs => bif id == 3 then h3.tell vs hs (T3 k K) else none
theorem fit3 {R : Type} (k : Nat) : Fit (R := R) (G k) live (tab k) (bl Try.f141 0) := h3.fit (key := 3) (by kernel_rfl) (T3 k) (fun _ _ _ => rfl) fun K r v0 v1 v2 h => fit_mk h (fun a => h3.mk' v0 a.1 a.2) (fun _ v1 v2 => some (v1, v2)) (by kernel_rfl) (fun _ => by kernel_rfl) fun Lp a => by kernel_rfl
theorem con (k : Nat) : Con Try.prog S (f k) := con_fn (nt := 39) (live := live) (Λ := tab k) tok (all_cons (ok_con (impl_copyOf.con k)) (all_cons (ok_con (impl_Mod.con k)) (all_cons (ok_con (impl_Hash.con k)) all_nil))) mixed Try.func141 (by kernel_rfl) (all_cons (fit3 k) all_nil) fun x => by kernel_rfl
end impl_Shuffled

namespace impl_Missing
def S : Sp := ⟨176, ⟨[22], [22], [.bor], .own⟩, [.V], [.l .own (.ints .i64)]⟩
def live : List (Nat × List Nat) := [(3, [0, 3, 6]), (100003, [2, 3])]
def G {R : Type} (k : Nat) : Glob R := mkG tt [impl_HasCard.S.ent (impl_HasCard.f k)] 19
def h3 : Hd := ⟨[.V, .l (.own 0), .I], [.V]⟩
def T3 {R : Type} (k : Nat) (K : X → St → Option R) : h3.Fn (Option R) := fun v0 v1 v2 => l3 k v0 (fun p0 => K (.exit 0) (stOf [2, 3] [.one (.l (.any)), .one (.l (.own 0))] [some (.row 0 0 (.ints .i64 p0))])) k v1 v2
def tab {R : Type} (k : Nat) : LTab R := fun id K vs hs => bif id == 3 then h3.tell vs hs (T3 k K) else none
theorem fit3 {R : Type} (k : Nat) : Fit (R := R) (G k) live (tab k) (bl Try.f176 0) := h3.fit (key := 3) (by kernel_rfl) (T3 k) (fun _ _ _ => rfl) fun K r v0 v1 v2 h => fit_mk h (fun a => h3.mk' v0 a.1 a.2) (fun _ v1 v2 => some (v1, v2)) (by kernel_rfl) (fun _ => by kernel_rfl) fun Lp a => by kernel_rfl
theorem con (k : Nat) : Con Try.prog S (f k) := con_fn (nt := 19) (live := live) (Λ := tab k) tok (all_cons (ok_con (impl_HasCard.con k)) all_nil) mixed Try.func176 (by kernel_rfl) (all_cons (fit3 k) all_nil) fun x => by kernel_rfl
end impl_Missing

namespace impl_FullDeck
def S : Sp := ⟨142, ⟨[], [22], [], .own⟩, [], [.l .own (.ints .i64)]⟩
theorem con (k : Nat) : Con Try.prog S (f k) := con_fn (nt := 2) (live := []) (Λ := noL) tok (all_cons (ok_con (impl_Missing.con k)) all_nil) mixed Try.func142 (by kernel_rfl) all_nil fun x => by kernel_rfl
end impl_FullDeck

namespace impl_JointSeed
def S : Sp := ⟨143, ⟨[22], [3], [.bor], .own⟩, [.V], [.O]⟩
def live : List (Nat × List Nat) := [(3, [3, 6, 7, 8]), (100003, [2, 3])]
def G {R : Type} (k : Nat) : Glob R := mkG tt [impl_Mod.S.ent (impl_Mod.f k)] 19
def h3 : Hd := ⟨[.I, .V, .I, .I], []⟩
def T3 {R : Type} (k : Nat) (K : X → St → Option R) : h3.Fn (Option R) := fun v0 v1 v2 v3 => l3 k v1 v2 (fun p0 => K (.exit 0) (stOf [2, 3] [.one (.l (.any)), .one (.l (.i .i64 p0))] [])) k v0 v3
def tab {R : Type} (k : Nat) : LTab R := fun id K vs hs => bif id == 3 then h3.tell vs hs (T3 k K) else none
theorem fit3 {R : Type} (k : Nat) : Fit (R := R) (G k) live (tab k) (bl Try.f143 0) := h3.fit (key := 3) (by kernel_rfl) (T3 k) (fun _ _ _ => rfl) fun K r v0 v1 v2 v3 h => fit_mk h (fun a => h3.mk' a.1 v1 v2 a.2) (fun v0 _ _ v3 => some (v0, v3)) (by kernel_rfl) (fun _ => by kernel_rfl) fun Lp a => by kernel_rfl
theorem con (k : Nat) : Con Try.prog S (f k) := con_fn (nt := 19) (live := live) (Λ := tab k) tok (all_cons (ok_con (impl_Mod.con k)) all_nil) mixed Try.func143 (by kernel_rfl) (all_cons (fit3 k) all_nil) fun x => by kernel_rfl
end impl_JointSeed

namespace impl_JointDeck
def S : Sp := ⟨85, ⟨[22, 22, 22], [22, 4], [.bor, .bor, .bor], .own⟩, [.V, .V, .V], [.l .own (.ints .i64), .B]⟩
theorem con (k : Nat) : Con Try.prog S (f k) := con_fn (nt := 17) (live := []) (Λ := noL) tok (all_cons (ok_con (impl_AreOpened.con k)) (all_cons (ok_con (impl_Shuffled.con k)) (all_cons (ok_con (impl_FullDeck.con k)) (all_cons (ok_con (impl_JointSeed.con k)) all_nil)))) mixed Try.func85 (by kernel_rfl) all_nil fun x => by kernel_rfl
end impl_JointDeck

namespace impl_EqualInts
def S : Sp := ⟨86, ⟨[22, 22], [4], [.bor, .bor], .own⟩, [.V, .V], [.B]⟩
def live : List (Nat × List Nat) := [(4, [0, 1, 12, 13]), (100004, [4])]
def G {R : Type} (k : Nat) : Glob R := mkG tt [] 26
def h4 : Hd := ⟨[.V, .V, .I, .I], []⟩
def T4 {R : Type} (k : Nat) (K : X → St → Option R) : h4.Fn (Option R) := fun v0 v1 v2 v3 => l4 k v0 v1 v2 (K .ret (stOf [4] [.one (.l (.b false))] [])) (K (.exit 0) (stOf [4] [.one (.l (.any))] [])) k v3
def tab {R : Type} (k : Nat) : LTab R := fun id K vs hs => bif id == 4 then h4.tell vs hs (T4 k K) else none
theorem fit4 {R : Type} (k : Nat) : Fit (R := R) (G k) live (tab k) (bl Try.f86 0) := h4.fit (key := 4) (by kernel_rfl) (T4 k) (fun _ _ _ => rfl) fun K r v0 v1 v2 v3 h => fit_mk h (fun a => h4.mk' v0 v1 v2 a) (fun _ _ _ v3 => some v3) (by kernel_rfl) (fun _ => by kernel_rfl) fun Lp a => by kernel_rfl
theorem con (k : Nat) : Con Try.prog S (f k) := con_fn (nt := 26) (live := live) (Λ := tab k) tok all_nil mixed Try.func86 (by kernel_rfl) (all_cons (fit4 k) all_nil) fun x => by kernel_rfl
end impl_EqualInts

namespace impl_IsFairDeck
def S : Sp := ⟨26, ⟨[40, 22, 22], [4], [.bor, .bor, .bor], .own⟩, [.agg .lent kd33, .V, .V], [.B]⟩
theorem con (k : Nat) : Con Try.prog S (f k) := con_fn (nt := 28) (live := []) (Λ := noL) tok (all_cons (ok_con (impl_JointDeck.con k)) (all_cons (ok_con (impl_EqualInts.con k)) all_nil)) mixed Try.func26 (by kernel_rfl) all_nil fun x => by kernel_rfl
end impl_IsFairDeck

namespace laws_FnExactIsFairDeck
def S : Sp := ⟨6, ⟨[33, 22, 22], [4], [.bor, .bor, .bor], .own⟩, [.agg .lent kd33, .V, .V], [.B]⟩
theorem con (k : Nat) : Con Try.prog S (f k) := con_fn (nt := 59) (live := []) (Λ := noL) tok (all_cons (ok_con (laws_toIntS.con k)) (all_cons (ok_con (laws_eqIntS.con k)) (all_cons (ok_con (laws_szTable.con k)) (all_cons (ok_con (laws_toTable.con k)) (all_cons (ok_con (laws_eqTable.con k)) (all_cons (ok_con (spec_IsFairDeck.con k)) (all_cons (ok_con (impl_IsFairDeck.con k)) all_nil))))))) mixed Try.func6 (by kernel_rfl) all_nil fun x => by kernel_rfl
end laws_FnExactIsFairDeck
end Go.Proofs.Ytfmmdbnkeadieaa
