/- That the Go functions come to the answers of the plain ones. Printed by a program. -/
import Derived.Test.YtmdfedjdnjaaiaaGreatT
import Derived.Test.YtmdfedjdnjaaiaaGreatFFnExactMatchRound
set_option linter.unusedVariables false
set_option maxRecDepth 100000
set_option maxHeartbeats 20000000
namespace Go.Proofs.YtmdfedjdnjaaiaaGreat
open Go Go.Proofs.YtmdfedjdnjaaiaaGreat.V Go.Proofs.YtmdfedjdnjaaiaaGreat.M

namespace laws_szIntS
def S : Sp := ⟨116, ⟨[24, 3], [3], [.bor, .bor], .own⟩, [.V, .I], [.O]⟩
theorem con (k : Nat) : Con Tryz.prog S (f k) := con_fn (nt := 12) (live := []) (Λ := noL) tok all_nil mixed Tryz.func116 (by kernel_rfl) all_nil fun x => by kernel_rfl
end laws_szIntS

namespace laws_szRules
def S : Sp := ⟨38, ⟨[57, 3], [3], [.bor, .bor], .own⟩, [.agg .lent kd26, .I], [.O]⟩
theorem con (k : Nat) : Con Tryz.prog S (f k) := con_fn (nt := 18) (live := []) (Λ := noL) tok (all_cons (ok_con (laws_szIntS.con k)) all_nil) mixed Tryz.func38 (by kernel_rfl) all_nil fun x => by kernel_rfl
end laws_szRules

namespace spec_l1In
def S : Sp := ⟨151, ⟨[3, 3, 3], [4], [.bor, .bor, .bor], .own⟩, [.I, .I, .I], [.B]⟩
theorem con (k : Nat) : Con Tryz.prog S (f k) := con_fn (nt := 15) (live := []) (Λ := noL) tok all_nil mixed Tryz.func151 (by kernel_rfl) all_nil fun x => by kernel_rfl
end spec_l1In

namespace spec_SeatsFor
def S : Sp := ⟨117, ⟨[3, 3], [24], [.bor, .bor], .own⟩, [.I, .I], [.l .own (.ints .i64)]⟩
def live : List (Nat × List Nat) := [(3, [0, 1, 5, 6]), (100003, [4, 5])]
def G {R : Type} (k : Nat) : Glob R := mkG tt [spec_l1In.S.ent (spec_l1In.f k)] 30
def h3 : Hd := ⟨[.I, .I, .l (.own 0), .I], [.V]⟩
def T3 {R : Type} (k : Nat) (K : X → St → Option R) : h3.Fn (Option R) := fun v0 v1 v2 v3 => l3 k v0 v1 (fun p0 => K (.exit 0) (stOf [4, 5] [.one (.l (.any)), .one (.l (.own 0))] [some (.row 0 0 (.ints .i64 p0))])) k v2 v3
def tab {R : Type} (k : Nat) : LTab R := fun id K vs hs => bif id == 3 then h3.tell vs hs (T3 k K) else none
theorem fit3 {R : Type} (k : Nat) : Fit (R := R) (G k) live (tab k) (bl Tryz.f117 0) := h3.fit (key := 3) (by kernel_rfl) (T3 k) (fun _ _ _ => rfl) fun K r v0 v1 v2 v3 h => fit_mk h (fun a => h3.mk' v0 v1 a.1 a.2) (fun _ _ v2 v3 => some (v2, v3)) rfl (fun _ => rfl) fun Lp a => by kernel_rfl
theorem con (k : Nat) : Con Tryz.prog S (f k) := con_fn (nt := 30) (live := live) (Λ := tab k) tok (all_cons (ok_con (spec_l1In.con k)) all_nil) mixed Tryz.func117 (by kernel_rfl) (all_cons (fit3 k) all_nil) fun x => by kernel_rfl
end spec_SeatsFor

namespace spec_l8Leaf
def S : Sp := ⟨249, ⟨[3], [4], [.bor], .own⟩, [.I], [.B]⟩
theorem con (k : Nat) : Con Tryz.prog S (f k) := con_fn (nt := 17) (live := []) (Λ := noL) tok (all_cons (ok_con (spec_l1In.con k)) all_nil) mixed Tryz.func249 (by kernel_rfl) all_nil fun x => by kernel_rfl
end spec_l8Leaf

namespace spec_IsPattern
def S : Sp := ⟨225, ⟨[24], [4], [.bor], .own⟩, [.V], [.B]⟩
def live : List (Nat × List Nat) := [(3, [0, 3, 4]), (100003, [0, 2, 3])]
def G {R : Type} (k : Nat) : Glob R := mkG tt [spec_l8Leaf.S.ent (spec_l8Leaf.f k)] 55
def h3 : Hd := ⟨[.V, .I, .I], []⟩
def T3 {R : Type} (k : Nat) (K : X → St → Option R) : h3.Fn (Option R) := fun v0 v1 v2 => l3 k v0 (fun p0 => K .ret (stOf [0, 2, 3] [.one (.l (.val false (.ints .i64 v0))), .one (.l (.b false)), .one (.l (.i .i64 p0))] [])) (fun p0 => K (.exit 0) (stOf [0, 2, 3] [.one (.l (.val false (.ints .i64 v0))), .one (.l (.any)), .one (.l (.i .i64 p0))] [])) k v1 v2
def tab {R : Type} (k : Nat) : LTab R := fun id K vs hs => bif id == 3 then h3.tell vs hs (T3 k K) else none
theorem fit3 {R : Type} (k : Nat) : Fit (R := R) (G k) live (tab k) (bl Tryz.f225 0) := h3.fit (key := 3) (by kernel_rfl) (T3 k) (fun _ _ _ => rfl) fun K r v0 v1 v2 h => fit_mk h (fun a => h3.mk' v0 a.1 a.2) (fun _ v1 v2 => some (v1, v2)) rfl (fun _ => rfl) fun Lp a => by kernel_rfl
theorem con (k : Nat) : Con Tryz.prog S (f k) := con_fn (nt := 55) (live := live) (Λ := tab k) tok (all_cons (ok_con (spec_l8Leaf.con k)) all_nil) mixed Tryz.func225 (by kernel_rfl) (all_cons (fit3 k) all_nil) fun x => by kernel_rfl
end spec_IsPattern

namespace spec_l22Pattern
def S : Sp := ⟨186, ⟨[24], [4], [.bor], .own⟩, [.V], [.B]⟩
theorem con (k : Nat) : Con Tryz.prog S (f k) := con_fn (nt := 10) (live := []) (Λ := noL) tok (all_cons (ok_con (spec_IsPattern.con k)) all_nil) mixed Tryz.func186 (by kernel_rfl) all_nil fun x => by kernel_rfl
end spec_l22Pattern

namespace spec_IsRules
def S : Sp := ⟨118, ⟨[26], [4], [.bor], .own⟩, [.agg .lent kd26], [.B]⟩
theorem con (k : Nat) : Con Tryz.prog S (f k) := con_fn (nt := 39) (live := []) (Λ := noL) tok (all_cons (ok_con (spec_l1In.con k)) (all_cons (ok_con (spec_l22Pattern.con k)) all_nil)) mixed Tryz.func118 (by kernel_rfl) all_nil fun x => by kernel_rfl
end spec_IsRules

namespace spec_l22Copy
def S : Sp := ⟨167, ⟨[26], [26], [.bor], .own⟩, [.agg .lent kd26], [.agg .own kd26]⟩
theorem con (k : Nat) : Con Tryz.prog S (f k) := con_fn (nt := 14) (live := []) (Λ := noL) tok all_nil mixed Tryz.func167 (by kernel_rfl) all_nil fun x => by kernel_rfl
end spec_l22Copy

namespace spec_HasCard
def S : Sp := ⟨180, ⟨[24, 3], [4], [.bor, .bor], .own⟩, [.V, .I], [.B]⟩
def live : List (Nat × List Nat) := [(2, [0, 1, 5]), (100002, [4])]
def G {R : Type} (k : Nat) : Glob R := mkG tt [] 18
def h2 : Hd := ⟨[.V, .I, .I], []⟩
def T2 {R : Type} (k : Nat) (K : X → St → Option R) : h2.Fn (Option R) := fun v0 v1 v2 => l2 k v0 v1 (K .ret (stOf [4] [.one (.l (.b true))] [])) (K (.exit 0) (stOf [4] [.one (.l (.any))] [])) k v2
def tab {R : Type} (k : Nat) : LTab R := fun id K vs hs => bif id == 2 then h2.tell vs hs (T2 k K) else none
theorem fit2 {R : Type} (k : Nat) : Fit (R := R) (G k) live (tab k) (bl Tryz.f180 0) := h2.fit (key := 2) (by kernel_rfl) (T2 k) (fun _ _ _ => rfl) fun K r v0 v1 v2 h => fit_mk h (fun a => h2.mk' v0 v1 a) (fun _ _ v2 => some v2) rfl (fun _ => rfl) fun Lp a => by kernel_rfl
theorem con (k : Nat) : Con Tryz.prog S (f k) := con_fn (nt := 18) (live := live) (Λ := tab k) tok all_nil mixed Tryz.func180 (by kernel_rfl) (all_cons (fit2 k) all_nil) fun x => by kernel_rfl
end spec_HasCard

namespace spec_IsCard
def S : Sp := ⟨206, ⟨[3], [4], [.bor], .own⟩, [.I], [.B]⟩
theorem con (k : Nat) : Con Tryz.prog S (f k) := con_fn (nt := 5) (live := []) (Λ := noL) tok (all_cons (ok_con (spec_l1In.con k)) all_nil) mixed Tryz.func206 (by kernel_rfl) all_nil fun x => by kernel_rfl
end spec_IsCard

namespace spec_IsHand
def S : Sp := ⟨187, ⟨[24], [4], [.bor], .own⟩, [.V], [.B]⟩
def live : List (Nat × List Nat) := [(2, [0, 3]), (100002, [2])]
def G {R : Type} (k : Nat) : Glob R := mkG tt [spec_HasCard.S.ent (spec_HasCard.f k), spec_IsCard.S.ent (spec_IsCard.f k)] 26
def h2 : Hd := ⟨[.V, .I], []⟩
def T2 {R : Type} (k : Nat) (K : X → St → Option R) : h2.Fn (Option R) := fun v0 v1 => l2 k v0 (K .ret (stOf [2] [.one (.l (.b false))] [])) (K (.exit 0) (stOf [2] [.one (.l (.any))] [])) k v1
def tab {R : Type} (k : Nat) : LTab R := fun id K vs hs => bif id == 2 then h2.tell vs hs (T2 k K) else none
theorem fit2 {R : Type} (k : Nat) : Fit (R := R) (G k) live (tab k) (bl Tryz.f187 0) := h2.fit (key := 2) (by kernel_rfl) (T2 k) (fun _ _ _ => rfl) fun K r v0 v1 h => fit_mk h (fun a => h2.mk' v0 a) (fun _ v1 => some v1) rfl (fun _ => rfl) fun Lp a => by kernel_rfl
theorem con (k : Nat) : Con Tryz.prog S (f k) := con_fn (nt := 26) (live := live) (Λ := tab k) tok (all_cons (ok_con (spec_HasCard.con k)) (all_cons (ok_con (spec_IsCard.con k)) all_nil)) mixed Tryz.func187 (by kernel_rfl) (all_cons (fit2 k) all_nil) fun x => by kernel_rfl
end spec_IsHand

namespace spec_Dealt
def S : Sp := ⟨188, ⟨[24, 3, 3], [27, 24, 4], [.bor, .bor, .bor], .own⟩, [.V, .I, .I], [.l .own .rows, .l .own (.ints .i64), .B]⟩
def live : List (Nat × List Nat) := [(9, [0, 1, 2, 9, 10, 11, 12]), (100009, [0, 1, 2, 6, 7, 8, 9, 10, 11]), (5, [0, 1, 2, 9, 10]), (100005, [0, 1, 2, 6, 7, 8, 9])]
def G {R : Type} (k : Nat) : Glob R := mkG tt [spec_l1In.S.ent (spec_l1In.f k), spec_IsHand.S.ent (spec_IsHand.f k)] 73
def h9 : Hd := ⟨[.V, .I, .I, .l (.own 0), .I, .l (.own 1), .I], [.W, .V]⟩
def T9 {R : Type} (k : Nat) (K : X → St → Option R) : h9.Fn (Option R) := fun v0 v1 v2 v3 v4 v5 v6 => l9 k v0 v1 v2 v3 (fun p0 => K (.exit 2) (stOf [0, 1, 2, 6, 7, 8, 9, 10, 11] [.one (.l (.val false (.ints .i64 v0))), .one (.l (.i .i64 v1)), .one (.l (.i .i64 v2)), .one (.l (.any)), .one (.l (.any)), .one (.l (.any)), .one (.l (.own 0)), .one (.l (.i .i64 v3)), .one (.l (.own 1))] [some (.row 0 0 (.rows true v5)), some (.row 0 0 (.ints .i64 p0))])) k v4 v6
def h5 : Hd := ⟨[.V, .I, .I, .l (.own 0), .I], [.W]⟩
def T5 {R : Type} (k : Nat) (K : X → St → Option R) : h5.Fn (Option R) := fun v0 v1 v2 v3 v4 => l5 k v0 v1 v2 (fun p0 => K (.exit 0) (stOf [0, 1, 2, 6, 7, 8, 9] [.one (.l (.val false (.ints .i64 v0))), .one (.l (.i .i64 v1)), .one (.l (.i .i64 v2)), .one (.l (.any)), .one (.l (.any)), .one (.l (.any)), .one (.l (.own 0))] [some (.row 0 0 (.rows true p0))])) k v3 v4
def tab {R : Type} (k : Nat) : LTab R := fun id K vs hs => bif id == 9 then h9.tell vs hs (T9 k K) else bif id == 5 then h5.tell vs hs (T5 k K) else none
theorem fit5 {R : Type} (k : Nat) : Fit (R := R) (G k) live (tab k) (bl Tryz.f188 0) := h5.fit (key := 5) (by kernel_rfl) (T5 k) (fun _ _ _ => rfl) fun K r v0 v1 v2 v3 v4 h => fit_mk h (fun a => h5.mk' v0 v1 v2 a.1 a.2) (fun _ _ _ v3 v4 => some (v3, v4)) rfl (fun _ => rfl) fun Lp a => by kernel_rfl
theorem fit9 {R : Type} (k : Nat) : Fit (R := R) (G k) live (tab k) (bl Tryz.f188 1) := h9.fit (key := 9) (by kernel_rfl) (T9 k) (fun _ _ _ => rfl) fun K r v0 v1 v2 v3 v4 v5 v6 h => fit_mk h (fun a => h9.mk' v0 v1 v2 v3 a.1 v5 a.2) (fun _ _ _ _ v4 _ v6 => some (v4, v6)) rfl (fun _ => rfl) fun Lp a => by kernel_rfl
theorem con (k : Nat) : Con Tryz.prog S (f k) := con_fn (nt := 73) (live := live) (Λ := tab k) tok (all_cons (ok_con (spec_l1In.con k)) (all_cons (ok_con (spec_IsHand.con k)) all_nil)) mixed Tryz.func188 (by kernel_rfl) (all_cons (fit5 k) (all_cons (fit9 k) all_nil)) fun x => by kernel_rfl
end spec_Dealt

namespace spec_NewGame
def S : Sp := ⟨119, ⟨[26, 24], [29, 4], [.bor, .bor], .own⟩, [.agg .lent kd26, .V], [.agg .own kd29, .B]⟩
theorem con (k : Nat) : Con Tryz.prog S (f k) := con_fn (nt := 45) (live := []) (Λ := noL) tok (all_cons (ok_con (spec_IsRules.con k)) (all_cons (ok_con (spec_l22Copy.con k)) (all_cons (ok_con (spec_IsHand.con k)) (all_cons (ok_con (spec_Dealt.con k)) all_nil)))) mixed Tryz.func119 (by kernel_rfl) all_nil fun x => by kernel_rfl
end spec_NewGame

namespace spec_Mod
def S : Sp := ⟨189, ⟨[3, 3], [3], [.bor, .bor], .own⟩, [.I, .I], [.O]⟩
theorem con (k : Nat) : Con Tryz.prog S (f k) := con_fn (nt := 15) (live := []) (Λ := noL) tok (all_cons (ok_con (spec_l1In.con k)) all_nil) mixed Tryz.func189 (by kernel_rfl) all_nil fun x => by kernel_rfl
end spec_Mod

namespace spec_Hash
def S : Sp := ⟨122, ⟨[24], [3], [.bor], .own⟩, [.V], [.O]⟩
def live : List (Nat × List Nat) := [(3, [0, 3, 4]), (100003, [2, 3])]
def G {R : Type} (k : Nat) : Glob R := mkG tt [spec_Mod.S.ent (spec_Mod.f k)] 22
def h3 : Hd := ⟨[.V, .I, .I], []⟩
def T3 {R : Type} (k : Nat) (K : X → St → Option R) : h3.Fn (Option R) := fun v0 v1 v2 => l3 k v0 (fun p0 => K (.exit 0) (stOf [2, 3] [.one (.l (.any)), .one (.l (.i .i64 p0))] [])) k v1 v2
def tab {R : Type} (k : Nat) : LTab R := fun id K vs hs => bif id == 3 then h3.tell vs hs (T3 k K) else none
theorem fit3 {R : Type} (k : Nat) : Fit (R := R) (G k) live (tab k) (bl Tryz.f122 0) := h3.fit (key := 3) (by kernel_rfl) (T3 k) (fun _ _ _ => rfl) fun K r v0 v1 v2 h => fit_mk h (fun a => h3.mk' v0 a.1 a.2) (fun _ v1 v2 => some (v1, v2)) rfl (fun _ => rfl) fun Lp a => by kernel_rfl
theorem con (k : Nat) : Con Tryz.prog S (f k) := con_fn (nt := 22) (live := live) (Λ := tab k) tok (all_cons (ok_con (spec_Mod.con k)) all_nil) mixed Tryz.func122 (by kernel_rfl) (all_cons (fit3 k) all_nil) fun x => by kernel_rfl
end spec_Hash

namespace spec_Shuffled
def S : Sp := ⟨120, ⟨[24, 3], [24], [.bor, .bor], .own⟩, [.V, .I], [.l .own (.ints .i64)]⟩
def live : List (Nat × List Nat) := [(3, [1, 5, 6]), (100003, [4, 5])]
def G {R : Type} (k : Nat) : Glob R := mkG tt [spec_Hash.S.ent (spec_Hash.f k), spec_Mod.S.ent (spec_Mod.f k)] 42
def h3 : Hd := ⟨[.I, .l (.own 0), .I], [.V]⟩
def T3 {R : Type} (k : Nat) (K : X → St → Option R) : h3.Fn (Option R) := fun v0 v1 v2 => l3 k v0 (fun p0 => K (.exit 0) (stOf [4, 5] [.one (.l (.any)), .one (.l (.own 0))] [some (.row 0 0 (.ints .i64 p0))])) k v1 v2
def tab {R : Type} (k : Nat) : LTab R := fun id K vs hs => bif id == 3 then h3.tell vs hs (T3 k K) else none
theorem fit3 {R : Type} (k : Nat) : Fit (R := R) (G k) live (tab k) (bl Tryz.f120 0) := h3.fit (key := 3) (by kernel_rfl) (T3 k) (fun _ _ _ => rfl) fun K r v0 v1 v2 h => fit_mk h (fun a => h3.mk' v0 a.1 a.2) (fun _ v1 v2 => some (v1, v2)) rfl (fun _ => rfl) fun Lp a => by kernel_rfl
theorem con (k : Nat) : Con Tryz.prog S (f k) := con_fn (nt := 42) (live := live) (Λ := tab k) tok (all_cons (ok_con (spec_Hash.con k)) (all_cons (ok_con (spec_Mod.con k)) all_nil)) mixed Tryz.func120 (by kernel_rfl) (all_cons (fit3 k) all_nil) fun x => by kernel_rfl
end spec_Shuffled

namespace spec_Missing
def S : Sp := ⟨190, ⟨[24], [24], [.bor], .own⟩, [.V], [.l .own (.ints .i64)]⟩
def live : List (Nat × List Nat) := [(3, [0, 3, 4]), (100003, [2, 3])]
def G {R : Type} (k : Nat) : Glob R := mkG tt [spec_HasCard.S.ent (spec_HasCard.f k)] 19
def h3 : Hd := ⟨[.V, .l (.own 0), .I], [.V]⟩
def T3 {R : Type} (k : Nat) (K : X → St → Option R) : h3.Fn (Option R) := fun v0 v1 v2 => l3 k v0 (fun p0 => K (.exit 0) (stOf [2, 3] [.one (.l (.any)), .one (.l (.own 0))] [some (.row 0 0 (.ints .i64 p0))])) k v1 v2
def tab {R : Type} (k : Nat) : LTab R := fun id K vs hs => bif id == 3 then h3.tell vs hs (T3 k K) else none
theorem fit3 {R : Type} (k : Nat) : Fit (R := R) (G k) live (tab k) (bl Tryz.f190 0) := h3.fit (key := 3) (by kernel_rfl) (T3 k) (fun _ _ _ => rfl) fun K r v0 v1 v2 h => fit_mk h (fun a => h3.mk' v0 a.1 a.2) (fun _ v1 v2 => some (v1, v2)) rfl (fun _ => rfl) fun Lp a => by kernel_rfl
theorem con (k : Nat) : Con Tryz.prog S (f k) := con_fn (nt := 19) (live := live) (Λ := tab k) tok (all_cons (ok_con (spec_HasCard.con k)) all_nil) mixed Tryz.func190 (by kernel_rfl) (all_cons (fit3 k) all_nil) fun x => by kernel_rfl
end spec_Missing

namespace spec_FullDeck
def S : Sp := ⟨121, ⟨[], [24], [], .own⟩, [], [.l .own (.ints .i64)]⟩
theorem con (k : Nat) : Con Tryz.prog S (f k) := con_fn (nt := 2) (live := []) (Λ := noL) tok (all_cons (ok_con (spec_Missing.con k)) all_nil) mixed Tryz.func121 (by kernel_rfl) all_nil fun x => by kernel_rfl
end spec_FullDeck

namespace spec_RankOf
def S : Sp := ⟨237, ⟨[3], [3], [.bor], .own⟩, [.I], [.O]⟩
theorem con (k : Nat) : Con Tryz.prog S (f k) := con_fn (nt := 8) (live := []) (Λ := noL) tok (all_cons (ok_con (spec_IsCard.con k)) all_nil) mixed Tryz.func237 (by kernel_rfl) all_nil fun x => by kernel_rfl
end spec_RankOf

namespace spec_ValueOf
def S : Sp := ⟨250, ⟨[3], [3], [.bor], .own⟩, [.I], [.O]⟩
theorem con (k : Nat) : Con Tryz.prog S (f k) := con_fn (nt := 17) (live := []) (Λ := noL) tok (all_cons (ok_con (spec_RankOf.con k)) all_nil) mixed Tryz.func250 (by kernel_rfl) all_nil fun x => by kernel_rfl
end spec_ValueOf

namespace spec_l10Sum
def S : Sp := ⟨226, ⟨[24], [3], [.bor], .own⟩, [.V], [.O]⟩
def live : List (Nat × List Nat) := [(3, [0, 3, 4]), (100003, [2, 3])]
def G {R : Type} (k : Nat) : Glob R := mkG tt [spec_ValueOf.S.ent (spec_ValueOf.f k)] 19
def h3 : Hd := ⟨[.V, .I, .I], []⟩
def T3 {R : Type} (k : Nat) (K : X → St → Option R) : h3.Fn (Option R) := fun v0 v1 v2 => l3 k v0 (fun p0 => K (.exit 0) (stOf [2, 3] [.one (.l (.any)), .one (.l (.i .i64 p0))] [])) k v1 v2
def tab {R : Type} (k : Nat) : LTab R := fun id K vs hs => bif id == 3 then h3.tell vs hs (T3 k K) else none
theorem fit3 {R : Type} (k : Nat) : Fit (R := R) (G k) live (tab k) (bl Tryz.f226 0) := h3.fit (key := 3) (by kernel_rfl) (T3 k) (fun _ _ _ => rfl) fun K r v0 v1 v2 h => fit_mk h (fun a => h3.mk' v0 a.1 a.2) (fun _ v1 v2 => some (v1, v2)) rfl (fun _ => rfl) fun Lp a => by kernel_rfl
theorem con (k : Nat) : Con Tryz.prog S (f k) := con_fn (nt := 19) (live := live) (Λ := tab k) tok (all_cons (ok_con (spec_ValueOf.con k)) all_nil) mixed Tryz.func226 (by kernel_rfl) (all_cons (fit3 k) all_nil) fun x => by kernel_rfl
end spec_l10Sum

namespace spec_LeftPoints
def S : Sp := ⟨191, ⟨[29], [24], [.bor], .own⟩, [.agg .lent kd29], [.l .own (.ints .i64)]⟩
def live : List (Nat × List Nat) := [(3, [1, 3, 4]), (100003, [2, 3])]
def G {R : Type} (k : Nat) : Glob R := mkG tt [spec_l10Sum.S.ent (spec_l10Sum.f k)] 23
def h3 : Hd := ⟨[.l (.ptr 0 0), .l (.own 1), .I], [.box [.I, .I, .b, .b, .V, .V, .I, .I, .W, .V, .V, .I, .I, .I], .V]⟩
def T3 {R : Type} (k : Nat) (K : X → St → Option R) : h3.Fn (Option R) := fun v0 _ _ _ _ _ _ _ _ v9 _ _ _ _ _ v15 => l3 k v9 (fun p0 => K (.exit 0) (stOf [2, 3] [.one (.l (.any)), .one (.l (.own 0))] [some (.row 0 0 (.ints .i64 p0))])) k v0 v15
def tab {R : Type} (k : Nat) : LTab R := fun id K vs hs => bif id == 3 then h3.tell vs hs (T3 k K) else none
theorem fit3 {R : Type} (k : Nat) : Fit (R := R) (G k) live (tab k) (bl Tryz.f191 0) := h3.fit (key := 3) (by kernel_rfl) (T3 k) (fun _ _ _ => rfl) fun K r v0 v1 v2 v3 v4 v5 v6 v7 v8 v9 v10 v11 v12 v13 v14 v15 h => fit_mk h (fun a => h3.mk' a.1 v1 v2 v3 v4 v5 v6 v7 v8 v9 v10 v11 v12 v13 v14 a.2) (fun v0 _ _ _ _ _ _ _ _ _ _ _ _ _ _ v15 => some (v0, v15)) rfl (fun _ => rfl) fun Lp a => by kernel_rfl
theorem con (k : Nat) : Con Tryz.prog S (f k) := con_fn (nt := 23) (live := live) (Λ := tab k) tok (all_cons (ok_con (spec_l10Sum.con k)) all_nil) mixed Tryz.func191 (by kernel_rfl) (all_cons (fit3 k) all_nil) fun x => by kernel_rfl
end spec_LeftPoints

namespace spec_IsGame
def S : Sp := ⟨193, ⟨[29], [4], [.bor], .own⟩, [.agg .lent kd29], [.B]⟩
def live : List (Nat × List Nat) := [(5, [1, 3, 4]), (100005, [2, 3])]
def G {R : Type} (k : Nat) : Glob R := mkG tt [spec_IsRules.S.ent (spec_IsRules.f k), spec_l1In.S.ent (spec_l1In.f k), spec_IsHand.S.ent (spec_IsHand.f k)] 79
def h5 : Hd := ⟨[.l (.ptr 0 0), .l (.own 1), .I], [.box [.I, .I, .b, .b, .V, .V, .I, .I, .W, .V, .V, .I, .I, .I], .V]⟩
def T5 {R : Type} (k : Nat) (K : X → St → Option R) : h5.Fn (Option R) := fun v0 _ _ _ _ _ _ _ _ v9 _ _ _ _ _ v15 => l5 k v9 (fun p0 => K (.exit 0) (stOf [2, 3] [.one (.l (.any)), .one (.l (.own 0))] [some (.row 0 0 (.ints .i64 p0))])) k v0 v15
def tab {R : Type} (k : Nat) : LTab R := fun id K vs hs => bif id == 5 then h5.tell vs hs (T5 k K) else none
theorem fit5 {R : Type} (k : Nat) : Fit (R := R) (G k) live (tab k) (bl Tryz.f193 0) := h5.fit (key := 5) (by kernel_rfl) (T5 k) (fun _ _ _ => rfl) fun K r v0 v1 v2 v3 v4 v5 v6 v7 v8 v9 v10 v11 v12 v13 v14 v15 h => fit_mk h (fun a => h5.mk' a.1 v1 v2 v3 v4 v5 v6 v7 v8 v9 v10 v11 v12 v13 v14 a.2) (fun v0 _ _ _ _ _ _ _ _ _ _ _ _ _ _ v15 => some (v0, v15)) rfl (fun _ => rfl) fun Lp a => by kernel_rfl
theorem con (k : Nat) : Con Tryz.prog S (f k) := con_fn (nt := 79) (live := live) (Λ := tab k) tok (all_cons (ok_con (spec_IsRules.con k)) (all_cons (ok_con (spec_l1In.con k)) (all_cons (ok_con (spec_IsHand.con k)) all_nil))) mixed Tryz.func193 (by kernel_rfl) (all_cons (fit5 k) all_nil) fun x => by kernel_rfl
end spec_IsGame

namespace spec_l24First
def S : Sp := ⟨227, ⟨[29], [3], [.bor], .own⟩, [.agg .lent kd29], [.O]⟩
def live : List (Nat × List Nat) := [(2, [1, 3]), (100002, [2])]
def G {R : Type} (k : Nat) : Glob R := mkG tt [] 19
def h2 : Hd := ⟨[.l (.ptr 0 0), .I], [.box [.I, .I, .b, .b, .V, .V, .I, .I, .W, .V, .V, .I, .I, .I]]⟩
def T2 {R : Type} (k : Nat) (K : X → St → Option R) : h2.Fn (Option R) := fun v0 _ _ _ _ _ _ _ _ v9 _ _ _ _ _ => l2 k v9 (fun p0 => K .ret (stOf [2] [.one (.l (.i .i64 p0))] [])) (K (.exit 0) (stOf [2] [.one (.l (.any))] [])) k v0
def tab {R : Type} (k : Nat) : LTab R := fun id K vs hs => bif id == 2 then h2.tell vs hs (T2 k K) else none
theorem fit2 {R : Type} (k : Nat) : Fit (R := R) (G k) live (tab k) (bl Tryz.f227 0) := h2.fit (key := 2) (by kernel_rfl) (T2 k) (fun _ _ _ => rfl) fun K r v0 v1 v2 v3 v4 v5 v6 v7 v8 v9 v10 v11 v12 v13 v14 h => fit_mk h (fun a => h2.mk' a v1 v2 v3 v4 v5 v6 v7 v8 v9 v10 v11 v12 v13 v14) (fun v0 _ _ _ _ _ _ _ _ _ _ _ _ _ _ => some v0) rfl (fun _ => rfl) fun Lp a => by kernel_rfl
theorem con (k : Nat) : Con Tryz.prog S (f k) := con_fn (nt := 19) (live := live) (Λ := tab k) tok all_nil mixed Tryz.func227 (by kernel_rfl) (all_cons (fit2 k) all_nil) fun x => by kernel_rfl
end spec_l24First

namespace spec_Winner
def S : Sp := ⟨192, ⟨[29], [3], [.bor], .own⟩, [.agg .lent kd29], [.O]⟩
theorem con (k : Nat) : Con Tryz.prog S (f k) := con_fn (nt := 8) (live := []) (Λ := noL) tok (all_cons (ok_con (spec_IsGame.con k)) (all_cons (ok_con (spec_l24First.con k)) all_nil)) mixed Tryz.func192 (by kernel_rfl) all_nil fun x => by kernel_rfl
end spec_Winner

namespace spec_Settled
def S : Sp := ⟨123, ⟨[29], [24], [.bor], .own⟩, [.agg .lent kd29], [.l .own (.ints .i64)]⟩
def live : List (Nat × List Nat) := [(13, [1, 3, 4, 5, 6, 7, 8]), (100013, [1, 2, 3, 4, 5, 6, 7]), (5, [1, 3, 4, 5, 6]), (100005, [2, 3])]
def G {R : Type} (k : Nat) : Glob R := mkG tt [spec_LeftPoints.S.ent (spec_LeftPoints.f k), spec_Winner.S.ent (spec_Winner.f k), spec_IsGame.S.ent (spec_IsGame.f k)] 59
def h13 : Hd := ⟨[.l (.ptr 0 0), .l (.own 1), .l (.own 2), .I, .I, .I, .I], [.box [.I, .I, .b, .b, .V, .V, .I, .I, .W, .V, .V, .I, .I, .I], .V, .V]⟩
def T13 {R : Type} (k : Nat) (K : X → St → Option R) : h13.Fn (Option R) := fun v0 v1 v2 v3 v4 v5 v6 v7 v8 v9 v10 v11 v12 v13 v14 v15 v16 v17 v18 v19 => l13 k v19 (fun p0 => K (.exit 3) (stOf [1, 2, 3, 4, 5, 6, 7] [.one (.l (.bptr 0 0)), .one (.l (.any)), .one (.l (.own 1)), .one (.l (.own 2)), .one (.l (.i .i64 v0)), .one (.l (.i .i64 v1)), .one (.l (.i .i64 p0))] [some (.box 0 [.i .i64 v4, .i .i64 v5, .b v6, .b v7, .val false (.ints .i64 v8), .val false (.ints .i64 v9), .i .i64 v10, .i .i64 v11, .val false (.rows false v12), .val false (.ints .i64 v13), .val false (.ints .i64 v14), .i .i64 v15, .i .i64 v16, .i .i64 v17]), some (.row 0 0 (.ints .i64 v18)), some (.row 0 0 (.ints .i64 v19))])) k v2 v3
def h5 : Hd := ⟨[.l (.ptr 0 0), .l (.own 1), .l (.own 2), .I, .I], [.box [.I, .I, .b, .b, .V, .V, .I, .I, .W, .V, .V, .I, .I, .I], .V, .V]⟩
def T5 {R : Type} (k : Nat) (K : X → St → Option R) : h5.Fn (Option R) := fun v0 v1 v2 v3 v4 v5 v6 v7 v8 v9 v10 v11 v12 v13 v14 v15 v16 v17 => l5 k v0 v2 v3 v4 v5 v6 v7 v8 v9 v10 v11 v12 v13 v14 v15 v17 (fun p0 => K (.exit 0) (stOf [2, 3] [.one (.l (.any)), .one (.l (.own 0))] [some (.row 0 0 (.ints .i64 p0))])) k v1 v16
def tab {R : Type} (k : Nat) : LTab R := fun id K vs hs => bif id == 13 then h13.tell vs hs (T13 k K) else bif id == 5 then h5.tell vs hs (T5 k K) else none
theorem fit5 {R : Type} (k : Nat) : Fit (R := R) (G k) live (tab k) (bl Tryz.f123 0) := h5.fit (key := 5) (by kernel_rfl) (T5 k) (fun _ _ _ => rfl) fun K r v0 v1 v2 v3 v4 v5 v6 v7 v8 v9 v10 v11 v12 v13 v14 v15 v16 v17 h => fit_mk h (fun a => h5.mk' v0 a.1 v2 v3 v4 v5 v6 v7 v8 v9 v10 v11 v12 v13 v14 v15 a.2 v17) (fun _ v1 _ _ _ _ _ _ _ _ _ _ _ _ _ _ v16 _ => some (v1, v16)) rfl (fun _ => rfl) fun Lp a => by kernel_rfl
theorem fit13 {R : Type} (k : Nat) : Fit (R := R) (G k) live (tab k) (bl Tryz.f123 1) := h13.fit (key := 13) (by kernel_rfl) (T13 k) (fun _ _ _ => rfl) fun K r v0 v1 v2 v3 v4 v5 v6 v7 v8 v9 v10 v11 v12 v13 v14 v15 v16 v17 v18 v19 h => fit_mk h (fun a => h13.mk' v0 v1 a.1 a.2 v4 v5 v6 v7 v8 v9 v10 v11 v12 v13 v14 v15 v16 v17 v18 v19) (fun _ _ v2 v3 _ _ _ _ _ _ _ _ _ _ _ _ _ _ _ _ => some (v2, v3)) rfl (fun _ => rfl) fun Lp a => by kernel_rfl
theorem con (k : Nat) : Con Tryz.prog S (f k) := con_fn (nt := 59) (live := live) (Λ := tab k) tok (all_cons (ok_con (spec_LeftPoints.con k)) (all_cons (ok_con (spec_Winner.con k)) (all_cons (ok_con (spec_IsGame.con k)) all_nil))) mixed Tryz.func123 (by kernel_rfl) (all_cons (fit5 k) (all_cons (fit13 k) all_nil)) fun x => by kernel_rfl
end spec_Settled

namespace spec_l15Copy
def S : Sp := ⟨168, ⟨[27], [27], [.bor], .own⟩, [.l .lent .rows], [.l .own .rows]⟩
def live : List (Nat × List Nat) := [(3, [0, 3, 4]), (100003, [2, 3])]
def G {R : Type} (k : Nat) : Glob R := mkG tt [] 22
def h3 : Hd := ⟨[.W, .l (.own 0), .I], [.W]⟩
def T3 {R : Type} (k : Nat) (K : X → St → Option R) : h3.Fn (Option R) := fun v0 v1 v2 => l3 k v0 (fun p0 => K (.exit 0) (stOf [2, 3] [.one (.l (.any)), .one (.l (.own 0))] [some (.row 0 0 (.rows true p0))])) k v1 v2
def tab {R : Type} (k : Nat) : LTab R := fun id K vs hs => bif id == 3 then h3.tell vs hs (T3 k K) else none
theorem fit3 {R : Type} (k : Nat) : Fit (R := R) (G k) live (tab k) (bl Tryz.f168 0) := h3.fit (key := 3) (by kernel_rfl) (T3 k) (fun _ _ _ => rfl) fun K r v0 v1 v2 h => fit_mk h (fun a => h3.mk' v0 a.1 a.2) (fun _ v1 v2 => some (v1, v2)) rfl (fun _ => rfl) fun Lp a => by kernel_rfl
theorem con (k : Nat) : Con Tryz.prog S (f k) := con_fn (nt := 22) (live := live) (Λ := tab k) tok all_nil mixed Tryz.func168 (by kernel_rfl) (all_cons (fit3 k) all_nil) fun x => by kernel_rfl
end spec_l15Copy

namespace spec_l24Copy
def S : Sp := ⟨98, ⟨[29], [29], [.bor], .own⟩, [.agg .lent kd29], [.agg .own kd29]⟩
theorem con (k : Nat) : Con Tryz.prog S (f k) := con_fn (nt := 24) (live := []) (Λ := noL) tok (all_cons (ok_con (spec_l22Copy.con k)) (all_cons (ok_con (spec_l15Copy.con k)) all_nil)) mixed Tryz.func98 (by kernel_rfl) all_nil fun x => by kernel_rfl
end spec_l24Copy

namespace spec_l24Over
def S : Sp := ⟨194, ⟨[29], [4], [.bor], .own⟩, [.agg .lent kd29], [.B]⟩
theorem con (k : Nat) : Con Tryz.prog S (f k) := con_fn (nt := 22) (live := []) (Λ := noL) tok (all_cons (ok_con (spec_l24First.con k)) all_nil) mixed Tryz.func194 (by kernel_rfl) all_nil fun x => by kernel_rfl
end spec_l24Over

namespace spec_Sorted
def S : Sp := ⟨208, ⟨[24], [24], [.bor], .own⟩, [.V], [.l .own (.ints .i64)]⟩
def live : List (Nat × List Nat) := [(6, [0, 3, 4, 5]), (100006, [0, 2, 3, 4, 5]), (3, [0, 3, 4]), (100003, [2, 3])]
def G {R : Type} (k : Nat) : Glob R := mkG tt [] 47
def h6 : Hd := ⟨[.V, .l (.own 0), .I, .I], [.V]⟩
def T6 {R : Type} (k : Nat) (K : X → St → Option R) : h6.Fn (Option R) := fun v0 v1 v2 v3 => l6 k v0 v1 v3 (fun p0 => K (.exit 2) (stOf [0, 2, 3, 4, 5] [.one (.l (.val false (.ints .i64 v0))), .one (.l (.any)), .one (.l (.own 0)), .one (.l (.i .i64 v1)), .one (.l (.i .i64 p0))] [some (.row 0 0 (.ints .i64 v3))])) k v2
def h3 : Hd := ⟨[.V, .l (.own 0), .I], [.V]⟩
def T3 {R : Type} (k : Nat) (K : X → St → Option R) : h3.Fn (Option R) := fun v0 v1 v2 => l3 k v0 (fun p0 => K (.exit 0) (stOf [2, 3] [.one (.l (.any)), .one (.l (.own 0))] [some (.row 0 0 (.ints .i64 p0))])) k v1 v2
def tab {R : Type} (k : Nat) : LTab R := fun id K vs hs => bif id == 6 then h6.tell vs hs (T6 k K) else bif id == 3 then h3.tell vs hs (T3 k K) else none
theorem fit3 {R : Type} (k : Nat) : Fit (R := R) (G k) live (tab k) (bl Tryz.f208 0) := h3.fit (key := 3) (by kernel_rfl) (T3 k) (fun _ _ _ => rfl) fun K r v0 v1 v2 h => fit_mk h (fun a => h3.mk' v0 a.1 a.2) (fun _ v1 v2 => some (v1, v2)) rfl (fun _ => rfl) fun Lp a => by kernel_rfl
theorem fit6 {R : Type} (k : Nat) : Fit (R := R) (G k) live (tab k) (bl Tryz.f208 1) := h6.fit (key := 6) (by kernel_rfl) (T6 k) (fun _ _ _ => rfl) fun K r v0 v1 v2 v3 h => fit_mk h (fun a => h6.mk' v0 v1 a v3) (fun _ _ v2 _ => some v2) rfl (fun _ => rfl) fun Lp a => by kernel_rfl
theorem con (k : Nat) : Con Tryz.prog S (f k) := con_fn (nt := 47) (live := live) (Λ := tab k) tok all_nil mixed Tryz.func208 (by kernel_rfl) (all_cons (fit3 k) (all_cons (fit6 k) all_nil)) fun x => by kernel_rfl
end spec_Sorted

namespace spec_SuitOf
def S : Sp := ⟨183, ⟨[3], [3], [.bor], .own⟩, [.I], [.O]⟩
theorem con (k : Nat) : Con Tryz.prog S (f k) := con_fn (nt := 8) (live := []) (Λ := noL) tok (all_cons (ok_con (spec_IsCard.con k)) all_nil) mixed Tryz.func183 (by kernel_rfl) all_nil fun x => by kernel_rfl
end spec_SuitOf

namespace spec_IsRed
def S : Sp := ⟨259, ⟨[3], [4], [.bor], .own⟩, [.I], [.B]⟩
theorem con (k : Nat) : Con Tryz.prog S (f k) := con_fn (nt := 6) (live := []) (Λ := noL) tok (all_cons (ok_con (spec_l1In.con k)) (all_cons (ok_con (spec_SuitOf.con k)) all_nil)) mixed Tryz.func259 (by kernel_rfl) all_nil fun x => by kernel_rfl
end spec_IsRed

namespace spec_l8Value
def S : Sp := ⟨253, ⟨[3, 3], [4], [.bor, .bor], .own⟩, [.I, .I], [.B]⟩
theorem con (k : Nat) : Con Tryz.prog S (f k) := con_fn (nt := 31) (live := []) (Λ := noL) tok (all_cons (ok_con (spec_SuitOf.con k)) (all_cons (ok_con (spec_RankOf.con k)) (all_cons (ok_con (spec_IsRed.con k)) all_nil))) mixed Tryz.func253 (by kernel_rfl) all_nil fun x => by kernel_rfl
end spec_l8Value

namespace spec_Matches
def S : Sp := ⟨238, ⟨[24, 3], [4], [.bor, .bor], .own⟩, [.V, .I], [.B]⟩
def live : List (Nat × List Nat) := [(5, [0, 1, 5, 6]), (100005, [4, 5])]
def G {R : Type} (k : Nat) : Glob R := mkG tt [spec_IsCard.S.ent (spec_IsCard.f k), spec_IsPattern.S.ent (spec_IsPattern.f k), spec_l8Value.S.ent (spec_l8Value.f k)] 93
def h5 : Hd := ⟨[.V, .I, .l (.own 0), .I], [.row false .bools]⟩
def T5 {R : Type} (k : Nat) (K : X → St → Option R) : h5.Fn (Option R) := fun v0 v1 v2 v3 => l5 k v0 v1 (fun p0 => K (.exit 0) (stOf [4, 5] [.one (.l (.any)), .one (.l (.own 0))] [some (.row 0 0 (.bools p0))])) k v2 v3
def tab {R : Type} (k : Nat) : LTab R := fun id K vs hs => bif id == 5 then h5.tell vs hs (T5 k K) else none
theorem fit5 {R : Type} (k : Nat) : Fit (R := R) (G k) live (tab k) (bl Tryz.f238 0) := h5.fit (key := 5) (by kernel_rfl) (T5 k) (fun _ _ _ => rfl) fun K r v0 v1 v2 v3 h => fit_mk h (fun a => h5.mk' v0 v1 a.1 a.2) (fun _ _ v2 v3 => some (v2, v3)) rfl (fun _ => rfl) fun Lp a => by kernel_rfl
theorem con (k : Nat) : Con Tryz.prog S (f k) := con_fn (nt := 93) (live := live) (Λ := tab k) tok (all_cons (ok_con (spec_IsCard.con k)) (all_cons (ok_con (spec_IsPattern.con k)) (all_cons (ok_con (spec_l8Value.con k)) all_nil))) mixed Tryz.func238 (by kernel_rfl) (all_cons (fit5 k) all_nil) fun x => by kernel_rfl
end spec_Matches

namespace spec_FitsOn
def S : Sp := ⟨209, ⟨[26, 3, 3], [4], [.bor, .bor, .bor], .own⟩, [.agg .lent kd26, .I, .I], [.B]⟩
theorem con (k : Nat) : Con Tryz.prog S (f k) := con_fn (nt := 46) (live := []) (Λ := noL) tok (all_cons (ok_con (spec_IsRules.con k)) (all_cons (ok_con (spec_SuitOf.con k)) (all_cons (ok_con (spec_IsCard.con k)) (all_cons (ok_con (spec_RankOf.con k)) (all_cons (ok_con (spec_Matches.con k)) all_nil))))) mixed Tryz.func209 (by kernel_rfl) all_nil fun x => by kernel_rfl
end spec_FitsOn

namespace spec_Playable
def S : Sp := ⟨149, ⟨[29], [24], [.bor], .own⟩, [.agg .lent kd29], [.l .own (.ints .i64)]⟩
def live : List (Nat × List Nat) := [(6, [1, 3, 4, 5]), (100006, [2, 3])]
def G {R : Type} (k : Nat) : Glob R := mkG tt [spec_IsGame.S.ent (spec_IsGame.f k), spec_l24Over.S.ent (spec_l24Over.f k), spec_Sorted.S.ent (spec_Sorted.f k), spec_FitsOn.S.ent (spec_FitsOn.f k)] 51
def h6 : Hd := ⟨[.l (.ptr 0 0), .l (.own 1), .l (.own 2), .I], [.box [.I, .I, .b, .b, .V, .V, .I, .I, .W, .V, .V, .I, .I, .I], .V, .V]⟩
def T6 {R : Type} (k : Nat) (K : X → St → Option R) : h6.Fn (Option R) := fun v0 v1 v2 v3 v4 v5 v6 v7 v8 _ _ v11 _ _ _ v15 v16 => l6 k v1 v2 v3 v4 v5 v6 v7 v8 v11 v16 (fun p0 => K (.exit 0) (stOf [2, 3] [.one (.l (.any)), .one (.l (.own 0))] [some (.row 0 0 (.ints .i64 p0))])) k v0 v15
def tab {R : Type} (k : Nat) : LTab R := fun id K vs hs => bif id == 6 then h6.tell vs hs (T6 k K) else none
theorem fit6 {R : Type} (k : Nat) : Fit (R := R) (G k) live (tab k) (bl Tryz.f149 0) := h6.fit (key := 6) (by kernel_rfl) (T6 k) (fun _ _ _ => rfl) fun K r v0 v1 v2 v3 v4 v5 v6 v7 v8 v9 v10 v11 v12 v13 v14 v15 v16 h => fit_mk h (fun a => h6.mk' a.1 v1 v2 v3 v4 v5 v6 v7 v8 v9 v10 v11 v12 v13 v14 a.2 v16) (fun v0 _ _ _ _ _ _ _ _ _ _ _ _ _ _ v15 _ => some (v0, v15)) rfl (fun _ => rfl) fun Lp a => by kernel_rfl
theorem con (k : Nat) : Con Tryz.prog S (f k) := con_fn (nt := 51) (live := live) (Λ := tab k) tok (all_cons (ok_con (spec_IsGame.con k)) (all_cons (ok_con (spec_l24Over.con k)) (all_cons (ok_con (spec_Sorted.con k)) (all_cons (ok_con (spec_FitsOn.con k)) all_nil)))) mixed Tryz.func149 (by kernel_rfl) (all_cons (fit6 k) all_nil) fun x => by kernel_rfl
end spec_Playable

namespace spec_Without
def S : Sp := ⟨182, ⟨[24, 3], [24], [.bor, .bor], .own⟩, [.V, .I], [.l .own (.ints .i64)]⟩
def live : List (Nat × List Nat) := [(3, [0, 1, 5, 6]), (100003, [4, 5])]
def G {R : Type} (k : Nat) : Glob R := mkG tt [] 28
def h3 : Hd := ⟨[.V, .I, .l (.own 0), .I], [.V]⟩
def T3 {R : Type} (k : Nat) (K : X → St → Option R) : h3.Fn (Option R) := fun v0 v1 v2 v3 => l3 k v0 v1 (fun p0 => K (.exit 0) (stOf [4, 5] [.one (.l (.any)), .one (.l (.own 0))] [some (.row 0 0 (.ints .i64 p0))])) k v2 v3
def tab {R : Type} (k : Nat) : LTab R := fun id K vs hs => bif id == 3 then h3.tell vs hs (T3 k K) else none
theorem fit3 {R : Type} (k : Nat) : Fit (R := R) (G k) live (tab k) (bl Tryz.f182 0) := h3.fit (key := 3) (by kernel_rfl) (T3 k) (fun _ _ _ => rfl) fun K r v0 v1 v2 v3 h => fit_mk h (fun a => h3.mk' v0 v1 a.1 a.2) (fun _ _ v2 v3 => some (v2, v3)) rfl (fun _ => rfl) fun Lp a => by kernel_rfl
theorem con (k : Nat) : Con Tryz.prog S (f k) := con_fn (nt := 28) (live := live) (Λ := tab k) tok all_nil mixed Tryz.func182 (by kernel_rfl) (all_cons (fit3 k) all_nil) fun x => by kernel_rfl
end spec_Without

namespace spec_DoesSkip
def S : Sp := ⟨213, ⟨[26, 3], [4], [.bor, .bor], .own⟩, [.agg .lent kd26, .I], [.B]⟩
theorem con (k : Nat) : Con Tryz.prog S (f k) := con_fn (nt := 13) (live := []) (Λ := noL) tok (all_cons (ok_con (spec_IsRules.con k)) (all_cons (ok_con (spec_Matches.con k)) all_nil)) mixed Tryz.func213 (by kernel_rfl) all_nil fun x => by kernel_rfl
end spec_DoesSkip

namespace spec_PlayOn
def S : Sp := ⟨156, ⟨[29, 3], [29, 4], [.bor, .bor], .own⟩, [.agg .lent kd29, .I], [.agg .own kd29, .B]⟩
theorem con (k : Nat) : Con Tryz.prog S (f k) := con_fn (nt := 54) (live := []) (Λ := noL) tok (all_cons (ok_con (spec_l24Copy.con k)) (all_cons (ok_con (spec_Playable.con k)) (all_cons (ok_con (spec_HasCard.con k)) (all_cons (ok_con (spec_Without.con k)) (all_cons (ok_con (spec_DoesSkip.con k)) all_nil))))) mixed Tryz.func156 (by kernel_rfl) all_nil fun x => by kernel_rfl
end spec_PlayOn

namespace spec_TakeCards
def S : Sp := ⟨157, ⟨[29], [29, 4], [.bor], .own⟩, [.agg .lent kd29], [.agg .own kd29, .B]⟩
def live : List (Nat × List Nat) := [(6, [1, 2, 4, 5, 6]), (100006, [1, 2, 3, 4, 5])]
def G {R : Type} (k : Nat) : Glob R := mkG tt [spec_l24Copy.S.ent (spec_l24Copy.f k), spec_IsGame.S.ent (spec_IsGame.f k), spec_l24Over.S.ent (spec_l24Over.f k)] 97
def h6 : Hd := ⟨[.l (.ptr 0 0), .l (.ptr 1 0), .l (.ptr 2 0), .I, .I], [.box [.I, .I, .b, .b, .V, .V, .I, .I, .W, .V, .V, .I, .I, .I], .box [.I, .I, .bc false, .bc false, .nil, .nil, .I, .I, .nil, .nil, .nil, .I, .I, .I], .box [.I, .I, .b, .b, .own 3, .own 4, .I, .I, .own 5, .own 6, .own 7, .I, .I, .I], .V, .V, .W, .V, .V]⟩
def T6 {R : Type} (k : Nat) (K : X → St → Option R) : h6.Fn (Option R) := fun v0 v1 v2 v3 v4 v5 v6 v7 v8 v9 v10 v11 v12 v13 v14 v15 v16 v17 v20 v21 v22 v23 v24 v25 v26 v27 v28 v29 v30 v31 v32 v33 v34 v35 v36 v37 v38 => l6 k v8 v13 (fun p0 p1 p2 p3 => K (.exit 0) (stOf [1, 2, 3, 4, 5] [.one (.l (.bptr 0 0)), .one (.l (.bptr 1 0)), .one (.l (.any)), .one (.l (.bptr 2 0)), .one (.l (.i .i64 p0))] [some (.box 0 [.i .i64 v2, .i .i64 v3, .b v4, .b v5, .val false (.ints .i64 v6), .val false (.ints .i64 v7), .i .i64 v8, .i .i64 v9, .val false (.rows false v10), .val false (.ints .i64 v11), .val false (.ints .i64 v12), .i .i64 v13, .i .i64 v14, .i .i64 v15]), some (.box 0 [.i .i64 v16, .i .i64 v17, .b false, .b false, .nil, .nil, .i .i64 v20, .i .i64 v21, .nil, .nil, .nil, .i .i64 v22, .i .i64 v23, .i .i64 v24]), some (.box 0 [.i .i64 v25, .i .i64 v26, .b v27, .b v28, .own 3, .own 4, .i .i64 v29, .i .i64 v30, .own 5, .own 6, .own 7, .i .i64 v31, .i .i64 v32, .i .i64 v33]), some (.row 0 0 (.ints .i64 v34)), some (.row 0 0 (.ints .i64 v35)), some (.row 0 0 (.rows true p1)), some (.row 0 0 (.ints .i64 p2)), some (.row 0 0 (.ints .i64 p3))])) k v0 v1 v36 v37 v38
def tab {R : Type} (k : Nat) : LTab R := fun id K vs hs => bif id == 6 then h6.tell vs hs (T6 k K) else none
theorem fit6 {R : Type} (k : Nat) : Fit (R := R) (G k) live (tab k) (bl Tryz.f157 0) := h6.fit (key := 6) (by kernel_rfl) (T6 k) (fun _ _ _ => rfl) fun K r v0 v1 v2 v3 v4 v5 v6 v7 v8 v9 v10 v11 v12 v13 v14 v15 v16 v17 v20 v21 v22 v23 v24 v25 v26 v27 v28 v29 v30 v31 v32 v33 v34 v35 v36 v37 v38 h => fit_mk h (fun a => h6.mk' a.1 a.2.1 v2 v3 v4 v5 v6 v7 v8 v9 v10 v11 v12 v13 v14 v15 v16 v17 v20 v21 v22 v23 v24 v25 v26 v27 v28 v29 v30 v31 v32 v33 v34 v35 (t2 a).1 (t3 a).1 (t4 a)) (fun v0 v1 _ _ _ _ _ _ _ _ _ _ _ _ _ _ _ _ _ _ _ _ _ _ _ _ _ _ _ _ _ _ _ _ v36 v37 v38 => some (v0, v1, v36, v37, v38)) rfl (fun _ => rfl) fun Lp a => by kernel_rfl
theorem con (k : Nat) : Con Tryz.prog S (f k) := con_fn (nt := 97) (live := live) (Λ := tab k) tok (all_cons (ok_con (spec_l24Copy.con k)) (all_cons (ok_con (spec_IsGame.con k)) (all_cons (ok_con (spec_l24Over.con k)) all_nil))) mixed Tryz.func157 (by kernel_rfl) (all_cons (fit6 k) all_nil) fun x => by kernel_rfl
end spec_TakeCards

namespace spec_SuitCounts
def S : Sp := ⟨235, ⟨[24], [24], [.bor], .own⟩, [.V], [.l .own (.ints .i64)]⟩
def live : List (Nat × List Nat) := [(3, [0, 3, 4]), (100003, [2, 3])]
def G {R : Type} (k : Nat) : Glob R := mkG tt [spec_SuitOf.S.ent (spec_SuitOf.f k)] 29
def h3 : Hd := ⟨[.V, .l (.own 0), .I], [.V]⟩
def T3 {R : Type} (k : Nat) (K : X → St → Option R) : h3.Fn (Option R) := fun v0 v1 v2 => l3 k v0 (fun p0 => K (.exit 0) (stOf [2, 3] [.one (.l (.any)), .one (.l (.own 0))] [some (.row 0 0 (.ints .i64 p0))])) k v1 v2
def tab {R : Type} (k : Nat) : LTab R := fun id K vs hs => bif id == 3 then h3.tell vs hs (T3 k K) else none
theorem fit3 {R : Type} (k : Nat) : Fit (R := R) (G k) live (tab k) (bl Tryz.f235 0) := h3.fit (key := 3) (by kernel_rfl) (T3 k) (fun _ _ _ => rfl) fun K r v0 v1 v2 h => fit_mk h (fun a => h3.mk' v0 a.1 a.2) (fun _ v1 v2 => some (v1, v2)) rfl (fun _ => rfl) fun Lp a => by kernel_rfl
theorem con (k : Nat) : Con Tryz.prog S (f k) := con_fn (nt := 29) (live := live) (Λ := tab k) tok (all_cons (ok_con (spec_SuitOf.con k)) all_nil) mixed Tryz.func235 (by kernel_rfl) (all_cons (fit3 k) all_nil) fun x => by kernel_rfl
end spec_SuitCounts

namespace spec_MostOf
def S : Sp := ⟨236, ⟨[24], [3], [.bor], .own⟩, [.V], [.O]⟩
def live : List (Nat × List Nat) := [(3, [0, 3, 4]), (100003, [2, 3])]
def G {R : Type} (k : Nat) : Glob R := mkG tt [] 26
def h3 : Hd := ⟨[.V, .I, .I], []⟩
def T3 {R : Type} (k : Nat) (K : X → St → Option R) : h3.Fn (Option R) := fun v0 v1 v2 => l3 k v0 (fun p0 => K (.exit 0) (stOf [2, 3] [.one (.l (.any)), .one (.l (.i .i64 p0))] [])) k v1 v2
def tab {R : Type} (k : Nat) : LTab R := fun id K vs hs => bif id == 3 then h3.tell vs hs (T3 k K) else none
theorem fit3 {R : Type} (k : Nat) : Fit (R := R) (G k) live (tab k) (bl Tryz.f236 0) := h3.fit (key := 3) (by kernel_rfl) (T3 k) (fun _ _ _ => rfl) fun K r v0 v1 v2 h => fit_mk h (fun a => h3.mk' v0 a.1 a.2) (fun _ v1 v2 => some (v1, v2)) rfl (fun _ => rfl) fun Lp a => by kernel_rfl
theorem con (k : Nat) : Con Tryz.prog S (f k) := con_fn (nt := 26) (live := live) (Λ := tab k) tok all_nil mixed Tryz.func236 (by kernel_rfl) (all_cons (fit3 k) all_nil) fun x => by kernel_rfl
end spec_MostOf

namespace spec_ChoiceOf
def S : Sp := ⟨205, ⟨[29, 3], [3], [.bor, .bor], .own⟩, [.agg .lent kd29, .I], [.O]⟩
def live : List (Nat × List Nat) := [(13, [5, 6, 7, 8]), (100013, [4, 5, 7])]
def G {R : Type} (k : Nat) : Glob R := mkG tt [spec_Playable.S.ent (spec_Playable.f k), spec_SuitOf.S.ent (spec_SuitOf.f k), spec_SuitCounts.S.ent (spec_SuitCounts.f k), spec_MostOf.S.ent (spec_MostOf.f k)] 60
def h13 : Hd := ⟨[.l (.own 0), .l (.own 1), .l (.own 2), .I], [.V, .V, .V]⟩
def T13 {R : Type} (k : Nat) (K : X → St → Option R) : h13.Fn (Option R) := fun v0 v1 v2 v3 => l13 k v1 v2 (fun p0 => K (.exit 1) (stOf [4, 5, 7] [.one (.l (.any)), .one (.l (.own 0)), .one (.l (.own 1))] [some (.row 0 0 (.ints .i64 v1)), some (.row 0 0 (.ints .i64 p0))])) k v0 v3
def tab {R : Type} (k : Nat) : LTab R := fun id K vs hs => bif id == 13 then h13.tell vs hs (T13 k K) else none
theorem fit13 {R : Type} (k : Nat) : Fit (R := R) (G k) live (tab k) (bl Tryz.f205 0) := h13.fit (key := 13) (by kernel_rfl) (T13 k) (fun _ _ _ => rfl) fun K r v0 v1 v2 v3 h => fit_mk h (fun a => h13.mk' a.1 v1 v2 a.2) (fun v0 _ _ v3 => some (v0, v3)) rfl (fun _ => rfl) fun Lp a => by kernel_rfl
theorem con (k : Nat) : Con Tryz.prog S (f k) := con_fn (nt := 60) (live := live) (Λ := tab k) tok (all_cons (ok_con (spec_Playable.con k)) (all_cons (ok_con (spec_SuitOf.con k)) (all_cons (ok_con (spec_SuitCounts.con k)) (all_cons (ok_con (spec_MostOf.con k)) all_nil)))) mixed Tryz.func205 (by kernel_rfl) (all_cons (fit13 k) all_nil) fun x => by kernel_rfl
end spec_ChoiceOf

namespace spec_AutoMove
def S : Sp := ⟨195, ⟨[29, 3], [29, 4], [.bor, .bor], .own⟩, [.agg .lent kd29, .I], [.agg .own kd29, .B]⟩
theorem con (k : Nat) : Con Tryz.prog S (f k) := con_fn (nt := 21) (live := []) (Λ := noL) tok (all_cons (ok_con (spec_PlayOn.con k)) (all_cons (ok_con (spec_TakeCards.con k)) (all_cons (ok_con (spec_ChoiceOf.con k)) all_nil))) mixed Tryz.func195 (by kernel_rfl) all_nil fun x => by kernel_rfl
end spec_AutoMove

namespace spec_PlayOut
def S : Sp := ⟨124, ⟨[29, 24], [29], [.bor, .bor], .own⟩, [.agg .lent kd29, .V], [.agg .own kd29]⟩
def live : List (Nat × List Nat) := [(2, [1, 4, 5]), (100002, [4, 5])]
def G {R : Type} (k : Nat) : Glob R := mkG tt [spec_l24Copy.S.ent (spec_l24Copy.f k), spec_IsGame.S.ent (spec_IsGame.f k), spec_l24Over.S.ent (spec_l24Over.f k), spec_AutoMove.S.ent (spec_AutoMove.f k)] 33
def h2 : Hd := ⟨[.V, .l (.ptr 0 0), .l (.ptr 1 0)], [.box [.I, .I, .bc false, .bc false, .nil, .nil, .I, .I, .nil, .nil, .nil, .I, .I, .I], .box [.I, .I, .b, .b, .own 2, .own 3, .I, .I, .own 4, .own 5, .own 6, .I, .I, .I], .V, .V, .W, .V, .V]⟩
def T2 {R : Type} (k : Nat) (K : X → St → Option R) : h2.Fn (Option R) := fun v0 v1 v2 v5 v6 v7 v8 v9 v10 v11 v12 v13 v14 v15 v16 v17 v18 v19 v20 v21 v22 v23 => l2 k v0 (fun p0 p1 p2 p3 p4 p5 p6 p7 p8 p9 p10 p11 p12 p13 => K (.exit 0) (stOf [4, 5] [.one (.l (.bptr 0 0)), .one (.l (.bptr 1 0))] [some (.box 0 [.i .i64 v1, .i .i64 v2, .b false, .b false, .nil, .nil, .i .i64 v5, .i .i64 v6, .nil, .nil, .nil, .i .i64 v7, .i .i64 v8, .i .i64 v9]), some (.box 0 [.i .i64 p0, .i .i64 p1, .b p2, .b p3, .own 2, .own 3, .i .i64 p4, .i .i64 p5, .own 4, .own 5, .own 6, .i .i64 p6, .i .i64 p7, .i .i64 p8]), some (.row 0 0 (.ints .i64 p9)), some (.row 0 0 (.ints .i64 p10)), some (.row 0 0 (.rows true p11)), some (.row 0 0 (.ints .i64 p12)), some (.row 0 0 (.ints .i64 p13))])) k v10 v11 v12 v13 v14 v15 v16 v17 v18 v19 v20 v21 v22 v23
def tab {R : Type} (k : Nat) : LTab R := fun id K vs hs => bif id == 2 then h2.tell vs hs (T2 k K) else none
theorem fit2 {R : Type} (k : Nat) : Fit (R := R) (G k) live (tab k) (bl Tryz.f124 0) := h2.fit (key := 2) (by kernel_rfl) (T2 k) (fun _ _ _ => rfl) fun K r v0 v1 v2 v5 v6 v7 v8 v9 v10 v11 v12 v13 v14 v15 v16 v17 v18 v19 v20 v21 v22 v23 h => fit_mk h (fun a => h2.mk' v0 v1 v2 v5 v6 v7 v8 v9 a.1 a.2.1 (t2 a).1 (t3 a).1 (t4 a).1 (t5 a).1 (t6 a).1 (t7 a).1 (t8 a).1 (t9 a).1 (t9 a.2).1 (t9 (t2 a)).1 (t9 (t3 a)).1 (t9 (t4 a))) (fun _ _ _ _ _ _ _ _ v10 v11 v12 v13 v14 v15 v16 v17 v18 v19 v20 v21 v22 v23 => some (v10, v11, v12, v13, v14, v15, v16, v17, v18, v19, v20, v21, v22, v23)) rfl (fun _ => rfl) fun Lp a => by kernel_rfl
theorem con (k : Nat) : Con Tryz.prog S (f k) := con_fn (nt := 33) (live := live) (Λ := tab k) tok (all_cons (ok_con (spec_l24Copy.con k)) (all_cons (ok_con (spec_IsGame.con k)) (all_cons (ok_con (spec_l24Over.con k)) (all_cons (ok_con (spec_AutoMove.con k)) all_nil)))) mixed Tryz.func124 (by kernel_rfl) (all_cons (fit2 k) all_nil) fun x => by kernel_rfl
end spec_PlayOut

namespace spec_MatchRound
def S : Sp := ⟨39, ⟨[26, 3, 3, 24], [24], [.bor, .bor, .bor, .bor], .own⟩, [.agg .lent kd26, .I, .I, .V], [.l .own (.ints .i64)]⟩
def live : List (Nat × List Nat) := [(7, [1, 2, 3, 4, 10, 11, 12]), (100007, [1, 2, 4, 8, 10, 11]), (14, [9, 10, 15, 16]), (100014, [8, 9])]
def G {R : Type} (k : Nat) : Glob R := mkG tt [spec_SeatsFor.S.ent (spec_SeatsFor.f k), spec_IsRules.S.ent (spec_IsRules.f k), spec_NewGame.S.ent (spec_NewGame.f k), spec_Shuffled.S.ent (spec_Shuffled.f k), spec_FullDeck.S.ent (spec_FullDeck.f k), spec_Hash.S.ent (spec_Hash.f k), spec_Settled.S.ent (spec_Settled.f k), spec_PlayOut.S.ent (spec_PlayOut.f k)] 90
def h7 : Hd := ⟨[.I, .I, .V, .l (.ptr 0 0), .l (.own 1), .l (.own 2), .I], [.box [.I, .I, .b, .b, .V, .V, .I, .I], .V, .V]⟩
def T7 {R : Type} (k : Nat) (K : X → St → Option R) : h7.Fn (Option R) := fun v0 v1 v2 v3 v4 v5 v6 v7 v8 v9 v10 v11 v12 v13 => l7 k v2 v12 (fun p0 => K (.exit 0) (stOf [1, 2, 4, 8, 10, 11] [.one (.l (.i .i64 v0)), .one (.l (.i .i64 v1)), .one (.l (.bptr 0 0)), .one (.l (.any)), .one (.l (.own 1)), .one (.l (.own 2))] [some (.box 0 [.i .i64 v4, .i .i64 v5, .b v6, .b v7, .val false (.ints .i64 v8), .val false (.ints .i64 v9), .i .i64 v10, .i .i64 v11]), some (.row 0 0 (.ints .i64 v12)), some (.row 0 0 (.ints .i64 p0))])) k v3 v13
def h14 : Hd := ⟨[.l (.own 0), .l (.own 1), .l (.own 2), .I], [.V, .V, .V]⟩
def T14 {R : Type} (k : Nat) (K : X → St → Option R) : h14.Fn (Option R) := fun v0 v1 v2 v3 => l14 k v2 v3 (fun p0 => K (.exit 2) (stOf [8, 9] [.one (.l (.any)), .one (.l (.own 0))] [some (.row 0 0 (.ints .i64 p0))])) k v0 v1
def tab {R : Type} (k : Nat) : LTab R := fun id K vs hs => bif id == 7 then h7.tell vs hs (T7 k K) else bif id == 14 then h14.tell vs hs (T14 k K) else none
theorem fit7 {R : Type} (k : Nat) : Fit (R := R) (G k) live (tab k) (bl Tryz.f39 0) := h7.fit (key := 7) (by kernel_rfl) (T7 k) (fun _ _ _ => rfl) fun K r v0 v1 v2 v3 v4 v5 v6 v7 v8 v9 v10 v11 v12 v13 h => fit_mk h (fun a => h7.mk' v0 v1 v2 a.1 v4 v5 v6 v7 v8 v9 v10 v11 v12 a.2) (fun _ _ _ v3 _ _ _ _ _ _ _ _ _ v13 => some (v3, v13)) rfl (fun _ => rfl) fun Lp a => by kernel_rfl
theorem fit14 {R : Type} (k : Nat) : Fit (R := R) (G k) live (tab k) (bl Tryz.f39 1) := h14.fit (key := 14) (by kernel_rfl) (T14 k) (fun _ _ _ => rfl) fun K r v0 v1 v2 v3 h => fit_mk h (fun a => h14.mk' a.1 a.2 v2 v3) (fun v0 v1 _ _ => some (v0, v1)) rfl (fun _ => rfl) fun Lp a => by kernel_rfl
theorem con (k : Nat) : Con Tryz.prog S (f k) := con_fn (nt := 90) (live := live) (Λ := tab k) tok (all_cons (ok_con (spec_SeatsFor.con k)) (all_cons (ok_con (spec_IsRules.con k)) (all_cons (ok_con (spec_NewGame.con k)) (all_cons (ok_con (spec_Shuffled.con k)) (all_cons (ok_con (spec_FullDeck.con k)) (all_cons (ok_con (spec_Hash.con k)) (all_cons (ok_con (spec_Settled.con k)) (all_cons (ok_con (spec_PlayOut.con k)) all_nil)))))))) mixed Tryz.func39 (by kernel_rfl) (all_cons (fit7 k) (all_cons (fit14 k) all_nil)) fun x => by kernel_rfl
end spec_MatchRound

namespace laws_toIntS
def S : Sp := ⟨41, ⟨[24], [24], [.bor], .own⟩, [.V], [.l .own (.ints .i64)]⟩
def live : List (Nat × List Nat) := [(3, [0, 3, 4]), (100003, [2, 3])]
def G {R : Type} (k : Nat) : Glob R := mkG tt [] 22
def h3 : Hd := ⟨[.V, .l (.own 0), .I], [.V]⟩
def T3 {R : Type} (k : Nat) (K : X → St → Option R) : h3.Fn (Option R) := fun v0 v1 v2 => l3 k v0 (fun p0 => K (.exit 0) (stOf [2, 3] [.one (.l (.any)), .one (.l (.own 0))] [some (.row 0 0 (.ints .i64 p0))])) k v1 v2
def tab {R : Type} (k : Nat) : LTab R := fun id K vs hs => bif id == 3 then h3.tell vs hs (T3 k K) else none
theorem fit3 {R : Type} (k : Nat) : Fit (R := R) (G k) live (tab k) (bl Tryz.f41 0) := h3.fit (key := 3) (by kernel_rfl) (T3 k) (fun _ _ _ => rfl) fun K r v0 v1 v2 h => fit_mk h (fun a => h3.mk' v0 a.1 a.2) (fun _ v1 v2 => some (v1, v2)) rfl (fun _ => rfl) fun Lp a => by kernel_rfl
theorem con (k : Nat) : Con Tryz.prog S (f k) := con_fn (nt := 22) (live := live) (Λ := tab k) tok all_nil mixed Tryz.func41 (by kernel_rfl) (all_cons (fit3 k) all_nil) fun x => by kernel_rfl
end laws_toIntS

namespace laws_toRules
def S : Sp := ⟨40, ⟨[57], [26], [.bor], .own⟩, [.agg .lent kd26], [.agg .own kd26]⟩
theorem con (k : Nat) : Con Tryz.prog S (f k) := con_fn (nt := 31) (live := []) (Λ := noL) tok (all_cons (ok_con (laws_toIntS.con k)) all_nil) mixed Tryz.func40 (by kernel_rfl) all_nil fun x => by kernel_rfl
end laws_toRules

namespace impl_InRange
def S : Sp := ⟨87, ⟨[3, 3, 3], [4], [.bor, .bor, .bor], .own⟩, [.I, .I, .I], [.B]⟩
theorem con (k : Nat) : Con Tryz.prog S (f k) := con_fn (nt := 15) (live := []) (Λ := noL) tok all_nil mixed Tryz.func87 (by kernel_rfl) all_nil fun x => by kernel_rfl
end impl_InRange

namespace impl_isTest
def S : Sp := ⟨240, ⟨[3], [4], [.bor], .own⟩, [.I], [.B]⟩
theorem con (k : Nat) : Con Tryz.prog S (f k) := con_fn (nt := 17) (live := []) (Λ := noL) tok (all_cons (ok_con (impl_InRange.con k)) all_nil) mixed Tryz.func240 (by kernel_rfl) all_nil fun x => by kernel_rfl
end impl_isTest

namespace impl_IsPattern
def S : Sp := ⟨214, ⟨[24], [4], [.bor], .own⟩, [.V], [.B]⟩
def live : List (Nat × List Nat) := [(3, [0, 3, 6, 7, 8]), (100003, [0, 2, 3])]
def G {R : Type} (k : Nat) : Glob R := mkG tt [impl_InRange.S.ent (impl_InRange.f k), impl_isTest.S.ent (impl_isTest.f k)] 45
def h3 : Hd := ⟨[.V, .I, .V, .I, .I], []⟩
def T3 {R : Type} (k : Nat) (K : X → St → Option R) : h3.Fn (Option R) := fun v0 v1 v2 v3 v4 => l3 k v2 v3 (fun p0 => K .ret (stOf [0, 2, 3] [.one (.l (.val false (.ints .i64 v0))), .one (.l (.b false)), .one (.l (.i .i64 p0))] [])) (fun p0 => K (.exit 0) (stOf [0, 2, 3] [.one (.l (.val false (.ints .i64 v0))), .one (.l (.any)), .one (.l (.i .i64 p0))] [])) k v1 v4
def tab {R : Type} (k : Nat) : LTab R := fun id K vs hs => bif id == 3 then h3.tell vs hs (T3 k K) else none
theorem fit3 {R : Type} (k : Nat) : Fit (R := R) (G k) live (tab k) (bl Tryz.f214 0) := h3.fit (key := 3) (by kernel_rfl) (T3 k) (fun _ _ _ => rfl) fun K r v0 v1 v2 v3 v4 h => fit_mk h (fun a => h3.mk' v0 a.1 v2 v3 a.2) (fun _ v1 _ _ v4 => some (v1, v4)) rfl (fun _ => rfl) fun Lp a => by kernel_rfl
theorem con (k : Nat) : Con Tryz.prog S (f k) := con_fn (nt := 45) (live := live) (Λ := tab k) tok (all_cons (ok_con (impl_InRange.con k)) (all_cons (ok_con (impl_isTest.con k)) all_nil)) mixed Tryz.func214 (by kernel_rfl) (all_cons (fit3 k) all_nil) fun x => by kernel_rfl
end impl_IsPattern

namespace impl_isMaybe
def S : Sp := ⟨160, ⟨[24], [4], [.bor], .own⟩, [.V], [.B]⟩
theorem con (k : Nat) : Con Tryz.prog S (f k) := con_fn (nt := 10) (live := []) (Λ := noL) tok (all_cons (ok_con (impl_IsPattern.con k)) all_nil) mixed Tryz.func160 (by kernel_rfl) all_nil fun x => by kernel_rfl
end impl_isMaybe

namespace impl_IsRules
def S : Sp := ⟨84, ⟨[26], [4], [.bor], .own⟩, [.agg .lent kd26], [.B]⟩
theorem con (k : Nat) : Con Tryz.prog S (f k) := con_fn (nt := 39) (live := []) (Λ := noL) tok (all_cons (ok_con (impl_InRange.con k)) (all_cons (ok_con (impl_isMaybe.con k)) all_nil)) mixed Tryz.func84 (by kernel_rfl) all_nil fun x => by kernel_rfl
end impl_IsRules

namespace impl_TotalCards
def S : Sp := ⟨24, ⟨[27], [3], [.bor], .own⟩, [.l .lent .rows], [.O]⟩
def live : List (Nat × List Nat) := [(3, [3, 6, 7, 8]), (100003, [2, 3])]
def G {R : Type} (k : Nat) : Glob R := mkG tt [] 18
def h3 : Hd := ⟨[.I, .W, .I, .I], []⟩
def T3 {R : Type} (k : Nat) (K : X → St → Option R) : h3.Fn (Option R) := fun v0 v1 v2 v3 => l3 k v1 v2 (fun p0 => K (.exit 0) (stOf [2, 3] [.one (.l (.any)), .one (.l (.i .i64 p0))] [])) k v0 v3
def tab {R : Type} (k : Nat) : LTab R := fun id K vs hs => bif id == 3 then h3.tell vs hs (T3 k K) else none
theorem fit3 {R : Type} (k : Nat) : Fit (R := R) (G k) live (tab k) (bl Tryz.f24 0) := h3.fit (key := 3) (by kernel_rfl) (T3 k) (fun _ _ _ => rfl) fun K r v0 v1 v2 v3 h => fit_mk h (fun a => h3.mk' a.1 v1 v2 a.2) (fun v0 _ _ v3 => some (v0, v3)) rfl (fun _ => rfl) fun Lp a => by kernel_rfl
theorem con (k : Nat) : Con Tryz.prog S (f k) := con_fn (nt := 18) (live := live) (Λ := tab k) tok all_nil mixed Tryz.func24 (by kernel_rfl) (all_cons (fit3 k) all_nil) fun x => by kernel_rfl
end impl_TotalCards

namespace impl_IsCard
def S : Sp := ⟨184, ⟨[3], [4], [.bor], .own⟩, [.I], [.B]⟩
theorem con (k : Nat) : Con Tryz.prog S (f k) := con_fn (nt := 5) (live := []) (Λ := noL) tok (all_cons (ok_con (impl_InRange.con k)) all_nil) mixed Tryz.func184 (by kernel_rfl) all_nil fun x => by kernel_rfl
end impl_IsCard

namespace impl_IsHand
def S : Sp := ⟨111, ⟨[24], [4], [.bor], .own⟩, [.V], [.B]⟩
def live : List (Nat × List Nat) := [(3, [3, 7, 8, 9]), (100003, [2])]
def G {R : Type} (k : Nat) : Glob R := mkG tt [impl_IsCard.S.ent (impl_IsCard.f k)] 24
def h3 : Hd := ⟨[.l (.arr 0 52), .V, .I, .I], [.row false .bools]⟩
def T3 {R : Type} (k : Nat) (K : X → St → Option R) : h3.Fn (Option R) := fun v0 v1 v2 v3 => l3 k v0 v1 (K .ret (stOf [2] [.one (.l (.b false))] [])) (K (.exit 0) (stOf [2] [.one (.l (.any))] [])) k v2 v3
def tab {R : Type} (k : Nat) : LTab R := fun id K vs hs => bif id == 3 then h3.tell vs hs (T3 k K) else none
theorem fit3 {R : Type} (k : Nat) : Fit (R := R) (G k) live (tab k) (bl Tryz.f111 0) := h3.fit (key := 3) (by kernel_rfl) (T3 k) (fun _ _ _ => rfl) fun K r v0 v1 v2 v3 h => fit_mk h (fun a => h3.mk' v0 v1 a.1 a.2) (fun _ _ v2 v3 => some (v2, v3)) rfl (fun _ => rfl) fun Lp a => by kernel_rfl
theorem con (k : Nat) : Con Tryz.prog S (f k) := con_fn (nt := 24) (live := live) (Λ := tab k) tok (all_cons (ok_con (impl_IsCard.con k)) all_nil) mixed Tryz.func111 (by kernel_rfl) (all_cons (fit3 k) all_nil) fun x => by kernel_rfl
end impl_IsHand

namespace impl_AllApart
def S : Sp := ⟨161, ⟨[27], [4], [.bor], .own⟩, [.l .lent .rows], [.B]⟩
def live : List (Nat × List Nat) := [(3, [3, 7, 8, 9]), (100003, [2, 3])]
def G {R : Type} (k : Nat) : Glob R := mkG tt [impl_IsHand.S.ent (impl_IsHand.f k)] 19
def h3 : Hd := ⟨[.l (.own 0), .W, .I, .I], [.V]⟩
def T3 {R : Type} (k : Nat) (K : X → St → Option R) : h3.Fn (Option R) := fun v0 v1 v2 v3 => l3 k v0 v1 (fun p0 => K (.exit 0) (stOf [2, 3] [.one (.l (.any)), .one (.l (.own 0))] [some (.row 0 0 (.ints .i64 p0))])) k v2 v3
def tab {R : Type} (k : Nat) : LTab R := fun id K vs hs => bif id == 3 then h3.tell vs hs (T3 k K) else none
theorem fit3 {R : Type} (k : Nat) : Fit (R := R) (G k) live (tab k) (bl Tryz.f161 0) := h3.fit (key := 3) (by kernel_rfl) (T3 k) (fun _ _ _ => rfl) fun K r v0 v1 v2 v3 h => fit_mk h (fun a => h3.mk' v0 v1 a.1 a.2) (fun _ _ v2 v3 => some (v2, v3)) rfl (fun _ => rfl) fun Lp a => by kernel_rfl
theorem con (k : Nat) : Con Tryz.prog S (f k) := con_fn (nt := 19) (live := live) (Λ := tab k) tok (all_cons (ok_con (impl_IsHand.con k)) all_nil) mixed Tryz.func161 (by kernel_rfl) (all_cons (fit3 k) all_nil) fun x => by kernel_rfl
end impl_AllApart

namespace impl_isWhole
def S : Sp := ⟨85, ⟨[27], [4], [.bor], .own⟩, [.l .lent .rows], [.B]⟩
theorem con (k : Nat) : Con Tryz.prog S (f k) := con_fn (nt := 10) (live := []) (Λ := noL) tok (all_cons (ok_con (impl_TotalCards.con k)) (all_cons (ok_con (impl_AllApart.con k)) all_nil)) mixed Tryz.func85 (by kernel_rfl) all_nil fun x => by kernel_rfl
end impl_isWhole

namespace impl_copyOf
def S : Sp := ⟨159, ⟨[24], [24], [.bor], .own⟩, [.V], [.l .own (.ints .i64)]⟩
theorem con (k : Nat) : Con Tryz.prog S (f k) := con_fn (nt := 6) (live := []) (Λ := noL) tok all_nil mixed Tryz.func159 (by kernel_rfl) all_nil fun x => by kernel_rfl
end impl_copyOf

namespace impl_copyRows
def S : Sp := ⟨86, ⟨[27], [27], [.bor], .own⟩, [.l .lent .rows], [.l .own .rows]⟩
def live : List (Nat × List Nat) := [(3, [3, 7, 8, 9]), (100003, [2, 3])]
def G {R : Type} (k : Nat) : Glob R := mkG tt [impl_copyOf.S.ent (impl_copyOf.f k)] 20
def h3 : Hd := ⟨[.l (.own 0), .W, .I, .I], [.W]⟩
def T3 {R : Type} (k : Nat) (K : X → St → Option R) : h3.Fn (Option R) := fun v0 v1 v2 v3 => l3 k v0 v1 (fun p0 => K (.exit 0) (stOf [2, 3] [.one (.l (.any)), .one (.l (.own 0))] [some (.row 0 0 (.rows true p0))])) k v2 v3
def tab {R : Type} (k : Nat) : LTab R := fun id K vs hs => bif id == 3 then h3.tell vs hs (T3 k K) else none
theorem fit3 {R : Type} (k : Nat) : Fit (R := R) (G k) live (tab k) (bl Tryz.f86 0) := h3.fit (key := 3) (by kernel_rfl) (T3 k) (fun _ _ _ => rfl) fun K r v0 v1 v2 v3 h => fit_mk h (fun a => h3.mk' v0 v1 a.1 a.2) (fun _ _ v2 v3 => some (v2, v3)) rfl (fun _ => rfl) fun Lp a => by kernel_rfl
theorem con (k : Nat) : Con Tryz.prog S (f k) := con_fn (nt := 20) (live := live) (Λ := tab k) tok (all_cons (ok_con (impl_copyOf.con k)) all_nil) mixed Tryz.func86 (by kernel_rfl) (all_cons (fit3 k) all_nil) fun x => by kernel_rfl
end impl_copyRows

namespace impl_IsGame
def S : Sp := ⟨15, ⟨[29], [4], [.bor], .own⟩, [.agg .lent kd29], [.B]⟩
theorem con (k : Nat) : Con Tryz.prog S (f k) := con_fn (nt := 57) (live := []) (Λ := noL) tok (all_cons (ok_con (impl_IsRules.con k)) (all_cons (ok_con (impl_isWhole.con k)) (all_cons (ok_con (impl_copyRows.con k)) (all_cons (ok_con (impl_InRange.con k)) all_nil)))) mixed Tryz.func15 (by kernel_rfl) all_nil fun x => by kernel_rfl
end impl_IsGame

namespace impl_Winner
def S : Sp := ⟨88, ⟨[29], [3], [.bor], .own⟩, [.agg .lent kd29], [.O]⟩
def live : List (Nat × List Nat) := [(4, [9, 10, 11]), (100004, [2])]
def G {R : Type} (k : Nat) : Glob R := mkG tt [impl_IsGame.S.ent (impl_IsGame.f k)] 21
def h4 : Hd := ⟨[.W, .I, .I], []⟩
def T4 {R : Type} (k : Nat) (K : X → St → Option R) : h4.Fn (Option R) := fun v0 v1 v2 => l4 k v0 v1 (fun p0 => K .ret (stOf [2] [.one (.l (.i .i64 p0))] [])) (K (.exit 0) (stOf [2] [.one (.l (.any))] [])) k v2
def tab {R : Type} (k : Nat) : LTab R := fun id K vs hs => bif id == 4 then h4.tell vs hs (T4 k K) else none
theorem fit4 {R : Type} (k : Nat) : Fit (R := R) (G k) live (tab k) (bl Tryz.f88 0) := h4.fit (key := 4) (by kernel_rfl) (T4 k) (fun _ _ _ => rfl) fun K r v0 v1 v2 h => fit_mk h (fun a => h4.mk' v0 v1 a) (fun _ _ v2 => some v2) rfl (fun _ => rfl) fun Lp a => by kernel_rfl
theorem con (k : Nat) : Con Tryz.prog S (f k) := con_fn (nt := 21) (live := live) (Λ := tab k) tok (all_cons (ok_con (impl_IsGame.con k)) all_nil) mixed Tryz.func88 (by kernel_rfl) (all_cons (fit4 k) all_nil) fun x => by kernel_rfl
end impl_Winner

namespace impl_IsEnded
def S : Sp := ⟨16, ⟨[29], [4], [.bor], .own⟩, [.agg .lent kd29], [.B]⟩
theorem con (k : Nat) : Con Tryz.prog S (f k) := con_fn (nt := 26) (live := []) (Λ := noL) tok (all_cons (ok_con (impl_IsGame.con k)) (all_cons (ok_con (impl_Winner.con k)) all_nil)) mixed Tryz.func16 (by kernel_rfl) all_nil fun x => by kernel_rfl
end impl_IsEnded

namespace impl_Rules_copied
def S : Sp := ⟨158, ⟨[26], [26], [.bor], .own⟩, [.agg .lent kd26], [.agg .own kd26]⟩
theorem con (k : Nat) : Con Tryz.prog S (f k) := con_fn (nt := 12) (live := []) (Λ := noL) tok (all_cons (ok_con (impl_copyOf.con k)) all_nil) mixed Tryz.func158 (by kernel_rfl) all_nil fun x => by kernel_rfl
end impl_Rules_copied

namespace impl_Game_copied
def S : Sp := ⟨81, ⟨[29], [29], [.bor], .own⟩, [.agg .lent kd29], [.agg .own kd29]⟩
theorem con (k : Nat) : Con Tryz.prog S (f k) := con_fn (nt := 22) (live := []) (Λ := noL) tok (all_cons (ok_con (impl_copyRows.con k)) (all_cons (ok_con (impl_Rules_copied.con k)) (all_cons (ok_con (impl_copyOf.con k)) all_nil))) mixed Tryz.func81 (by kernel_rfl) all_nil fun x => by kernel_rfl
end impl_Game_copied

namespace impl_Sorted
def S : Sp := ⟨112, ⟨[24], [24], [.bor], .own⟩, [.V], [.l .own (.ints .i64)]⟩
def live : List (Nat × List Nat) := [(6, [3, 5, 6, 8, 9, 10]), (100006, [2, 3, 5, 6, 8, 9, 10]), (3, [3, 8, 9, 10]), (100003, [2, 3])]
def G {R : Type} (k : Nat) : Glob R := mkG tt [] 46
def h6 : Hd := ⟨[.l (.own 0), .I, .I, .V, .I, .I], [.V]⟩
def T6 {R : Type} (k : Nat) (K : X → St → Option R) : h6.Fn (Option R) := fun v0 v1 v2 v3 v4 v5 => l6 k v0 v5 (fun p0 => K (.exit 2) (stOf [2, 3, 5, 6, 8, 9, 10] [.one (.l (.any)), .one (.l (.own 0)), .one (.l (.i .i64 v0)), .one (.l (.i .i64 p0)), .one (.l (.val false (.ints .i64 v2))), .one (.l (.i .i64 v3)), .one (.l (.i .i64 v4))] [some (.row 0 0 (.ints .i64 v5))])) k v1
def h3 : Hd := ⟨[.l (.own 0), .V, .I, .I], [.V]⟩
def T3 {R : Type} (k : Nat) (K : X → St → Option R) : h3.Fn (Option R) := fun v0 v1 v2 v3 => l3 k v0 v1 (fun p0 => K (.exit 0) (stOf [2, 3] [.one (.l (.any)), .one (.l (.own 0))] [some (.row 0 0 (.ints .i64 p0))])) k v2 v3
def tab {R : Type} (k : Nat) : LTab R := fun id K vs hs => bif id == 6 then h6.tell vs hs (T6 k K) else bif id == 3 then h3.tell vs hs (T3 k K) else none
theorem fit3 {R : Type} (k : Nat) : Fit (R := R) (G k) live (tab k) (bl Tryz.f112 0) := h3.fit (key := 3) (by kernel_rfl) (T3 k) (fun _ _ _ => rfl) fun K r v0 v1 v2 v3 h => fit_mk h (fun a => h3.mk' v0 v1 a.1 a.2) (fun _ _ v2 v3 => some (v2, v3)) rfl (fun _ => rfl) fun Lp a => by kernel_rfl
theorem fit6 {R : Type} (k : Nat) : Fit (R := R) (G k) live (tab k) (bl Tryz.f112 1) := h6.fit (key := 6) (by kernel_rfl) (T6 k) (fun _ _ _ => rfl) fun K r v0 v1 v2 v3 v4 v5 h => fit_mk h (fun a => h6.mk' v0 a v2 v3 v4 v5) (fun _ v1 _ _ _ _ => some v1) rfl (fun _ => rfl) fun Lp a => by kernel_rfl
theorem con (k : Nat) : Con Tryz.prog S (f k) := con_fn (nt := 46) (live := live) (Λ := tab k) tok all_nil mixed Tryz.func112 (by kernel_rfl) (all_cons (fit3 k) (all_cons (fit6 k) all_nil)) fun x => by kernel_rfl
end impl_Sorted

namespace impl_SuitOf
def S : Sp := ⟨174, ⟨[3], [3], [.bor], .own⟩, [.I], [.O]⟩
theorem con (k : Nat) : Con Tryz.prog S (f k) := con_fn (nt := 8) (live := []) (Λ := noL) tok (all_cons (ok_con (impl_IsCard.con k)) all_nil) mixed Tryz.func174 (by kernel_rfl) all_nil fun x => by kernel_rfl
end impl_SuitOf

namespace impl_RankOf
def S : Sp := ⟨185, ⟨[3], [3], [.bor], .own⟩, [.I], [.O]⟩
theorem con (k : Nat) : Con Tryz.prog S (f k) := con_fn (nt := 8) (live := []) (Λ := noL) tok (all_cons (ok_con (impl_IsCard.con k)) all_nil) mixed Tryz.func185 (by kernel_rfl) all_nil fun x => by kernel_rfl
end impl_RankOf

namespace impl_IsRed
def S : Sp := ⟨243, ⟨[3], [4], [.bor], .own⟩, [.I], [.B]⟩
theorem con (k : Nat) : Con Tryz.prog S (f k) := con_fn (nt := 11) (live := []) (Λ := noL) tok (all_cons (ok_con (impl_SuitOf.con k)) all_nil) mixed Tryz.func243 (by kernel_rfl) all_nil fun x => by kernel_rfl
end impl_IsRed

namespace impl_asks
def S : Sp := ⟨222, ⟨[3, 3], [4], [.bor, .bor], .own⟩, [.I, .I], [.B]⟩
theorem con (k : Nat) : Con Tryz.prog S (f k) := con_fn (nt := 31) (live := []) (Λ := noL) tok (all_cons (ok_con (impl_SuitOf.con k)) (all_cons (ok_con (impl_RankOf.con k)) (all_cons (ok_con (impl_IsRed.con k)) all_nil))) mixed Tryz.func222 (by kernel_rfl) all_nil fun x => by kernel_rfl
end impl_asks

namespace impl_Matches
def S : Sp := ⟨176, ⟨[24, 3], [4], [.bor, .bor], .own⟩, [.V, .I], [.B]⟩
def live : List (Nat × List Nat) := [(5, [1, 5, 18, 19, 20]), (100005, [4, 5])]
def G {R : Type} (k : Nat) : Glob R := mkG tt [impl_IsCard.S.ent (impl_IsCard.f k), impl_IsPattern.S.ent (impl_IsPattern.f k), impl_asks.S.ent (impl_asks.f k)] 89
def h5 : Hd := ⟨[.I, .l (.own 0), .V, .I, .I], [.row false .bools]⟩
def T5 {R : Type} (k : Nat) (K : X → St → Option R) : h5.Fn (Option R) := fun v0 v1 v2 v3 v4 => l5 k v0 v1 v2 (fun p0 => K (.exit 0) (stOf [4, 5] [.one (.l (.any)), .one (.l (.own 0))] [some (.row 0 0 (.bools p0))])) k v3 v4
def tab {R : Type} (k : Nat) : LTab R := fun id K vs hs => bif id == 5 then h5.tell vs hs (T5 k K) else none
theorem fit5 {R : Type} (k : Nat) : Fit (R := R) (G k) live (tab k) (bl Tryz.f176 0) := h5.fit (key := 5) (by kernel_rfl) (T5 k) (fun _ _ _ => rfl) fun K r v0 v1 v2 v3 v4 h => fit_mk h (fun a => h5.mk' v0 v1 v2 a.1 a.2) (fun _ _ _ v3 v4 => some (v3, v4)) rfl (fun _ => rfl) fun Lp a => by kernel_rfl
theorem con (k : Nat) : Con Tryz.prog S (f k) := con_fn (nt := 89) (live := live) (Λ := tab k) tok (all_cons (ok_con (impl_IsCard.con k)) (all_cons (ok_con (impl_IsPattern.con k)) (all_cons (ok_con (impl_asks.con k)) all_nil))) mixed Tryz.func176 (by kernel_rfl) (all_cons (fit5 k) all_nil) fun x => by kernel_rfl
end impl_Matches

namespace impl_FitsOn
def S : Sp := ⟨210, ⟨[26, 3, 3], [4], [.bor, .bor, .bor], .own⟩, [.agg .lent kd26, .I, .I], [.B]⟩
theorem con (k : Nat) : Con Tryz.prog S (f k) := con_fn (nt := 46) (live := []) (Λ := noL) tok (all_cons (ok_con (impl_IsRules.con k)) (all_cons (ok_con (impl_SuitOf.con k)) (all_cons (ok_con (impl_Matches.con k)) (all_cons (ok_con (impl_IsCard.con k)) (all_cons (ok_con (impl_RankOf.con k)) all_nil))))) mixed Tryz.func210 (by kernel_rfl) all_nil fun x => by kernel_rfl
end impl_FitsOn

namespace impl_Playable
def S : Sp := ⟨150, ⟨[29], [24], [.bor], .own⟩, [.agg .lent kd29], [.l .own (.ints .i64)]⟩
def live : List (Nat × List Nat) := [(5, [1, 3, 20, 21, 22]), (100005, [2, 3])]
def G {R : Type} (k : Nat) : Glob R := mkG tt [impl_IsGame.S.ent (impl_IsGame.f k), impl_IsEnded.S.ent (impl_IsEnded.f k), impl_Sorted.S.ent (impl_Sorted.f k), impl_FitsOn.S.ent (impl_FitsOn.f k)] 44
def h5 : Hd := ⟨[.l (.ptr 0 0), .l (.own 1), .l (.own 2), .I, .I], [.box [.I, .I, .b, .b, .V, .V, .I, .I, .W, .V, .V, .I, .I, .I], .V, .V]⟩
def T5 {R : Type} (k : Nat) (K : X → St → Option R) : h5.Fn (Option R) := fun v0 v1 v2 v3 v4 v5 v6 v7 v8 v9 _ _ v12 _ _ _ v16 v17 => l5 k v0 v2 v3 v4 v5 v6 v7 v8 v9 v12 v17 (fun p0 => K (.exit 0) (stOf [2, 3] [.one (.l (.any)), .one (.l (.own 0))] [some (.row 0 0 (.ints .i64 p0))])) k v1 v16
def tab {R : Type} (k : Nat) : LTab R := fun id K vs hs => bif id == 5 then h5.tell vs hs (T5 k K) else none
theorem fit5 {R : Type} (k : Nat) : Fit (R := R) (G k) live (tab k) (bl Tryz.f150 0) := h5.fit (key := 5) (by kernel_rfl) (T5 k) (fun _ _ _ => rfl) fun K r v0 v1 v2 v3 v4 v5 v6 v7 v8 v9 v10 v11 v12 v13 v14 v15 v16 v17 h => fit_mk h (fun a => h5.mk' v0 a.1 v2 v3 v4 v5 v6 v7 v8 v9 v10 v11 v12 v13 v14 v15 a.2 v17) (fun _ v1 _ _ _ _ _ _ _ _ _ _ _ _ _ _ v16 _ => some (v1, v16)) rfl (fun _ => rfl) fun Lp a => by kernel_rfl
theorem con (k : Nat) : Con Tryz.prog S (f k) := con_fn (nt := 44) (live := live) (Λ := tab k) tok (all_cons (ok_con (impl_IsGame.con k)) (all_cons (ok_con (impl_IsEnded.con k)) (all_cons (ok_con (impl_Sorted.con k)) (all_cons (ok_con (impl_FitsOn.con k)) all_nil)))) mixed Tryz.func150 (by kernel_rfl) (all_cons (fit5 k) all_nil) fun x => by kernel_rfl
end impl_Playable

namespace impl_SuitCounts
def S : Sp := ⟨200, ⟨[24], [24], [.bor], .own⟩, [.V], [.l .own (.ints .i64)]⟩
def live : List (Nat × List Nat) := [(3, [3, 7, 8, 9]), (100003, [2, 3])]
def G {R : Type} (k : Nat) : Glob R := mkG tt [impl_SuitOf.S.ent (impl_SuitOf.f k), impl_IsCard.S.ent (impl_IsCard.f k)] 24
def h3 : Hd := ⟨[.l (.own 0), .V, .I, .I], [.V]⟩
def T3 {R : Type} (k : Nat) (K : X → St → Option R) : h3.Fn (Option R) := fun v0 v1 v2 v3 => l3 k v0 v1 (fun p0 => K (.exit 0) (stOf [2, 3] [.one (.l (.any)), .one (.l (.own 0))] [some (.row 0 0 (.ints .i64 p0))])) k v2 v3
def tab {R : Type} (k : Nat) : LTab R := fun id K vs hs => bif id == 3 then h3.tell vs hs (T3 k K) else none
theorem fit3 {R : Type} (k : Nat) : Fit (R := R) (G k) live (tab k) (bl Tryz.f200 0) := h3.fit (key := 3) (by kernel_rfl) (T3 k) (fun _ _ _ => rfl) fun K r v0 v1 v2 v3 h => fit_mk h (fun a => h3.mk' v0 v1 a.1 a.2) (fun _ _ v2 v3 => some (v2, v3)) rfl (fun _ => rfl) fun Lp a => by kernel_rfl
theorem con (k : Nat) : Con Tryz.prog S (f k) := con_fn (nt := 24) (live := live) (Λ := tab k) tok (all_cons (ok_con (impl_SuitOf.con k)) (all_cons (ok_con (impl_IsCard.con k)) all_nil)) mixed Tryz.func200 (by kernel_rfl) (all_cons (fit3 k) all_nil) fun x => by kernel_rfl
end impl_SuitCounts

namespace impl_ChoiceOf
def S : Sp := ⟨140, ⟨[29, 3], [3], [.bor, .bor], .own⟩, [.agg .lent kd29, .I], [.O]⟩
def live : List (Nat × List Nat) := [(12, [6, 7, 41, 42, 43]), (100012, [4, 7])]
def G {R : Type} (k : Nat) : Glob R := mkG tt [impl_Playable.S.ent (impl_Playable.f k), impl_SuitOf.S.ent (impl_SuitOf.f k), impl_SuitCounts.S.ent (impl_SuitCounts.f k)] 61
def h12 : Hd := ⟨[.l (.own 0), .I, .l (.own 1), .I, .I], [.V, .V]⟩
def T12 {R : Type} (k : Nat) (K : X → St → Option R) : h12.Fn (Option R) := fun v0 v1 v2 v3 v4 => l12 k v1 v3 v4 (fun p0 => K (.exit 1) (stOf [4, 7] [.one (.l (.any)), .one (.l (.i .i64 p0))] [])) k v0 v2
def tab {R : Type} (k : Nat) : LTab R := fun id K vs hs => bif id == 12 then h12.tell vs hs (T12 k K) else none
theorem fit12 {R : Type} (k : Nat) : Fit (R := R) (G k) live (tab k) (bl Tryz.f140 0) := h12.fit (key := 12) (by kernel_rfl) (T12 k) (fun _ _ _ => rfl) fun K r v0 v1 v2 v3 v4 h => fit_mk h (fun a => h12.mk' a.1 v1 a.2 v3 v4) (fun v0 _ v2 _ _ => some (v0, v2)) rfl (fun _ => rfl) fun Lp a => by kernel_rfl
theorem con (k : Nat) : Con Tryz.prog S (f k) := con_fn (nt := 61) (live := live) (Λ := tab k) tok (all_cons (ok_con (impl_Playable.con k)) (all_cons (ok_con (impl_SuitOf.con k)) (all_cons (ok_con (impl_SuitCounts.con k)) all_nil))) mixed Tryz.func140 (by kernel_rfl) (all_cons (fit12 k) all_nil) fun x => by kernel_rfl
end impl_ChoiceOf

namespace impl_TakeCards
def S : Sp := ⟨201, ⟨[29], [29, 4], [.bor], .own⟩, [.agg .lent kd29], [.agg .own kd29, .B]⟩
def live : List (Nat × List Nat) := [(6, [1, 2, 4, 5, 19, 20]), (100006, [1, 2, 3, 4, 5])]
def G {R : Type} (k : Nat) : Glob R := mkG tt [impl_IsGame.S.ent (impl_IsGame.f k), impl_IsEnded.S.ent (impl_IsEnded.f k), impl_Game_copied.S.ent (impl_Game_copied.f k), impl_copyOf.S.ent (impl_copyOf.f k)] 91
def h6 : Hd := ⟨[.l (.ptr 0 0), .l (.ptr 1 0), .l (.ptr 2 0), .I, .I, .I], [.box [.I, .I, .b, .b, .V, .V, .I, .I, .W, .V, .V, .I, .I, .I], .box [.I, .I, .bc false, .bc false, .nil, .nil, .I, .I, .nil, .nil, .nil, .I, .I, .I], .box [.I, .I, .b, .b, .own 3, .own 4, .I, .I, .own 5, .own 6, .own 7, .I, .I, .I], .V, .V, .W, .V, .V]⟩
def T6 {R : Type} (k : Nat) (K : X → St → Option R) : h6.Fn (Option R) := fun v0 v1 v2 v3 v4 v5 v6 v7 v8 v9 v10 v11 v12 v13 v14 v15 v16 v17 v18 v21 v22 v23 v24 v25 v26 v27 v28 v29 v30 v31 v32 v33 v34 v35 v36 v37 v38 v39 => l6 k v1 v14 (fun p0 p1 p2 p3 => K (.exit 0) (stOf [1, 2, 3, 4, 5] [.one (.l (.bptr 0 0)), .one (.l (.bptr 1 0)), .one (.l (.any)), .one (.l (.bptr 2 0)), .one (.l (.i .i64 p0))] [some (.box 0 [.i .i64 v3, .i .i64 v4, .b v5, .b v6, .val false (.ints .i64 v7), .val false (.ints .i64 v8), .i .i64 v9, .i .i64 v10, .val false (.rows false v11), .val false (.ints .i64 v12), .val false (.ints .i64 v13), .i .i64 v14, .i .i64 v15, .i .i64 v16]), some (.box 0 [.i .i64 v17, .i .i64 v18, .b false, .b false, .nil, .nil, .i .i64 v21, .i .i64 v22, .nil, .nil, .nil, .i .i64 v23, .i .i64 v24, .i .i64 v25]), some (.box 0 [.i .i64 v26, .i .i64 v27, .b v28, .b v29, .own 3, .own 4, .i .i64 v30, .i .i64 v31, .own 5, .own 6, .own 7, .i .i64 v32, .i .i64 v33, .i .i64 v34]), some (.row 0 0 (.ints .i64 v35)), some (.row 0 0 (.ints .i64 v36)), some (.row 0 0 (.rows true p1)), some (.row 0 0 (.ints .i64 p2)), some (.row 0 0 (.ints .i64 p3))])) k v0 v2 v37 v38 v39
def tab {R : Type} (k : Nat) : LTab R := fun id K vs hs => bif id == 6 then h6.tell vs hs (T6 k K) else none
theorem fit6 {R : Type} (k : Nat) : Fit (R := R) (G k) live (tab k) (bl Tryz.f201 0) := h6.fit (key := 6) (by kernel_rfl) (T6 k) (fun _ _ _ => rfl) fun K r v0 v1 v2 v3 v4 v5 v6 v7 v8 v9 v10 v11 v12 v13 v14 v15 v16 v17 v18 v21 v22 v23 v24 v25 v26 v27 v28 v29 v30 v31 v32 v33 v34 v35 v36 v37 v38 v39 h => fit_mk h (fun a => h6.mk' a.1 v1 a.2.1 v3 v4 v5 v6 v7 v8 v9 v10 v11 v12 v13 v14 v15 v16 v17 v18 v21 v22 v23 v24 v25 v26 v27 v28 v29 v30 v31 v32 v33 v34 v35 v36 (t2 a).1 (t3 a).1 (t4 a)) (fun v0 _ v2 _ _ _ _ _ _ _ _ _ _ _ _ _ _ _ _ _ _ _ _ _ _ _ _ _ _ _ _ _ _ _ _ v37 v38 v39 => some (v0, v2, v37, v38, v39)) rfl (fun _ => rfl) fun Lp a => by kernel_rfl
theorem con (k : Nat) : Con Tryz.prog S (f k) := con_fn (nt := 91) (live := live) (Λ := tab k) tok (all_cons (ok_con (impl_IsGame.con k)) (all_cons (ok_con (impl_IsEnded.con k)) (all_cons (ok_con (impl_Game_copied.con k)) (all_cons (ok_con (impl_copyOf.con k)) all_nil)))) mixed Tryz.func201 (by kernel_rfl) (all_cons (fit6 k) all_nil) fun x => by kernel_rfl
end impl_TakeCards

namespace impl_PlaceOf
def S : Sp := ⟨241, ⟨[24, 3], [3], [.bor, .bor], .own⟩, [.V, .I], [.O]⟩
def live : List (Nat × List Nat) := [(2, [1, 7, 8, 9]), (100002, [4])]
def G {R : Type} (k : Nat) : Glob R := mkG tt [] 19
def h2 : Hd := ⟨[.I, .V, .I, .I], []⟩
def T2 {R : Type} (k : Nat) (K : X → St → Option R) : h2.Fn (Option R) := fun v0 v1 v2 v3 => l2 k v0 v1 v2 (fun p0 => K .ret (stOf [4] [.one (.l (.i .i64 p0))] [])) (K (.exit 0) (stOf [4] [.one (.l (.any))] [])) k v3
def tab {R : Type} (k : Nat) : LTab R := fun id K vs hs => bif id == 2 then h2.tell vs hs (T2 k K) else none
theorem fit2 {R : Type} (k : Nat) : Fit (R := R) (G k) live (tab k) (bl Tryz.f241 0) := h2.fit (key := 2) (by kernel_rfl) (T2 k) (fun _ _ _ => rfl) fun K r v0 v1 v2 v3 h => fit_mk h (fun a => h2.mk' v0 v1 v2 a) (fun _ _ _ v3 => some v3) rfl (fun _ => rfl) fun Lp a => by kernel_rfl
theorem con (k : Nat) : Con Tryz.prog S (f k) := con_fn (nt := 19) (live := live) (Λ := tab k) tok all_nil mixed Tryz.func241 (by kernel_rfl) (all_cons (fit2 k) all_nil) fun x => by kernel_rfl
end impl_PlaceOf

namespace impl_HasCard
def S : Sp := ⟨215, ⟨[24, 3], [4], [.bor, .bor], .own⟩, [.V, .I], [.B]⟩
theorem con (k : Nat) : Con Tryz.prog S (f k) := con_fn (nt := 9) (live := []) (Λ := noL) tok (all_cons (ok_con (impl_PlaceOf.con k)) all_nil) mixed Tryz.func215 (by kernel_rfl) all_nil fun x => by kernel_rfl
end impl_HasCard

namespace impl_Without
def S : Sp := ⟨232, ⟨[24, 3], [24], [.bor, .bor], .own⟩, [.V, .I], [.l .own (.ints .i64)]⟩
def live : List (Nat × List Nat) := [(3, [1, 5, 9, 10, 11]), (100003, [4, 5])]
def G {R : Type} (k : Nat) : Glob R := mkG tt [] 24
def h3 : Hd := ⟨[.I, .l (.own 0), .V, .I, .I], [.V]⟩
def T3 {R : Type} (k : Nat) (K : X → St → Option R) : h3.Fn (Option R) := fun v0 v1 v2 v3 v4 => l3 k v0 v1 v2 (fun p0 => K (.exit 0) (stOf [4, 5] [.one (.l (.any)), .one (.l (.own 0))] [some (.row 0 0 (.ints .i64 p0))])) k v3 v4
def tab {R : Type} (k : Nat) : LTab R := fun id K vs hs => bif id == 3 then h3.tell vs hs (T3 k K) else none
theorem fit3 {R : Type} (k : Nat) : Fit (R := R) (G k) live (tab k) (bl Tryz.f232 0) := h3.fit (key := 3) (by kernel_rfl) (T3 k) (fun _ _ _ => rfl) fun K r v0 v1 v2 v3 v4 h => fit_mk h (fun a => h3.mk' v0 v1 v2 a.1 a.2) (fun _ _ _ v3 v4 => some (v3, v4)) rfl (fun _ => rfl) fun Lp a => by kernel_rfl
theorem con (k : Nat) : Con Tryz.prog S (f k) := con_fn (nt := 24) (live := live) (Λ := tab k) tok all_nil mixed Tryz.func232 (by kernel_rfl) (all_cons (fit3 k) all_nil) fun x => by kernel_rfl
end impl_Without

namespace impl_DoesSkip
def S : Sp := ⟨233, ⟨[26, 3], [4], [.bor, .bor], .own⟩, [.agg .lent kd26, .I], [.B]⟩
theorem con (k : Nat) : Con Tryz.prog S (f k) := con_fn (nt := 13) (live := []) (Λ := noL) tok (all_cons (ok_con (impl_IsRules.con k)) (all_cons (ok_con (impl_Matches.con k)) all_nil)) mixed Tryz.func233 (by kernel_rfl) all_nil fun x => by kernel_rfl
end impl_DoesSkip

namespace impl_PlayOn
def S : Sp := ⟨202, ⟨[29, 3], [29, 4], [.bor, .bor], .own⟩, [.agg .lent kd29, .I], [.agg .own kd29, .B]⟩
theorem con (k : Nat) : Con Tryz.prog S (f k) := con_fn (nt := 54) (live := []) (Λ := noL) tok (all_cons (ok_con (impl_Game_copied.con k)) (all_cons (ok_con (impl_Playable.con k)) (all_cons (ok_con (impl_HasCard.con k)) (all_cons (ok_con (impl_Without.con k)) (all_cons (ok_con (impl_DoesSkip.con k)) all_nil))))) mixed Tryz.func202 (by kernel_rfl) all_nil fun x => by kernel_rfl
end impl_PlayOn

namespace impl_ReplayMove
def S : Sp := ⟨141, ⟨[29, 3], [29, 4], [.bor, .bor], .own⟩, [.agg .lent kd29, .I], [.agg .own kd29, .B]⟩
theorem con (k : Nat) : Con Tryz.prog S (f k) := con_fn (nt := 17) (live := []) (Λ := noL) tok (all_cons (ok_con (impl_TakeCards.con k)) (all_cons (ok_con (impl_PlayOn.con k)) all_nil)) mixed Tryz.func141 (by kernel_rfl) all_nil fun x => by kernel_rfl
end impl_ReplayMove

namespace impl_AutoMove
def S : Sp := ⟨82, ⟨[29, 3], [29, 4], [.bor, .bor], .own⟩, [.agg .lent kd29, .I], [.agg .own kd29, .B]⟩
theorem con (k : Nat) : Con Tryz.prog S (f k) := con_fn (nt := 13) (live := []) (Λ := noL) tok (all_cons (ok_con (impl_ChoiceOf.con k)) (all_cons (ok_con (impl_ReplayMove.con k)) all_nil)) mixed Tryz.func82 (by kernel_rfl) all_nil fun x => by kernel_rfl
end impl_AutoMove

namespace impl_kindAt
def S : Sp := ⟨83, ⟨[24, 3], [3], [.bor, .bor], .own⟩, [.V, .I], [.O]⟩
theorem con (k : Nat) : Con Tryz.prog S (f k) := con_fn (nt := 13) (live := []) (Λ := noL) tok all_nil mixed Tryz.func83 (by kernel_rfl) all_nil fun x => by kernel_rfl
end impl_kindAt

namespace impl_PlayOut
def S : Sp := ⟨14, ⟨[29, 24], [29], [.bor, .bor], .own⟩, [.agg .lent kd29, .V], [.agg .own kd29]⟩
def live : List (Nat × List Nat) := [(2, [1, 4, 5]), (100002, [4, 5])]
def G {R : Type} (k : Nat) : Glob R := mkG tt [impl_IsGame.S.ent (impl_IsGame.f k), impl_IsEnded.S.ent (impl_IsEnded.f k), impl_Game_copied.S.ent (impl_Game_copied.f k), impl_AutoMove.S.ent (impl_AutoMove.f k), impl_kindAt.S.ent (impl_kindAt.f k)] 25
def h2 : Hd := ⟨[.V, .l (.ptr 0 0), .l (.ptr 1 0)], [.box [.I, .I, .bc false, .bc false, .nil, .nil, .I, .I, .nil, .nil, .nil, .I, .I, .I], .box [.I, .I, .b, .b, .own 2, .own 3, .I, .I, .own 4, .own 5, .own 6, .I, .I, .I], .V, .V, .W, .V, .V]⟩
def T2 {R : Type} (k : Nat) (K : X → St → Option R) : h2.Fn (Option R) := fun v0 v1 v2 v5 v6 v7 v8 v9 v10 v11 v12 v13 v14 v15 v16 v17 v18 v19 v20 v21 v22 v23 => l2 k v0 (fun p0 p1 p2 p3 p4 p5 p6 p7 p8 p9 p10 p11 p12 p13 => K (.exit 0) (stOf [4, 5] [.one (.l (.bptr 0 0)), .one (.l (.bptr 1 0))] [some (.box 0 [.i .i64 v1, .i .i64 v2, .b false, .b false, .nil, .nil, .i .i64 v5, .i .i64 v6, .nil, .nil, .nil, .i .i64 v7, .i .i64 v8, .i .i64 v9]), some (.box 0 [.i .i64 p0, .i .i64 p1, .b p2, .b p3, .own 2, .own 3, .i .i64 p4, .i .i64 p5, .own 4, .own 5, .own 6, .i .i64 p6, .i .i64 p7, .i .i64 p8]), some (.row 0 0 (.ints .i64 p9)), some (.row 0 0 (.ints .i64 p10)), some (.row 0 0 (.rows true p11)), some (.row 0 0 (.ints .i64 p12)), some (.row 0 0 (.ints .i64 p13))])) k v10 v11 v12 v13 v14 v15 v16 v17 v18 v19 v20 v21 v22 v23
def tab {R : Type} (k : Nat) : LTab R := fun id K vs hs => bif id == 2 then h2.tell vs hs (T2 k K) else none
theorem fit2 {R : Type} (k : Nat) : Fit (R := R) (G k) live (tab k) (bl Tryz.f14 0) := h2.fit (key := 2) (by kernel_rfl) (T2 k) (fun _ _ _ => rfl) fun K r v0 v1 v2 v5 v6 v7 v8 v9 v10 v11 v12 v13 v14 v15 v16 v17 v18 v19 v20 v21 v22 v23 h => fit_mk h (fun a => h2.mk' v0 v1 v2 v5 v6 v7 v8 v9 a.1 a.2.1 (t2 a).1 (t3 a).1 (t4 a).1 (t5 a).1 (t6 a).1 (t7 a).1 (t8 a).1 (t9 a).1 (t9 a.2).1 (t9 (t2 a)).1 (t9 (t3 a)).1 (t9 (t4 a))) (fun _ _ _ _ _ _ _ _ v10 v11 v12 v13 v14 v15 v16 v17 v18 v19 v20 v21 v22 v23 => some (v10, v11, v12, v13, v14, v15, v16, v17, v18, v19, v20, v21, v22, v23)) rfl (fun _ => rfl) fun Lp a => by kernel_rfl
theorem con (k : Nat) : Con Tryz.prog S (f k) := con_fn (nt := 25) (live := live) (Λ := tab k) tok (all_cons (ok_con (impl_IsGame.con k)) (all_cons (ok_con (impl_IsEnded.con k)) (all_cons (ok_con (impl_Game_copied.con k)) (all_cons (ok_con (impl_AutoMove.con k)) (all_cons (ok_con (impl_kindAt.con k)) all_nil))))) mixed Tryz.func14 (by kernel_rfl) (all_cons (fit2 k) all_nil) fun x => by kernel_rfl
end impl_PlayOut

namespace impl_Dealt
def S : Sp := ⟨164, ⟨[24, 3, 3], [27, 24, 4], [.bor, .bor, .bor], .own⟩, [.V, .I, .I], [.l .own .rows, .l .own (.ints .i64), .B]⟩
def live : List (Nat × List Nat) := [(5, [0, 1, 2, 9, 41, 42, 43]), (100005, [0, 1, 2, 6, 7, 8, 9])]
def G {R : Type} (k : Nat) : Glob R := mkG tt [impl_InRange.S.ent (impl_InRange.f k), impl_IsHand.S.ent (impl_IsHand.f k), impl_copyOf.S.ent (impl_copyOf.f k)] 70
def h5 : Hd := ⟨[.V, .I, .I, .l (.own 0), .V, .I, .I], [.W]⟩
def T5 {R : Type} (k : Nat) (K : X → St → Option R) : h5.Fn (Option R) := fun v0 v1 v2 v3 v4 v5 v6 => l5 k v1 v3 v4 (fun p0 => K (.exit 0) (stOf [0, 1, 2, 6, 7, 8, 9] [.one (.l (.val false (.ints .i64 v0))), .one (.l (.i .i64 v1)), .one (.l (.i .i64 v2)), .one (.l (.any)), .one (.l (.any)), .one (.l (.any)), .one (.l (.own 0))] [some (.row 0 0 (.rows true p0))])) k v5 v6
def tab {R : Type} (k : Nat) : LTab R := fun id K vs hs => bif id == 5 then h5.tell vs hs (T5 k K) else none
theorem fit5 {R : Type} (k : Nat) : Fit (R := R) (G k) live (tab k) (bl Tryz.f164 0) := h5.fit (key := 5) (by kernel_rfl) (T5 k) (fun _ _ _ => rfl) fun K r v0 v1 v2 v3 v4 v5 v6 h => fit_mk h (fun a => h5.mk' v0 v1 v2 v3 v4 a.1 a.2) (fun _ _ _ _ _ v5 v6 => some (v5, v6)) rfl (fun _ => rfl) fun Lp a => by kernel_rfl
theorem con (k : Nat) : Con Tryz.prog S (f k) := con_fn (nt := 70) (live := live) (Λ := tab k) tok (all_cons (ok_con (impl_InRange.con k)) (all_cons (ok_con (impl_IsHand.con k)) (all_cons (ok_con (impl_copyOf.con k)) all_nil))) mixed Tryz.func164 (by kernel_rfl) (all_cons (fit5 k) all_nil) fun x => by kernel_rfl
end impl_Dealt

namespace impl_NewGame
def S : Sp := ⟨95, ⟨[26, 24], [29, 4], [.bor, .bor], .own⟩, [.agg .lent kd26, .V], [.agg .own kd29, .B]⟩
theorem con (k : Nat) : Con Tryz.prog S (f k) := con_fn (nt := 44) (live := []) (Λ := noL) tok (all_cons (ok_con (impl_IsRules.con k)) (all_cons (ok_con (impl_IsHand.con k)) (all_cons (ok_con (impl_Rules_copied.con k)) (all_cons (ok_con (impl_copyOf.con k)) (all_cons (ok_con (impl_Dealt.con k)) all_nil))))) mixed Tryz.func95 (by kernel_rfl) all_nil fun x => by kernel_rfl
end impl_NewGame

namespace impl_Mod
def S : Sp := ⟨165, ⟨[3, 3], [3], [.bor, .bor], .own⟩, [.I, .I], [.O]⟩
theorem con (k : Nat) : Con Tryz.prog S (f k) := con_fn (nt := 15) (live := []) (Λ := noL) tok (all_cons (ok_con (impl_InRange.con k)) all_nil) mixed Tryz.func165 (by kernel_rfl) all_nil fun x => by kernel_rfl
end impl_Mod

namespace impl_Hash
def S : Sp := ⟨126, ⟨[24], [3], [.bor], .own⟩, [.V], [.O]⟩
def live : List (Nat × List Nat) := [(3, [3, 6, 7, 8]), (100003, [2, 3])]
def G {R : Type} (k : Nat) : Glob R := mkG tt [impl_Mod.S.ent (impl_Mod.f k)] 21
def h3 : Hd := ⟨[.I, .V, .I, .I], []⟩
def T3 {R : Type} (k : Nat) (K : X → St → Option R) : h3.Fn (Option R) := fun v0 v1 v2 v3 => l3 k v1 v2 (fun p0 => K (.exit 0) (stOf [2, 3] [.one (.l (.any)), .one (.l (.i .i64 p0))] [])) k v0 v3
def tab {R : Type} (k : Nat) : LTab R := fun id K vs hs => bif id == 3 then h3.tell vs hs (T3 k K) else none
theorem fit3 {R : Type} (k : Nat) : Fit (R := R) (G k) live (tab k) (bl Tryz.f126 0) := h3.fit (key := 3) (by kernel_rfl) (T3 k) (fun _ _ _ => rfl) fun K r v0 v1 v2 v3 h => fit_mk h (fun a => h3.mk' a.1 v1 v2 a.2) (fun v0 _ _ v3 => some (v0, v3)) rfl (fun _ => rfl) fun Lp a => by kernel_rfl
theorem con (k : Nat) : Con Tryz.prog S (f k) := con_fn (nt := 21) (live := live) (Λ := tab k) tok (all_cons (ok_con (impl_Mod.con k)) all_nil) mixed Tryz.func126 (by kernel_rfl) (all_cons (fit3 k) all_nil) fun x => by kernel_rfl
end impl_Hash

namespace impl_Shuffled
def S : Sp := ⟨96, ⟨[24, 3], [24], [.bor, .bor], .own⟩, [.V, .I], [.l .own (.ints .i64)]⟩
def live : List (Nat × List Nat) := [(3, [1, 5, 6]), (100003, [4, 5])]
def G {R : Type} (k : Nat) : Glob R := mkG tt [impl_Hash.S.ent (impl_Hash.f k), impl_copyOf.S.ent (impl_copyOf.f k), impl_Mod.S.ent (impl_Mod.f k)] 39
def h3 : Hd := ⟨[.I, .l (.own 0), .I], [.V]⟩
def T3 {R : Type} (k : Nat) (K : X → St → Option R) : h3.Fn (Option R) := fun v0 v1 v2 => l3 k v0 (fun p0 => K (.exit 0) (stOf [4, 5] [.one (.l (.any)), .one (.l (.own 0))] [some (.row 0 0 (.ints .i64 p0))])) k v1 v2
def tab {R : Type} (k : Nat) : LTab R := fun id K vs hs => bif id == 3 then h3.tell vs hs (T3 k K) else none
theorem fit3 {R : Type} (k : Nat) : Fit (R := R) (G k) live (tab k) (bl Tryz.f96 0) := h3.fit (key := 3) (by kernel_rfl) (T3 k) (fun _ _ _ => rfl) fun K r v0 v1 v2 h => fit_mk h (fun a => h3.mk' v0 a.1 a.2) (fun _ v1 v2 => some (v1, v2)) rfl (fun _ => rfl) fun Lp a => by kernel_rfl
theorem con (k : Nat) : Con Tryz.prog S (f k) := con_fn (nt := 39) (live := live) (Λ := tab k) tok (all_cons (ok_con (impl_Hash.con k)) (all_cons (ok_con (impl_copyOf.con k)) (all_cons (ok_con (impl_Mod.con k)) all_nil))) mixed Tryz.func96 (by kernel_rfl) (all_cons (fit3 k) all_nil) fun x => by kernel_rfl
end impl_Shuffled

namespace impl_Missing
def S : Sp := ⟨166, ⟨[24], [24], [.bor], .own⟩, [.V], [.l .own (.ints .i64)]⟩
def live : List (Nat × List Nat) := [(3, [0, 3, 6]), (100003, [2, 3])]
def G {R : Type} (k : Nat) : Glob R := mkG tt [impl_HasCard.S.ent (impl_HasCard.f k)] 19
def h3 : Hd := ⟨[.V, .l (.own 0), .I], [.V]⟩
def T3 {R : Type} (k : Nat) (K : X → St → Option R) : h3.Fn (Option R) := fun v0 v1 v2 => l3 k v0 (fun p0 => K (.exit 0) (stOf [2, 3] [.one (.l (.any)), .one (.l (.own 0))] [some (.row 0 0 (.ints .i64 p0))])) k v1 v2
def tab {R : Type} (k : Nat) : LTab R := fun id K vs hs => bif id == 3 then h3.tell vs hs (T3 k K) else none
theorem fit3 {R : Type} (k : Nat) : Fit (R := R) (G k) live (tab k) (bl Tryz.f166 0) := h3.fit (key := 3) (by kernel_rfl) (T3 k) (fun _ _ _ => rfl) fun K r v0 v1 v2 h => fit_mk h (fun a => h3.mk' v0 a.1 a.2) (fun _ v1 v2 => some (v1, v2)) rfl (fun _ => rfl) fun Lp a => by kernel_rfl
theorem con (k : Nat) : Con Tryz.prog S (f k) := con_fn (nt := 19) (live := live) (Λ := tab k) tok (all_cons (ok_con (impl_HasCard.con k)) all_nil) mixed Tryz.func166 (by kernel_rfl) (all_cons (fit3 k) all_nil) fun x => by kernel_rfl
end impl_Missing

namespace impl_FullDeck
def S : Sp := ⟨97, ⟨[], [24], [], .own⟩, [], [.l .own (.ints .i64)]⟩
theorem con (k : Nat) : Con Tryz.prog S (f k) := con_fn (nt := 2) (live := []) (Λ := noL) tok (all_cons (ok_con (impl_Missing.con k)) all_nil) mixed Tryz.func97 (by kernel_rfl) all_nil fun x => by kernel_rfl
end impl_FullDeck

namespace impl_SeatsFor
def S : Sp := ⟨125, ⟨[3, 3], [24], [.bor, .bor], .own⟩, [.I, .I], [.l .own (.ints .i64)]⟩
def live : List (Nat × List Nat) := [(5, [0, 1, 5, 16, 17]), (100005, [4, 5])]
def G {R : Type} (k : Nat) : Glob R := mkG tt [impl_InRange.S.ent (impl_InRange.f k)] 30
def h5 : Hd := ⟨[.I, .I, .l (.own 0), .I, .I], [.V]⟩
def T5 {R : Type} (k : Nat) (K : X → St → Option R) : h5.Fn (Option R) := fun v0 v1 v2 v3 v4 => l5 k v0 v1 v2 (fun p0 => K (.exit 0) (stOf [4, 5] [.one (.l (.any)), .one (.l (.own 0))] [some (.row 0 0 (.ints .i64 p0))])) k v3 v4
def tab {R : Type} (k : Nat) : LTab R := fun id K vs hs => bif id == 5 then h5.tell vs hs (T5 k K) else none
theorem fit5 {R : Type} (k : Nat) : Fit (R := R) (G k) live (tab k) (bl Tryz.f125 0) := h5.fit (key := 5) (by kernel_rfl) (T5 k) (fun _ _ _ => rfl) fun K r v0 v1 v2 v3 v4 h => fit_mk h (fun a => h5.mk' v0 v1 v2 a.1 a.2) (fun _ _ _ v3 v4 => some (v3, v4)) rfl (fun _ => rfl) fun Lp a => by kernel_rfl
theorem con (k : Nat) : Con Tryz.prog S (f k) := con_fn (nt := 30) (live := live) (Λ := tab k) tok (all_cons (ok_con (impl_InRange.con k)) all_nil) mixed Tryz.func125 (by kernel_rfl) (all_cons (fit5 k) all_nil) fun x => by kernel_rfl
end impl_SeatsFor

namespace impl_ValueOf
def S : Sp := ⟨251, ⟨[3], [3], [.bor], .own⟩, [.I], [.O]⟩
theorem con (k : Nat) : Con Tryz.prog S (f k) := con_fn (nt := 17) (live := []) (Λ := noL) tok (all_cons (ok_con (impl_RankOf.con k)) all_nil) mixed Tryz.func251 (by kernel_rfl) all_nil fun x => by kernel_rfl
end impl_ValueOf

namespace impl_values
def S : Sp := ⟨228, ⟨[24], [3], [.bor], .own⟩, [.V], [.O]⟩
def live : List (Nat × List Nat) := [(3, [3, 6, 7, 8]), (100003, [2, 3])]
def G {R : Type} (k : Nat) : Glob R := mkG tt [impl_ValueOf.S.ent (impl_ValueOf.f k)] 18
def h3 : Hd := ⟨[.I, .V, .I, .I], []⟩
def T3 {R : Type} (k : Nat) (K : X → St → Option R) : h3.Fn (Option R) := fun v0 v1 v2 v3 => l3 k v1 v2 (fun p0 => K (.exit 0) (stOf [2, 3] [.one (.l (.any)), .one (.l (.i .i64 p0))] [])) k v0 v3
def tab {R : Type} (k : Nat) : LTab R := fun id K vs hs => bif id == 3 then h3.tell vs hs (T3 k K) else none
theorem fit3 {R : Type} (k : Nat) : Fit (R := R) (G k) live (tab k) (bl Tryz.f228 0) := h3.fit (key := 3) (by kernel_rfl) (T3 k) (fun _ _ _ => rfl) fun K r v0 v1 v2 v3 h => fit_mk h (fun a => h3.mk' a.1 v1 v2 a.2) (fun v0 _ _ v3 => some (v0, v3)) rfl (fun _ => rfl) fun Lp a => by kernel_rfl
theorem con (k : Nat) : Con Tryz.prog S (f k) := con_fn (nt := 18) (live := live) (Λ := tab k) tok (all_cons (ok_con (impl_ValueOf.con k)) all_nil) mixed Tryz.func228 (by kernel_rfl) (all_cons (fit3 k) all_nil) fun x => by kernel_rfl
end impl_values

namespace impl_LeftPoints
def S : Sp := ⟨196, ⟨[29], [24], [.bor], .own⟩, [.agg .lent kd29], [.l .own (.ints .i64)]⟩
def live : List (Nat × List Nat) := [(3, [3, 8, 9, 10]), (100003, [2, 3])]
def G {R : Type} (k : Nat) : Glob R := mkG tt [impl_values.S.ent (impl_values.f k)] 21
def h3 : Hd := ⟨[.l (.own 0), .W, .I, .I], [.V]⟩
def T3 {R : Type} (k : Nat) (K : X → St → Option R) : h3.Fn (Option R) := fun v0 v1 v2 v3 => l3 k v0 v1 (fun p0 => K (.exit 0) (stOf [2, 3] [.one (.l (.any)), .one (.l (.own 0))] [some (.row 0 0 (.ints .i64 p0))])) k v2 v3
def tab {R : Type} (k : Nat) : LTab R := fun id K vs hs => bif id == 3 then h3.tell vs hs (T3 k K) else none
theorem fit3 {R : Type} (k : Nat) : Fit (R := R) (G k) live (tab k) (bl Tryz.f196 0) := h3.fit (key := 3) (by kernel_rfl) (T3 k) (fun _ _ _ => rfl) fun K r v0 v1 v2 v3 h => fit_mk h (fun a => h3.mk' v0 v1 a.1 a.2) (fun _ _ v2 v3 => some (v2, v3)) rfl (fun _ => rfl) fun Lp a => by kernel_rfl
theorem con (k : Nat) : Con Tryz.prog S (f k) := con_fn (nt := 21) (live := live) (Λ := tab k) tok (all_cons (ok_con (impl_values.con k)) all_nil) mixed Tryz.func196 (by kernel_rfl) (all_cons (fit3 k) all_nil) fun x => by kernel_rfl
end impl_LeftPoints

namespace impl_sum
def S : Sp := ⟨197, ⟨[24], [3], [.bor], .own⟩, [.V], [.O]⟩
def live : List (Nat × List Nat) := [(3, [3, 6, 7, 8]), (100003, [2, 3])]
def G {R : Type} (k : Nat) : Glob R := mkG tt [] 17
def h3 : Hd := ⟨[.I, .V, .I, .I], []⟩
def T3 {R : Type} (k : Nat) (K : X → St → Option R) : h3.Fn (Option R) := fun v0 v1 v2 v3 => l3 k v1 v2 (fun p0 => K (.exit 0) (stOf [2, 3] [.one (.l (.any)), .one (.l (.i .i64 p0))] [])) k v0 v3
def tab {R : Type} (k : Nat) : LTab R := fun id K vs hs => bif id == 3 then h3.tell vs hs (T3 k K) else none
theorem fit3 {R : Type} (k : Nat) : Fit (R := R) (G k) live (tab k) (bl Tryz.f197 0) := h3.fit (key := 3) (by kernel_rfl) (T3 k) (fun _ _ _ => rfl) fun K r v0 v1 v2 v3 h => fit_mk h (fun a => h3.mk' a.1 v1 v2 a.2) (fun v0 _ _ v3 => some (v0, v3)) rfl (fun _ => rfl) fun Lp a => by kernel_rfl
theorem con (k : Nat) : Con Tryz.prog S (f k) := con_fn (nt := 17) (live := live) (Λ := tab k) tok all_nil mixed Tryz.func197 (by kernel_rfl) (all_cons (fit3 k) all_nil) fun x => by kernel_rfl
end impl_sum

namespace impl_Settled
def S : Sp := ⟨127, ⟨[29], [24], [.bor], .own⟩, [.agg .lent kd29], [.l .own (.ints .i64)]⟩
def live : List (Nat × List Nat) := [(8, [3, 4, 5, 21, 22, 23]), (100008, [2, 3, 4, 5])]
def G {R : Type} (k : Nat) : Glob R := mkG tt [impl_IsGame.S.ent (impl_IsGame.f k), impl_Winner.S.ent (impl_Winner.f k), impl_LeftPoints.S.ent (impl_LeftPoints.f k), impl_sum.S.ent (impl_sum.f k)] 40
def h8 : Hd := ⟨[.I, .l (.own 0), .l (.own 1), .l (.own 0), .I, .I], [.V, .V]⟩
def T8 {R : Type} (k : Nat) (K : X → St → Option R) : h8.Fn (Option R) := fun v0 v1 v2 v3 v4 => l8 k v1 v3 (fun p0 => K (.exit 0) (stOf [2, 3, 4, 5] [.one (.l (.any)), .one (.l (.i .i64 v0)), .one (.l (.own 0)), .one (.l (.own 1))] [some (.row 0 0 (.ints .i64 v3)), some (.row 0 0 (.ints .i64 p0))])) k v2 v4
def tab {R : Type} (k : Nat) : LTab R := fun id K vs hs => bif id == 8 then h8.tell vs hs (T8 k K) else none
theorem fit8 {R : Type} (k : Nat) : Fit (R := R) (G k) live (tab k) (bl Tryz.f127 0) := h8.fit (key := 8) (by kernel_rfl) (T8 k) (fun _ _ _ => rfl) fun K r v0 v1 v2 v3 v4 h => fit_mk h (fun a => h8.mk' v0 v1 a.1 v3 a.2) (fun _ _ v2 _ v4 => some (v2, v4)) rfl (fun _ => rfl) fun Lp a => by kernel_rfl
theorem con (k : Nat) : Con Tryz.prog S (f k) := con_fn (nt := 40) (live := live) (Λ := tab k) tok (all_cons (ok_con (impl_IsGame.con k)) (all_cons (ok_con (impl_Winner.con k)) (all_cons (ok_con (impl_LeftPoints.con k)) (all_cons (ok_con (impl_sum.con k)) all_nil)))) mixed Tryz.func127 (by kernel_rfl) (all_cons (fit8 k) all_nil) fun x => by kernel_rfl
end impl_Settled

namespace impl_MatchRound
def S : Sp := ⟨42, ⟨[26, 3, 3, 24], [24], [.bor, .bor, .bor, .bor], .own⟩, [.agg .lent kd26, .I, .I, .V], [.l .own (.ints .i64)]⟩
def live : List (Nat × List Nat) := [(5, [1, 2, 3, 4, 9, 10, 38, 39, 40]), (100005, [1, 2, 4, 8, 9, 10]), (12, [9, 15, 69, 70, 71]), (100012, [8, 15])]
def G {R : Type} (k : Nat) : Glob R := mkG tt [impl_PlayOut.S.ent (impl_PlayOut.f k), impl_IsRules.S.ent (impl_IsRules.f k), impl_InRange.S.ent (impl_InRange.f k), impl_NewGame.S.ent (impl_NewGame.f k), impl_Shuffled.S.ent (impl_Shuffled.f k), impl_FullDeck.S.ent (impl_FullDeck.f k), impl_SeatsFor.S.ent (impl_SeatsFor.f k), impl_Hash.S.ent (impl_Hash.f k), impl_Settled.S.ent (impl_Settled.f k)] 85
def h5 : Hd := ⟨[.I, .I, .V, .l (.ptr 0 0), .l (.own 1), .l (.own 2), .l (.own 1), .I, .I], [.box [.I, .I, .b, .b, .V, .V, .I, .I], .V, .V]⟩
def T5 {R : Type} (k : Nat) (K : X → St → Option R) : h5.Fn (Option R) := fun v0 v1 v2 v3 v4 v5 v6 v7 v8 v9 v10 v11 v12 v13 v14 => l5 k v2 v3 v13 (fun p0 => K (.exit 0) (stOf [1, 2, 4, 8, 9, 10] [.one (.l (.i .i64 v0)), .one (.l (.i .i64 v1)), .one (.l (.bptr 0 0)), .one (.l (.any)), .one (.l (.own 1)), .one (.l (.own 2))] [some (.box 0 [.i .i64 v5, .i .i64 v6, .b v7, .b v8, .val false (.ints .i64 v9), .val false (.ints .i64 v10), .i .i64 v11, .i .i64 v12]), some (.row 0 0 (.ints .i64 v13)), some (.row 0 0 (.ints .i64 p0))])) k v4 v14
def h12 : Hd := ⟨[.l (.own 0), .l (.own 1), .l (.own 2), .I, .I], [.V, .V, .V]⟩
def T12 {R : Type} (k : Nat) (K : X → St → Option R) : h12.Fn (Option R) := fun v0 v1 v2 v3 v4 => l12 k v0 v2 v4 (fun p0 => K (.exit 2) (stOf [8, 15] [.one (.l (.any)), .one (.l (.own 0))] [some (.row 0 0 (.ints .i64 p0))])) k v1 v3
def tab {R : Type} (k : Nat) : LTab R := fun id K vs hs => bif id == 5 then h5.tell vs hs (T5 k K) else bif id == 12 then h12.tell vs hs (T12 k K) else none
theorem fit5 {R : Type} (k : Nat) : Fit (R := R) (G k) live (tab k) (bl Tryz.f42 0) := h5.fit (key := 5) (by kernel_rfl) (T5 k) (fun _ _ _ => rfl) fun K r v0 v1 v2 v3 v4 v5 v6 v7 v8 v9 v10 v11 v12 v13 v14 h => fit_mk h (fun a => h5.mk' v0 v1 v2 v3 a.1 v5 v6 v7 v8 v9 v10 v11 v12 v13 a.2) (fun _ _ _ _ v4 _ _ _ _ _ _ _ _ _ v14 => some (v4, v14)) rfl (fun _ => rfl) fun Lp a => by kernel_rfl
theorem fit12 {R : Type} (k : Nat) : Fit (R := R) (G k) live (tab k) (bl Tryz.f42 1) := h12.fit (key := 12) (by kernel_rfl) (T12 k) (fun _ _ _ => rfl) fun K r v0 v1 v2 v3 v4 h => fit_mk h (fun a => h12.mk' v0 a.1 v2 a.2 v4) (fun _ v1 _ v3 _ => some (v1, v3)) rfl (fun _ => rfl) fun Lp a => by kernel_rfl
theorem con (k : Nat) : Con Tryz.prog S (f k) := con_fn (nt := 85) (live := live) (Λ := tab k) tok (all_cons (ok_con (impl_PlayOut.con k)) (all_cons (ok_con (impl_IsRules.con k)) (all_cons (ok_con (impl_InRange.con k)) (all_cons (ok_con (impl_NewGame.con k)) (all_cons (ok_con (impl_Shuffled.con k)) (all_cons (ok_con (impl_FullDeck.con k)) (all_cons (ok_con (impl_SeatsFor.con k)) (all_cons (ok_con (impl_Hash.con k)) (all_cons (ok_con (impl_Settled.con k)) all_nil))))))))) mixed Tryz.func42 (by kernel_rfl) (all_cons (fit5 k) (all_cons (fit12 k) all_nil)) fun x => by kernel_rfl
end impl_MatchRound

namespace laws_eqIntS
def S : Sp := ⟨43, ⟨[24, 24], [4], [.bor, .bor], .own⟩, [.V, .V], [.B]⟩
def live : List (Nat × List Nat) := [(4, [0, 1, 5]), (100004, [4])]
def G {R : Type} (k : Nat) : Glob R := mkG tt [] 26
def h4 : Hd := ⟨[.V, .V, .I], []⟩
def T4 {R : Type} (k : Nat) (K : X → St → Option R) : h4.Fn (Option R) := fun v0 v1 v2 => l4 k v0 v1 (K .ret (stOf [4] [.one (.l (.b false))] [])) (K (.exit 0) (stOf [4] [.one (.l (.any))] [])) k v2
def tab {R : Type} (k : Nat) : LTab R := fun id K vs hs => bif id == 4 then h4.tell vs hs (T4 k K) else none
theorem fit4 {R : Type} (k : Nat) : Fit (R := R) (G k) live (tab k) (bl Tryz.f43 0) := h4.fit (key := 4) (by kernel_rfl) (T4 k) (fun _ _ _ => rfl) fun K r v0 v1 v2 h => fit_mk h (fun a => h4.mk' v0 v1 a) (fun _ _ v2 => some v2) rfl (fun _ => rfl) fun Lp a => by kernel_rfl
theorem con (k : Nat) : Con Tryz.prog S (f k) := con_fn (nt := 26) (live := live) (Λ := tab k) tok all_nil mixed Tryz.func43 (by kernel_rfl) (all_cons (fit4 k) all_nil) fun x => by kernel_rfl
end laws_eqIntS

namespace laws_eqRules
def S : Sp := ⟨44, ⟨[26, 26], [4], [.bor, .bor], .own⟩, [.agg .lent kd26, .agg .lent kd26], [.B]⟩
theorem con (k : Nat) : Con Tryz.prog S (f k) := con_fn (nt := 47) (live := []) (Λ := noL) tok (all_cons (ok_con (laws_eqIntS.con k)) all_nil) mixed Tryz.func44 (by kernel_rfl) all_nil fun x => by kernel_rfl
end laws_eqRules

namespace laws_markIntS
def S : Sp := ⟨46, ⟨[24, 3], [3], [.io, .bor], .own⟩, [.l .own (.ints .i64), .I], [.O, .l .own (.ints .i64)]⟩
def live : List (Nat × List Nat) := [(2, [0, 1, 5, 19]), (100002, [1, 4, 19])]
def G {R : Type} (k : Nat) : Glob R := mkG tt [] 19
def h2 : Hd := ⟨[.l (.own 0), .I, .I, .l (.own 0)], [.V]⟩
def T2 {R : Type} (k : Nat) (K : X → St → Option R) : h2.Fn (Option R) := fun v0 v1 v2 => l2 k (fun p0 p1 => K (.exit 0) (stOf [1, 4, 19] [.one (.l (.i .i64 p0)), .one (.l (.any)), .one (.l (.own 0))] [some (.row 0 0 (.ints .i64 p1))])) k v0 v1 v2
def tab {R : Type} (k : Nat) : LTab R := fun id K vs hs => bif id == 2 then h2.tell vs hs (T2 k K) else none
theorem fit2 {R : Type} (k : Nat) : Fit (R := R) (G k) live (tab k) (bl Tryz.f46 0) := h2.fit (key := 2) (by kernel_rfl) (T2 k) (fun _ _ _ => rfl) fun K r v0 v1 v2 h => fit_mk h (fun a => h2.mk' a.1 a.2.1 (t2 a)) (fun v0 v1 v2 => some (v0, v1, v2)) rfl (fun _ => rfl) fun Lp a => by kernel_rfl
theorem con (k : Nat) : Con Tryz.prog S (f k) := con_fn (nt := 19) (live := live) (Λ := tab k) tok all_nil mixed Tryz.func46 (by kernel_rfl) (all_cons (fit2 k) all_nil) fun x => by kernel_rfl
end laws_markIntS

namespace laws_markRules
def S : Sp := ⟨45, ⟨[26, 3], [3], [.io, .bor], .own⟩, [.agg .own kd26, .I], [.O, .agg .own kd26]⟩
theorem con (k : Nat) : Con Tryz.prog S (f k) := con_fn (nt := 14) (live := []) (Λ := noL) tok (all_cons (ok_con (laws_markIntS.con k)) all_nil) mixed Tryz.func45 (by kernel_rfl) all_nil fun x => by kernel_rfl
end laws_markRules

namespace laws_heldIntS
def S : Sp := ⟨47, ⟨[24, 3], [3], [.bor, .bor], .own⟩, [.V, .I], [.O]⟩
def live : List (Nat × List Nat) := [(2, [0, 1, 5]), (100002, [1, 4])]
def G {R : Type} (k : Nat) : Glob R := mkG tt [] 21
def h2 : Hd := ⟨[.V, .I, .I], []⟩
def T2 {R : Type} (k : Nat) (K : X → St → Option R) : h2.Fn (Option R) := fun v0 v1 v2 => l2 k v0 (fun p0 => K .ret (stOf [1, 4] [.one (.l (.i .i64 p0)), .one (.l (.i .i64 (-1)))] [])) (fun p0 => K (.exit 0) (stOf [1, 4] [.one (.l (.i .i64 p0)), .one (.l (.any))] [])) k v1 v2
def tab {R : Type} (k : Nat) : LTab R := fun id K vs hs => bif id == 2 then h2.tell vs hs (T2 k K) else none
theorem fit2 {R : Type} (k : Nat) : Fit (R := R) (G k) live (tab k) (bl Tryz.f47 0) := h2.fit (key := 2) (by kernel_rfl) (T2 k) (fun _ _ _ => rfl) fun K r v0 v1 v2 h => fit_mk h (fun a => h2.mk' v0 a.1 a.2) (fun _ v1 v2 => some (v1, v2)) rfl (fun _ => rfl) fun Lp a => by kernel_rfl
theorem con (k : Nat) : Con Tryz.prog S (f k) := con_fn (nt := 21) (live := live) (Λ := tab k) tok all_nil mixed Tryz.func47 (by kernel_rfl) (all_cons (fit2 k) all_nil) fun x => by kernel_rfl
end laws_heldIntS

namespace laws_FnExactMatchRound
def S : Sp := ⟨5, ⟨[57, 3, 3, 24], [4], [.bor, .bor, .bor, .bor], .own⟩, [.agg .lent kd26, .I, .I, .V], [.B]⟩
theorem con (k : Nat) : Con Tryz.prog S (f k) := con_fn (nt := 100) (live := []) (Λ := noL) tok (all_cons (ok_con (laws_szRules.con k)) (all_cons (ok_con (spec_MatchRound.con k)) (all_cons (ok_con (laws_toRules.con k)) (all_cons (ok_con (laws_toIntS.con k)) (all_cons (ok_con (impl_MatchRound.con k)) (all_cons (ok_con (laws_eqIntS.con k)) (all_cons (ok_con (laws_eqRules.con k)) (all_cons (ok_con (laws_markRules.con k)) (all_cons (ok_con (laws_markIntS.con k)) (all_cons (ok_con (laws_heldIntS.con k)) all_nil)))))))))) mixed Tryz.func5 (by kernel_rfl) all_nil fun x => by kernel_rfl
end laws_FnExactMatchRound
end Go.Proofs.YtmdfedjdnjaaiaaGreat
