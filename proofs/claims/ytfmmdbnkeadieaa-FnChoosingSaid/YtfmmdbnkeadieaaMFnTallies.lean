/- That the Go functions come to the answers of the plain ones. Printed by a program. -/
import Derived.Test.YtfmmdbnkeadieaaT
import Derived.Test.YtfmmdbnkeadieaaFFnTallies
set_option linter.unusedVariables false
set_option maxRecDepth 100000
set_option maxHeartbeats 20000000
namespace Go.Proofs.Ytfmmdbnkeadieaa
open Go Go.Proofs.Ytfmmdbnkeadieaa.V Go.Proofs.Ytfmmdbnkeadieaa.M

namespace laws_big
def S : Sp := ⟨27, ⟨[57], [4], [.frz], .own⟩, [.l .frz (.ints .u8)], [.B]⟩
theorem con (k : Nat) : Con Try.prog S (f k) := con_fn (nt := 6) (live := []) (Λ := noL) tok all_nil mixed Try.func27 (by kernel_rfl) all_nil fun x => by kernel_rfl
end laws_big

namespace spec_l1In
def S : Sp := ⟨127, ⟨[3, 3, 3], [4], [.bor, .bor, .bor], .own⟩, [.I, .I, .I], [.B]⟩
theorem con (k : Nat) : Con Try.prog S (f k) := con_fn (nt := 15) (live := []) (Λ := noL) tok all_nil mixed Try.func127 (by kernel_rfl) all_nil fun x => by kernel_rfl
end spec_l1In

namespace spec_IsCard
def S : Sp := ⟨122, ⟨[3], [4], [.bor], .own⟩, [.I], [.B]⟩
theorem con (k : Nat) : Con Try.prog S (f k) := con_fn (nt := 5) (live := []) (Λ := noL) tok (all_cons (ok_con (spec_l1In.con k)) all_nil) mixed Try.func122 (by kernel_rfl) all_nil fun x => by kernel_rfl
end spec_IsCard

namespace spec_SuitOf
def S : Sp := ⟨118, ⟨[3], [3], [.bor], .own⟩, [.I], [.O]⟩
theorem con (k : Nat) : Con Try.prog S (f k) := con_fn (nt := 8) (live := []) (Λ := noL) tok (all_cons (ok_con (spec_IsCard.con k)) all_nil) mixed Try.func118 (by kernel_rfl) all_nil fun x => by kernel_rfl
end spec_SuitOf

namespace spec_HasCard
def S : Sp := ⟨115, ⟨[22, 3], [4], [.bor, .bor], .own⟩, [.V, .I], [.B]⟩
def live : List (Nat × List Nat) := [(2, [0, 1, 5]), (100002, [4])]
def G {R : Type} (k : Nat) : Glob R := mkG tt [] 18
def h2 : Hd := ⟨[.V, .I, .I], []⟩
def T2 {R : Type} (k : Nat) (K : X → St → Option R) : h2.Fn (Option R) := fun v0 v1 v2 => l2 k v0 v1 (K .ret (stOf [4] [.one (.l (.b true))] [])) (K (.exit 0) (stOf [4] [.one (.l (.any))] [])) k v2
def tab {R : Type} (k : Nat) : LTab R := fun id K vs hs => bif id == 2 then h2.tell vs hs (T2 k K) else none
theorem fit2 {R : Type} (k : Nat) : Fit (R := R) (G k) live (tab k) (bl Try.f115 0) := h2.fit (key := 2) (by kernel_rfl) (T2 k) (fun _ _ _ => rfl) fun K r v0 v1 v2 h => fit_mk h (fun a => h2.mk' v0 v1 a) (fun _ _ v2 => some v2) (by kernel_rfl) (fun _ => by kernel_rfl) fun Lp a => by kernel_rfl
theorem con (k : Nat) : Con Try.prog S (f k) := con_fn (nt := 18) (live := live) (Λ := tab k) tok all_nil mixed Try.func115 (by kernel_rfl) (all_cons (fit2 k) all_nil) fun x => by kernel_rfl
end spec_HasCard

namespace spec_IsHand
def S : Sp := ⟨67, ⟨[22], [4], [.bor], .own⟩, [.V], [.B]⟩
def live : List (Nat × List Nat) := [(2, [0, 3]), (100002, [2])]
def G {R : Type} (k : Nat) : Glob R := mkG tt [spec_HasCard.S.ent (spec_HasCard.f k), spec_IsCard.S.ent (spec_IsCard.f k)] 26
def h2 : Hd := ⟨[.V, .I], []⟩
def T2 {R : Type} (k : Nat) (K : X → St → Option R) : h2.Fn (Option R) := fun v0 v1 => l2 k v0 (K .ret (stOf [2] [.one (.l (.b false))] [])) (K (.exit 0) (stOf [2] [.one (.l (.any))] [])) k v1
def tab {R : Type} (k : Nat) : LTab R := fun id K vs hs => bif id == 2 then h2.tell vs hs (T2 k K) else none
theorem fit2 {R : Type} (k : Nat) : Fit (R := R) (G k) live (tab k) (bl Try.f67 0) := h2.fit (key := 2) (by kernel_rfl) (T2 k) (fun _ _ _ => rfl) fun K r v0 v1 h => fit_mk h (fun a => h2.mk' v0 a) (fun _ v1 => some v1) (by kernel_rfl) (fun _ => by kernel_rfl) fun Lp a => by kernel_rfl
theorem con (k : Nat) : Con Try.prog S (f k) := con_fn (nt := 26) (live := live) (Λ := tab k) tok (all_cons (ok_con (spec_HasCard.con k)) (all_cons (ok_con (spec_IsCard.con k)) all_nil)) mixed Try.func67 (by kernel_rfl) (all_cons (fit2 k) all_nil) fun x => by kernel_rfl
end spec_IsHand

namespace spec_l8Leaf
def S : Sp := ⟨205, ⟨[3], [4], [.bor], .own⟩, [.I], [.B]⟩
theorem con (k : Nat) : Con Try.prog S (f k) := con_fn (nt := 17) (live := []) (Λ := noL) tok (all_cons (ok_con (spec_l1In.con k)) all_nil) mixed Try.func205 (by kernel_rfl) all_nil fun x => by kernel_rfl
end spec_l8Leaf

namespace spec_IsPattern
def S : Sp := ⟨202, ⟨[22], [4], [.bor], .own⟩, [.V], [.B]⟩
def live : List (Nat × List Nat) := [(3, [0, 3, 4]), (100003, [0, 2, 3])]
def G {R : Type} (k : Nat) : Glob R := mkG tt [spec_l8Leaf.S.ent (spec_l8Leaf.f k)] 55
def h3 : Hd := ⟨[.V, .I, .I], []⟩
def T3 {R : Type} (k : Nat) (K : X → St → Option R) : h3.Fn (Option R) := fun v0 v1 v2 => l3 k v0 (fun p0 => K .ret (stOf [0, 2, 3] [.one (.l (.val false (.ints .i64 v0))), .one (.l (.b false)), .one (.l (.i .i64 p0))] [])) (fun p0 => K (.exit 0) (stOf [0, 2, 3] [.one (.l (.val false (.ints .i64 v0))), .one (.l (.any)), .one (.l (.i .i64 p0))] [])) k v1 v2
def tab {R : Type} (k : Nat) : LTab R := fun id K vs hs => bif id == 3 then h3.tell vs hs (T3 k K) else none
theorem fit3 {R : Type} (k : Nat) : Fit (R := R) (G k) live (tab k) (bl Try.f202 0) := h3.fit (key := 3) (by kernel_rfl) (T3 k) (fun _ _ _ => rfl) fun K r v0 v1 v2 h => fit_mk h (fun a => h3.mk' v0 a.1 a.2) (fun _ v1 v2 => some (v1, v2)) (by kernel_rfl) (fun _ => by kernel_rfl) fun Lp a => by kernel_rfl
theorem con (k : Nat) : Con Try.prog S (f k) := con_fn (nt := 55) (live := live) (Λ := tab k) tok (all_cons (ok_con (spec_l8Leaf.con k)) all_nil) mixed Try.func202 (by kernel_rfl) (all_cons (fit3 k) all_nil) fun x => by kernel_rfl
end spec_IsPattern

namespace spec_l22Pattern
def S : Sp := ⟨187, ⟨[22], [4], [.bor], .own⟩, [.V], [.B]⟩
theorem con (k : Nat) : Con Try.prog S (f k) := con_fn (nt := 10) (live := []) (Λ := noL) tok (all_cons (ok_con (spec_IsPattern.con k)) all_nil) mixed Try.func187 (by kernel_rfl) all_nil fun x => by kernel_rfl
end spec_l22Pattern

namespace spec_IsRules
def S : Sp := ⟨157, ⟨[36], [4], [.bor], .own⟩, [.agg .lent kd36], [.B]⟩
theorem con (k : Nat) : Con Try.prog S (f k) := con_fn (nt := 39) (live := []) (Λ := noL) tok (all_cons (ok_con (spec_l1In.con k)) (all_cons (ok_con (spec_l22Pattern.con k)) all_nil)) mixed Try.func157 (by kernel_rfl) all_nil fun x => by kernel_rfl
end spec_IsRules

namespace spec_IsGame
def S : Sp := ⟨104, ⟨[38], [4], [.bor], .own⟩, [.agg .lent kd38], [.B]⟩
def live : List (Nat × List Nat) := [(5, [1, 3, 4]), (100005, [2, 3])]
def G {R : Type} (k : Nat) : Glob R := mkG tt [spec_IsHand.S.ent (spec_IsHand.f k), spec_l1In.S.ent (spec_l1In.f k), spec_IsRules.S.ent (spec_IsRules.f k)] 79
def h5 : Hd := ⟨[.l (.ptr 0 0), .l (.own 1), .I], [.box [.I, .I, .b, .b, .V, .V, .I, .I, .W, .V, .V, .I, .I, .I], .V]⟩
def T5 {R : Type} (k : Nat) (K : X → St → Option R) : h5.Fn (Option R) := fun v0 _ _ _ _ _ _ _ _ v9 _ _ _ _ _ v15 => l5 k v9 (fun p0 => K (.exit 0) (stOf [2, 3] [.one (.l (.any)), .one (.l (.own 0))] [some (.row 0 0 (.ints .i64 p0))])) k v0 v15
def tab {R : Type} (k : Nat) : LTab R := fun id K vs hs => bif id == 5 then h5.tell vs hs (T5 k K) else none
theorem fit5 {R : Type} (k : Nat) : Fit (R := R) (G k) live (tab k) (bl Try.f104 0) := h5.fit (key := 5) (by kernel_rfl) (T5 k) (fun _ _ _ => rfl) fun K r v0 v1 v2 v3 v4 v5 v6 v7 v8 v9 v10 v11 v12 v13 v14 v15 h => fit_mk h (fun a => h5.mk' a.1 v1 v2 v3 v4 v5 v6 v7 v8 v9 v10 v11 v12 v13 v14 a.2) (fun v0 _ _ _ _ _ _ _ _ _ _ _ _ _ _ v15 => some (v0, v15)) (by kernel_rfl) (fun _ => by kernel_rfl) fun Lp a => by kernel_rfl
theorem con (k : Nat) : Con Try.prog S (f k) := con_fn (nt := 79) (live := live) (Λ := tab k) tok (all_cons (ok_con (spec_IsHand.con k)) (all_cons (ok_con (spec_l1In.con k)) (all_cons (ok_con (spec_IsRules.con k)) all_nil))) mixed Try.func104 (by kernel_rfl) (all_cons (fit5 k) all_nil) fun x => by kernel_rfl
end spec_IsGame

namespace spec_l24First
def S : Sp := ⟨158, ⟨[38], [3], [.bor], .own⟩, [.agg .lent kd38], [.O]⟩
def live : List (Nat × List Nat) := [(2, [1, 3]), (100002, [2])]
def G {R : Type} (k : Nat) : Glob R := mkG tt [] 19
def h2 : Hd := ⟨[.l (.ptr 0 0), .I], [.box [.I, .I, .b, .b, .V, .V, .I, .I, .W, .V, .V, .I, .I, .I]]⟩
def T2 {R : Type} (k : Nat) (K : X → St → Option R) : h2.Fn (Option R) := fun v0 _ _ _ _ _ _ _ _ v9 _ _ _ _ _ => l2 k v9 (fun p0 => K .ret (stOf [2] [.one (.l (.i .i64 p0))] [])) (K (.exit 0) (stOf [2] [.one (.l (.any))] [])) k v0
def tab {R : Type} (k : Nat) : LTab R := fun id K vs hs => bif id == 2 then h2.tell vs hs (T2 k K) else none
theorem fit2 {R : Type} (k : Nat) : Fit (R := R) (G k) live (tab k) (bl Try.f158 0) := h2.fit (key := 2) (by kernel_rfl) (T2 k) (fun _ _ _ => rfl) fun K r v0 v1 v2 v3 v4 v5 v6 v7 v8 v9 v10 v11 v12 v13 v14 h => fit_mk h (fun a => h2.mk' a v1 v2 v3 v4 v5 v6 v7 v8 v9 v10 v11 v12 v13 v14) (fun v0 _ _ _ _ _ _ _ _ _ _ _ _ _ _ => some v0) (by kernel_rfl) (fun _ => by kernel_rfl) fun Lp a => by kernel_rfl
theorem con (k : Nat) : Con Try.prog S (f k) := con_fn (nt := 19) (live := live) (Λ := tab k) tok all_nil mixed Try.func158 (by kernel_rfl) (all_cons (fit2 k) all_nil) fun x => by kernel_rfl
end spec_l24First

namespace spec_l24Over
def S : Sp := ⟨105, ⟨[38], [4], [.bor], .own⟩, [.agg .lent kd38], [.B]⟩
theorem con (k : Nat) : Con Try.prog S (f k) := con_fn (nt := 22) (live := []) (Λ := noL) tok (all_cons (ok_con (spec_l24First.con k)) all_nil) mixed Try.func105 (by kernel_rfl) all_nil fun x => by kernel_rfl
end spec_l24Over

namespace spec_Sorted
def S : Sp := ⟨188, ⟨[22], [22], [.bor], .own⟩, [.V], [.l .own (.ints .i64)]⟩
def live : List (Nat × List Nat) := [(6, [0, 3, 4, 5]), (100006, [0, 2, 3, 4, 5]), (3, [0, 3, 4]), (100003, [2, 3])]
def G {R : Type} (k : Nat) : Glob R := mkG tt [] 47
def h6 : Hd := ⟨[.V, .l (.own 0), .I, .I], [.V]⟩
def T6 {R : Type} (k : Nat) (K : X → St → Option R) : h6.Fn (Option R) := fun v0 v1 v2 v3 => l6 k v0 v1 v3 (fun p0 => K (.exit 2) (stOf [0, 2, 3, 4, 5] [.one (.l (.val false (.ints .i64 v0))), .one (.l (.any)), .one (.l (.own 0)), .one (.l (.i .i64 v1)), .one (.l (.i .i64 p0))] [some (.row 0 0 (.ints .i64 v3))])) k v2
def h3 : Hd := ⟨[.V, .l (.own 0), .I], [.V]⟩
def T3 {R : Type} (k : Nat) (K : X → St → Option R) : h3.Fn (Option R) := fun v0 v1 v2 => l3 k v0 (fun p0 => K (.exit 0) (stOf [2, 3] [.one (.l (.any)), .one (.l (.own 0))] [some (.row 0 0 (.ints .i64 p0))])) k v1 v2
def tab {R : Type} (k : Nat) : LTab R := fun id K vs hs => bif id == 6 then h6.tell vs hs (T6 k K) else bif id == 3 then h3.tell vs hs (T3 k K) else none
theorem fit3 {R : Type} (k : Nat) : Fit (R := R) (G k) live (tab k) (bl Try.f188 0) := h3.fit (key := 3) (by kernel_rfl) (T3 k) (fun _ _ _ => rfl) fun K r v0 v1 v2 h => fit_mk h (fun a => h3.mk' v0 a.1 a.2) (fun _ v1 v2 => some (v1, v2)) (by kernel_rfl) (fun _ => by kernel_rfl) fun Lp a => by kernel_rfl
theorem fit6 {R : Type} (k : Nat) : Fit (R := R) (G k) live (tab k) (bl Try.f188 1) := h6.fit (key := 6) (by kernel_rfl) (T6 k) (fun _ _ _ => rfl) fun K r v0 v1 v2 v3 h => fit_mk h (fun a => h6.mk' v0 v1 a v3) (fun _ _ v2 _ => some v2) (by kernel_rfl) (fun _ => by kernel_rfl) fun Lp a => by kernel_rfl
theorem con (k : Nat) : Con Try.prog S (f k) := con_fn (nt := 47) (live := live) (Λ := tab k) tok all_nil mixed Try.func188 (by kernel_rfl) (all_cons (fit3 k) (all_cons (fit6 k) all_nil)) fun x => by kernel_rfl
end spec_Sorted

namespace spec_RankOf
def S : Sp := ⟨166, ⟨[3], [3], [.bor], .own⟩, [.I], [.O]⟩
theorem con (k : Nat) : Con Try.prog S (f k) := con_fn (nt := 8) (live := []) (Λ := noL) tok (all_cons (ok_con (spec_IsCard.con k)) all_nil) mixed Try.func166 (by kernel_rfl) all_nil fun x => by kernel_rfl
end spec_RankOf

namespace spec_IsRed
def S : Sp := ⟨193, ⟨[3], [4], [.bor], .own⟩, [.I], [.B]⟩
theorem con (k : Nat) : Con Try.prog S (f k) := con_fn (nt := 6) (live := []) (Λ := noL) tok (all_cons (ok_con (spec_SuitOf.con k)) (all_cons (ok_con (spec_l1In.con k)) all_nil)) mixed Try.func193 (by kernel_rfl) all_nil fun x => by kernel_rfl
end spec_IsRed

namespace spec_l8Value
def S : Sp := ⟨203, ⟨[3, 3], [4], [.bor, .bor], .own⟩, [.I, .I], [.B]⟩
theorem con (k : Nat) : Con Try.prog S (f k) := con_fn (nt := 31) (live := []) (Λ := noL) tok (all_cons (ok_con (spec_SuitOf.con k)) (all_cons (ok_con (spec_RankOf.con k)) (all_cons (ok_con (spec_IsRed.con k)) all_nil))) mixed Try.func203 (by kernel_rfl) all_nil fun x => by kernel_rfl
end spec_l8Value

namespace spec_Matches
def S : Sp := ⟨192, ⟨[22, 3], [4], [.bor, .bor], .own⟩, [.V, .I], [.B]⟩
def live : List (Nat × List Nat) := [(5, [0, 1, 5, 6]), (100005, [4, 5])]
def G {R : Type} (k : Nat) : Glob R := mkG tt [spec_IsCard.S.ent (spec_IsCard.f k), spec_IsPattern.S.ent (spec_IsPattern.f k), spec_l8Value.S.ent (spec_l8Value.f k)] 93
def h5 : Hd := ⟨[.V, .I, .l (.own 0), .I], [.row false .bools]⟩
def T5 {R : Type} (k : Nat) (K : X → St → Option R) : h5.Fn (Option R) := fun v0 v1 v2 v3 => l5 k v0 v1 (fun p0 => K (.exit 0) (stOf [4, 5] [.one (.l (.any)), .one (.l (.own 0))] [some (.row 0 0 (.bools p0))])) k v2 v3
def tab {R : Type} (k : Nat) : LTab R := fun id K vs hs => bif id == 5 then h5.tell vs hs (T5 k K) else none
theorem fit5 {R : Type} (k : Nat) : Fit (R := R) (G k) live (tab k) (bl Try.f192 0) := h5.fit (key := 5) (by kernel_rfl) (T5 k) (fun _ _ _ => rfl) fun K r v0 v1 v2 v3 h => fit_mk h (fun a => h5.mk' v0 v1 a.1 a.2) (fun _ _ v2 v3 => some (v2, v3)) (by kernel_rfl) (fun _ => by kernel_rfl) fun Lp a => by kernel_rfl
theorem con (k : Nat) : Con Try.prog S (f k) := con_fn (nt := 93) (live := live) (Λ := tab k) tok (all_cons (ok_con (spec_IsCard.con k)) (all_cons (ok_con (spec_IsPattern.con k)) (all_cons (ok_con (spec_l8Value.con k)) all_nil))) mixed Try.func192 (by kernel_rfl) (all_cons (fit5 k) all_nil) fun x => by kernel_rfl
end spec_Matches

namespace spec_FitsOn
def S : Sp := ⟨189, ⟨[36, 3, 3], [4], [.bor, .bor, .bor], .own⟩, [.agg .lent kd36, .I, .I], [.B]⟩
theorem con (k : Nat) : Con Try.prog S (f k) := con_fn (nt := 46) (live := []) (Λ := noL) tok (all_cons (ok_con (spec_SuitOf.con k)) (all_cons (ok_con (spec_IsCard.con k)) (all_cons (ok_con (spec_IsRules.con k)) (all_cons (ok_con (spec_RankOf.con k)) (all_cons (ok_con (spec_Matches.con k)) all_nil))))) mixed Try.func189 (by kernel_rfl) all_nil fun x => by kernel_rfl
end spec_FitsOn

namespace spec_Playable
def S : Sp := ⟨159, ⟨[38], [22], [.bor], .own⟩, [.agg .lent kd38], [.l .own (.ints .i64)]⟩
def live : List (Nat × List Nat) := [(6, [1, 3, 4, 5]), (100006, [2, 3])]
def G {R : Type} (k : Nat) : Glob R := mkG tt [spec_IsGame.S.ent (spec_IsGame.f k), spec_l24Over.S.ent (spec_l24Over.f k), spec_Sorted.S.ent (spec_Sorted.f k), spec_FitsOn.S.ent (spec_FitsOn.f k)] 51
def h6 : Hd := ⟨[.l (.ptr 0 0), .l (.own 1), .l (.own 2), .I], [.box [.I, .I, .b, .b, .V, .V, .I, .I, .W, .V, .V, .I, .I, .I], .V, .V]⟩
def T6 {R : Type} (k : Nat) (K : X → St → Option R) : h6.Fn (Option R) := fun v0 v1 v2 v3 v4 v5 v6 v7 v8 _ _ v11 _ _ _ v15 v16 => l6 k v1 v2 v3 v4 v5 v6 v7 v8 v11 v16 (fun p0 => K (.exit 0) (stOf [2, 3] [.one (.l (.any)), .one (.l (.own 0))] [some (.row 0 0 (.ints .i64 p0))])) k v0 v15
def tab {R : Type} (k : Nat) : LTab R := fun id K vs hs => bif id == 6 then h6.tell vs hs (T6 k K) else none
theorem fit6 {R : Type} (k : Nat) : Fit (R := R) (G k) live (tab k) (bl Try.f159 0) := h6.fit (key := 6) (by kernel_rfl) (T6 k) (fun _ _ _ => rfl) fun K r v0 v1 v2 v3 v4 v5 v6 v7 v8 v9 v10 v11 v12 v13 v14 v15 v16 h => fit_mk h (fun a => h6.mk' a.1 v1 v2 v3 v4 v5 v6 v7 v8 v9 v10 v11 v12 v13 v14 a.2 v16) (fun v0 _ _ _ _ _ _ _ _ _ _ _ _ _ _ v15 _ => some (v0, v15)) (by kernel_rfl) (fun _ => by kernel_rfl) fun Lp a => by kernel_rfl
theorem con (k : Nat) : Con Try.prog S (f k) := con_fn (nt := 51) (live := live) (Λ := tab k) tok (all_cons (ok_con (spec_IsGame.con k)) (all_cons (ok_con (spec_l24Over.con k)) (all_cons (ok_con (spec_Sorted.con k)) (all_cons (ok_con (spec_FitsOn.con k)) all_nil)))) mixed Try.func159 (by kernel_rfl) (all_cons (fit6 k) all_nil) fun x => by kernel_rfl
end spec_Playable

namespace spec_SuitCounts
def S : Sp := ⟨160, ⟨[22], [22], [.bor], .own⟩, [.V], [.l .own (.ints .i64)]⟩
def live : List (Nat × List Nat) := [(3, [0, 3, 4]), (100003, [2, 3])]
def G {R : Type} (k : Nat) : Glob R := mkG tt [spec_SuitOf.S.ent (spec_SuitOf.f k)] 29
def h3 : Hd := ⟨[.V, .l (.own 0), .I], [.V]⟩
def T3 {R : Type} (k : Nat) (K : X → St → Option R) : h3.Fn (Option R) := fun v0 v1 v2 => l3 k v0 (fun p0 => K (.exit 0) (stOf [2, 3] [.one (.l (.any)), .one (.l (.own 0))] [some (.row 0 0 (.ints .i64 p0))])) k v1 v2
def tab {R : Type} (k : Nat) : LTab R := fun id K vs hs => bif id == 3 then h3.tell vs hs (T3 k K) else none
theorem fit3 {R : Type} (k : Nat) : Fit (R := R) (G k) live (tab k) (bl Try.f160 0) := h3.fit (key := 3) (by kernel_rfl) (T3 k) (fun _ _ _ => rfl) fun K r v0 v1 v2 h => fit_mk h (fun a => h3.mk' v0 a.1 a.2) (fun _ v1 v2 => some (v1, v2)) (by kernel_rfl) (fun _ => by kernel_rfl) fun Lp a => by kernel_rfl
theorem con (k : Nat) : Con Try.prog S (f k) := con_fn (nt := 29) (live := live) (Λ := tab k) tok (all_cons (ok_con (spec_SuitOf.con k)) all_nil) mixed Try.func160 (by kernel_rfl) (all_cons (fit3 k) all_nil) fun x => by kernel_rfl
end spec_SuitCounts

namespace spec_MostOf
def S : Sp := ⟨161, ⟨[22], [3], [.bor], .own⟩, [.V], [.O]⟩
def live : List (Nat × List Nat) := [(3, [0, 3, 4]), (100003, [2, 3])]
def G {R : Type} (k : Nat) : Glob R := mkG tt [] 26
def h3 : Hd := ⟨[.V, .I, .I], []⟩
def T3 {R : Type} (k : Nat) (K : X → St → Option R) : h3.Fn (Option R) := fun v0 v1 v2 => l3 k v0 (fun p0 => K (.exit 0) (stOf [2, 3] [.one (.l (.any)), .one (.l (.i .i64 p0))] [])) k v1 v2
def tab {R : Type} (k : Nat) : LTab R := fun id K vs hs => bif id == 3 then h3.tell vs hs (T3 k K) else none
theorem fit3 {R : Type} (k : Nat) : Fit (R := R) (G k) live (tab k) (bl Try.f161 0) := h3.fit (key := 3) (by kernel_rfl) (T3 k) (fun _ _ _ => rfl) fun K r v0 v1 v2 h => fit_mk h (fun a => h3.mk' v0 a.1 a.2) (fun _ v1 v2 => some (v1, v2)) (by kernel_rfl) (fun _ => by kernel_rfl) fun Lp a => by kernel_rfl
theorem con (k : Nat) : Con Try.prog S (f k) := con_fn (nt := 26) (live := live) (Λ := tab k) tok all_nil mixed Try.func161 (by kernel_rfl) (all_cons (fit3 k) all_nil) fun x => by kernel_rfl
end spec_MostOf

namespace spec_ChoiceOf
def S : Sp := ⟨106, ⟨[38, 3], [3], [.bor, .bor], .own⟩, [.agg .lent kd38, .I], [.O]⟩
def live : List (Nat × List Nat) := [(13, [5, 6, 7, 8]), (100013, [4, 5, 7])]
def G {R : Type} (k : Nat) : Glob R := mkG tt [spec_SuitOf.S.ent (spec_SuitOf.f k), spec_Playable.S.ent (spec_Playable.f k), spec_SuitCounts.S.ent (spec_SuitCounts.f k), spec_MostOf.S.ent (spec_MostOf.f k)] 60
def h13 : Hd := ⟨[.l (.own 0), .l (.own 1), .l (.own 2), .I], [.V, .V, .V]⟩
def T13 {R : Type} (k : Nat) (K : X → St → Option R) : h13.Fn (Option R) := fun v0 v1 v2 v3 => l13 k v1 v2 (fun p0 => K (.exit 1) (stOf [4, 5, 7] [.one (.l (.any)), .one (.l (.own 0)), .one (.l (.own 1))] [some (.row 0 0 (.ints .i64 v1)), some (.row 0 0 (.ints .i64 p0))])) k v0 v3
def tab {R : Type} (k : Nat) : LTab R := fun id K vs hs => bif id == 13 then h13.tell vs hs (T13 k K) else none
theorem fit13 {R : Type} (k : Nat) : Fit (R := R) (G k) live (tab k) (bl Try.f106 0) := h13.fit (key := 13) (by kernel_rfl) (T13 k) (fun _ _ _ => rfl) fun K r v0 v1 v2 v3 h => fit_mk h (fun a => h13.mk' a.1 v1 v2 a.2) (fun v0 _ _ v3 => some (v0, v3)) (by kernel_rfl) (fun _ => by kernel_rfl) fun Lp a => by kernel_rfl
theorem con (k : Nat) : Con Try.prog S (f k) := con_fn (nt := 60) (live := live) (Λ := tab k) tok (all_cons (ok_con (spec_SuitOf.con k)) (all_cons (ok_con (spec_Playable.con k)) (all_cons (ok_con (spec_SuitCounts.con k)) (all_cons (ok_con (spec_MostOf.con k)) all_nil)))) mixed Try.func106 (by kernel_rfl) (all_cons (fit13 k) all_nil) fun x => by kernel_rfl
end spec_ChoiceOf

namespace spec_l22Copy
def S : Sp := ⟨190, ⟨[36], [36], [.bor], .own⟩, [.agg .lent kd36], [.agg .own kd36]⟩
theorem con (k : Nat) : Con Try.prog S (f k) := con_fn (nt := 14) (live := []) (Λ := noL) tok all_nil mixed Try.func190 (by kernel_rfl) all_nil fun x => by kernel_rfl
end spec_l22Copy

namespace spec_l15Copy
def S : Sp := ⟨191, ⟨[29], [29], [.bor], .own⟩, [.l .lent .rows], [.l .own .rows]⟩
def live : List (Nat × List Nat) := [(3, [0, 3, 4]), (100003, [2, 3])]
def G {R : Type} (k : Nat) : Glob R := mkG tt [] 22
def h3 : Hd := ⟨[.W, .l (.own 0), .I], [.W]⟩
def T3 {R : Type} (k : Nat) (K : X → St → Option R) : h3.Fn (Option R) := fun v0 v1 v2 => l3 k v0 (fun p0 => K (.exit 0) (stOf [2, 3] [.one (.l (.any)), .one (.l (.own 0))] [some (.row 0 0 (.rows true p0))])) k v1 v2
def tab {R : Type} (k : Nat) : LTab R := fun id K vs hs => bif id == 3 then h3.tell vs hs (T3 k K) else none
theorem fit3 {R : Type} (k : Nat) : Fit (R := R) (G k) live (tab k) (bl Try.f191 0) := h3.fit (key := 3) (by kernel_rfl) (T3 k) (fun _ _ _ => rfl) fun K r v0 v1 v2 h => fit_mk h (fun a => h3.mk' v0 a.1 a.2) (fun _ v1 v2 => some (v1, v2)) (by kernel_rfl) (fun _ => by kernel_rfl) fun Lp a => by kernel_rfl
theorem con (k : Nat) : Con Try.prog S (f k) := con_fn (nt := 22) (live := live) (Λ := tab k) tok all_nil mixed Try.func191 (by kernel_rfl) (all_cons (fit3 k) all_nil) fun x => by kernel_rfl
end spec_l15Copy

namespace spec_l24Copy
def S : Sp := ⟨162, ⟨[38], [38], [.bor], .own⟩, [.agg .lent kd38], [.agg .own kd38]⟩
theorem con (k : Nat) : Con Try.prog S (f k) := con_fn (nt := 24) (live := []) (Λ := noL) tok (all_cons (ok_con (spec_l22Copy.con k)) (all_cons (ok_con (spec_l15Copy.con k)) all_nil)) mixed Try.func162 (by kernel_rfl) all_nil fun x => by kernel_rfl
end spec_l24Copy

namespace spec_TakeCards
def S : Sp := ⟨110, ⟨[38], [38, 4], [.bor], .own⟩, [.agg .lent kd38], [.agg .own kd38, .B]⟩
def live : List (Nat × List Nat) := [(6, [1, 2, 4, 5, 6]), (100006, [1, 2, 3, 4, 5])]
def G {R : Type} (k : Nat) : Glob R := mkG tt [spec_IsGame.S.ent (spec_IsGame.f k), spec_l24Over.S.ent (spec_l24Over.f k), spec_l24Copy.S.ent (spec_l24Copy.f k)] 97
def h6 : Hd := ⟨[.l (.ptr 0 0), .l (.ptr 1 0), .l (.ptr 2 0), .I, .I], [.box [.I, .I, .b, .b, .V, .V, .I, .I, .W, .V, .V, .I, .I, .I], .box [.I, .I, .bc false, .bc false, .nil, .nil, .I, .I, .nil, .nil, .nil, .I, .I, .I], .box [.I, .I, .b, .b, .own 3, .own 4, .I, .I, .own 5, .own 6, .own 7, .I, .I, .I], .V, .V, .W, .V, .V]⟩
def T6 {R : Type} (k : Nat) (K : X → St → Option R) : h6.Fn (Option R) := fun v0 v1 v2 v3 v4 v5 v6 v7 v8 v9 v10 v11 v12 v13 v14 v15 v16 v17 v20 v21 v22 v23 v24 v25 v26 v27 v28 v29 v30 v31 v32 v33 v34 v35 v36 v37 v38 => l6 k v8 v13 (fun p0 p1 p2 p3 => K (.exit 0) (stOf [1, 2, 3, 4, 5] [.one (.l (.bptr 0 0)), .one (.l (.bptr 1 0)), .one (.l (.any)), .one (.l (.bptr 2 0)), .one (.l (.i .i64 p0))] [some (.box 0 [.i .i64 v2, .i .i64 v3, .b v4, .b v5, .val false (.ints .i64 v6), .val false (.ints .i64 v7), .i .i64 v8, .i .i64 v9, .val false (.rows false v10), .val false (.ints .i64 v11), .val false (.ints .i64 v12), .i .i64 v13, .i .i64 v14, .i .i64 v15]), some (.box 0 [.i .i64 v16, .i .i64 v17, .b false, .b false, .nil, .nil, .i .i64 v20, .i .i64 v21, .nil, .nil, .nil, .i .i64 v22, .i .i64 v23, .i .i64 v24]), some (.box 0 [.i .i64 v25, .i .i64 v26, .b v27, .b v28, .own 3, .own 4, .i .i64 v29, .i .i64 v30, .own 5, .own 6, .own 7, .i .i64 v31, .i .i64 v32, .i .i64 v33]), some (.row 0 0 (.ints .i64 v34)), some (.row 0 0 (.ints .i64 v35)), some (.row 0 0 (.rows true p1)), some (.row 0 0 (.ints .i64 p2)), some (.row 0 0 (.ints .i64 p3))])) k v0 v1 v36 v37 v38
def tab {R : Type} (k : Nat) : LTab R := fun id K vs hs => bif id == 6 then h6.tell vs hs (T6 k K) else none
theorem fit6 {R : Type} (k : Nat) : Fit (R := R) (G k) live (tab k) (bl Try.f110 0) := h6.fit (key := 6) (by kernel_rfl) (T6 k) (fun _ _ _ => rfl) fun K r v0 v1 v2 v3 v4 v5 v6 v7 v8 v9 v10 v11 v12 v13 v14 v15 v16 v17 v20 v21 v22 v23 v24 v25 v26 v27 v28 v29 v30 v31 v32 v33 v34 v35 v36 v37 v38 h => fit_mk h (fun a => h6.mk' a.1 a.2.1 v2 v3 v4 v5 v6 v7 v8 v9 v10 v11 v12 v13 v14 v15 v16 v17 v20 v21 v22 v23 v24 v25 v26 v27 v28 v29 v30 v31 v32 v33 v34 v35 (t2 a).1 (t3 a).1 (t4 a)) (fun v0 v1 _ _ _ _ _ _ _ _ _ _ _ _ _ _ _ _ _ _ _ _ _ _ _ _ _ _ _ _ _ _ _ _ v36 v37 v38 => some (v0, v1, v36, v37, v38)) (by kernel_rfl) (fun _ => by kernel_rfl) fun Lp a => by kernel_rfl
theorem con (k : Nat) : Con Try.prog S (f k) := con_fn (nt := 97) (live := live) (Λ := tab k) tok (all_cons (ok_con (spec_IsGame.con k)) (all_cons (ok_con (spec_l24Over.con k)) (all_cons (ok_con (spec_l24Copy.con k)) all_nil))) mixed Try.func110 (by kernel_rfl) (all_cons (fit6 k) all_nil) fun x => by kernel_rfl
end spec_TakeCards

namespace spec_Without
def S : Sp := ⟨117, ⟨[22, 3], [22], [.bor, .bor], .own⟩, [.V, .I], [.l .own (.ints .i64)]⟩
def live : List (Nat × List Nat) := [(3, [0, 1, 5, 6]), (100003, [4, 5])]
def G {R : Type} (k : Nat) : Glob R := mkG tt [] 28
def h3 : Hd := ⟨[.V, .I, .l (.own 0), .I], [.V]⟩
def T3 {R : Type} (k : Nat) (K : X → St → Option R) : h3.Fn (Option R) := fun v0 v1 v2 v3 => l3 k v0 v1 (fun p0 => K (.exit 0) (stOf [4, 5] [.one (.l (.any)), .one (.l (.own 0))] [some (.row 0 0 (.ints .i64 p0))])) k v2 v3
def tab {R : Type} (k : Nat) : LTab R := fun id K vs hs => bif id == 3 then h3.tell vs hs (T3 k K) else none
theorem fit3 {R : Type} (k : Nat) : Fit (R := R) (G k) live (tab k) (bl Try.f117 0) := h3.fit (key := 3) (by kernel_rfl) (T3 k) (fun _ _ _ => rfl) fun K r v0 v1 v2 v3 h => fit_mk h (fun a => h3.mk' v0 v1 a.1 a.2) (fun _ _ v2 v3 => some (v2, v3)) (by kernel_rfl) (fun _ => by kernel_rfl) fun Lp a => by kernel_rfl
theorem con (k : Nat) : Con Try.prog S (f k) := con_fn (nt := 28) (live := live) (Λ := tab k) tok all_nil mixed Try.func117 (by kernel_rfl) (all_cons (fit3 k) all_nil) fun x => by kernel_rfl
end spec_Without

namespace spec_DoesSkip
def S : Sp := ⟨163, ⟨[36, 3], [4], [.bor, .bor], .own⟩, [.agg .lent kd36, .I], [.B]⟩
theorem con (k : Nat) : Con Try.prog S (f k) := con_fn (nt := 13) (live := []) (Λ := noL) tok (all_cons (ok_con (spec_IsRules.con k)) (all_cons (ok_con (spec_Matches.con k)) all_nil)) mixed Try.func163 (by kernel_rfl) all_nil fun x => by kernel_rfl
end spec_DoesSkip

namespace spec_PlayOn
def S : Sp := ⟨111, ⟨[38, 3], [38, 4], [.bor, .bor], .own⟩, [.agg .lent kd38, .I], [.agg .own kd38, .B]⟩
theorem con (k : Nat) : Con Try.prog S (f k) := con_fn (nt := 54) (live := []) (Λ := noL) tok (all_cons (ok_con (spec_HasCard.con k)) (all_cons (ok_con (spec_Without.con k)) (all_cons (ok_con (spec_Playable.con k)) (all_cons (ok_con (spec_l24Copy.con k)) (all_cons (ok_con (spec_DoesSkip.con k)) all_nil))))) mixed Try.func111 (by kernel_rfl) all_nil fun x => by kernel_rfl
end spec_PlayOn

namespace spec_AutoMove
def S : Sp := ⟨60, ⟨[38, 3], [38, 4], [.bor, .bor], .own⟩, [.agg .lent kd38, .I], [.agg .own kd38, .B]⟩
theorem con (k : Nat) : Con Try.prog S (f k) := con_fn (nt := 21) (live := []) (Λ := noL) tok (all_cons (ok_con (spec_ChoiceOf.con k)) (all_cons (ok_con (spec_TakeCards.con k)) (all_cons (ok_con (spec_PlayOn.con k)) all_nil))) mixed Try.func60 (by kernel_rfl) all_nil fun x => by kernel_rfl
end spec_AutoMove

namespace spec_RecordOut
def S : Sp := ⟨53, ⟨[38, 22], [22], [.bor, .bor], .own⟩, [.agg .lent kd38, .V], [.l .own (.ints .i64)]⟩
def live : List (Nat × List Nat) := [(2, [1, 2, 5]), (100002, [4, 5]), (200002, [2])]
def G {R : Type} (k : Nat) : Glob R := mkG tt [spec_AutoMove.S.ent (spec_AutoMove.f k), spec_IsGame.S.ent (spec_IsGame.f k), spec_l24Over.S.ent (spec_l24Over.f k), spec_ChoiceOf.S.ent (spec_ChoiceOf.f k)] 41
def h2 : Hd := ⟨[.V, .l (.ptr 0 0), .l (.own 1)], [.box [.I, .I, .b, .b, .V, .V, .I, .I, .W, .V, .V, .I, .I, .I], .V]⟩
def T2 {R : Type} (k : Nat) (K : X → St → Option R) : h2.Fn (Option R) := fun v0 v1 v2 v3 v4 v5 v6 v7 v8 v9 v10 v11 v12 v13 v14 v15 => l2 k v0 (fun p0 => K (.exit 0) (stOf [4, 5] [.one (.l (.any)), .one (.l (.own 0))] [some (.row 0 0 (.ints .i64 p0))])) k v1 v2 v3 v4 v5 v6 v7 v8 v9 v10 v11 v12 v13 v14 v15
def tab {R : Type} (k : Nat) : LTab R := fun id K vs hs => bif id == 2 then h2.tell vs hs (T2 k K) else none
theorem fit2 {R : Type} (k : Nat) : Fit (R := R) (G k) live (tab k) (bl Try.f53 0) := h2.fit (key := 2) (by kernel_rfl) (T2 k) (fun _ _ _ => rfl) fun K r v0 v1 v2 v3 v4 v5 v6 v7 v8 v9 v10 v11 v12 v13 v14 v15 h => fit_mk h (fun a => h2.mk' v0 a.1 a.2.1 (t2 a).1 (t3 a).1 (t4 a).1 (t5 a).1 (t6 a).1 (t7 a).1 (t8 a).1 (t9 a).1 (t9 a.2).1 (t9 (t2 a)).1 (t9 (t3 a)).1 (t9 (t4 a)).1 (t9 (t5 a))) (fun _ v1 v2 v3 v4 v5 v6 v7 v8 v9 v10 v11 v12 v13 v14 v15 => some (v1, v2, v3, v4, v5, v6, v7, v8, v9, v10, v11, v12, v13, v14, v15)) (by kernel_rfl) (fun _ => by kernel_rfl) fun Lp a => by kernel_rfl
theorem con (k : Nat) : Con Try.prog S (f k) := con_fn (nt := 41) (live := live) (Λ := tab k) tok (all_cons (ok_con (spec_AutoMove.con k)) (all_cons (ok_con (spec_IsGame.con k)) (all_cons (ok_con (spec_l24Over.con k)) (all_cons (ok_con (spec_ChoiceOf.con k)) all_nil)))) mixed Try.func53 (by kernel_rfl) (all_cons (fit2 k) all_nil) fun x => by kernel_rfl
end spec_RecordOut

namespace spec_l1New
def S : Sp := ⟨101, ⟨[57], [107], [.frz], .own⟩, [.l .frz (.ints .u8)], [.ptr kd129]⟩
def live : List (Nat × List Nat) := [(3, [0, 3, 4]), (100003, [0, 2, 3])]
def G {R : Type} (k : Nat) : Glob R := mkG tt [] 32
def h3 : Hd := ⟨[.l (.val true false (.ints .u8)), .I, .I], []⟩
def T3 {R : Type} (k : Nat) (K : X → St → Option R) : h3.Fn (Option R) := fun v0 v1 v2 => l3 k v0 (fun p0 => K (.exit 0) (stOf [0, 2, 3] [.one (.l (.val true (.ints .u8 v0))), .one (.l (.any)), .one (.l (.i .i64 p0))] [])) k v1 v2
def tab {R : Type} (k : Nat) : LTab R := fun id K vs hs => bif id == 3 then h3.tell vs hs (T3 k K) else none
theorem fit3 {R : Type} (k : Nat) : Fit (R := R) (G k) live (tab k) (bl Try.f101 0) := h3.fit (key := 3) (by kernel_rfl) (T3 k) (fun _ _ _ => rfl) fun K r v0 v1 v2 h => fit_mk h (fun a => h3.mk' v0 a.1 a.2) (fun _ v1 v2 => some (v1, v2)) (by kernel_rfl) (fun _ => by kernel_rfl) fun Lp a => by kernel_rfl
theorem con (k : Nat) : Con Try.prog S (f k) := con_fn (nt := 32) (live := live) (Λ := tab k) tok all_nil mixed Try.func101 (by kernel_rfl) (all_cons (fit3 k) all_nil) fun x => by kernel_rfl
end spec_l1New

namespace spec_l1Byte
def S : Sp := ⟨156, ⟨[107], [3], [.io], .own⟩, [.ptr kd129], [.O, .ptr kd129]⟩
theorem con (k : Nat) : Con Try.prog S (f k) := con_fn (nt := 58) (live := []) (Λ := noL) tok all_nil mixed Try.func156 (by kernel_rfl) all_nil fun x => by kernel_rfl
end spec_l1Byte

namespace spec_l1Below
def S : Sp := ⟨102, ⟨[107, 3], [3], [.io, .bor], .own⟩, [.ptr kd129, .I], [.O, .ptr kd129]⟩
theorem con (k : Nat) : Con Try.prog S (f k) := con_fn (nt := 31) (live := []) (Λ := noL) tok (all_cons (ok_con (spec_l1Byte.con k)) all_nil) mixed Try.func102 (by kernel_rfl) all_nil fun x => by kernel_rfl
end spec_l1Below

namespace spec_Mod
def S : Sp := ⟨170, ⟨[3, 3], [3], [.bor, .bor], .own⟩, [.I, .I], [.O]⟩
theorem con (k : Nat) : Con Try.prog S (f k) := con_fn (nt := 15) (live := []) (Λ := noL) tok (all_cons (ok_con (spec_l1In.con k)) all_nil) mixed Try.func170 (by kernel_rfl) all_nil fun x => by kernel_rfl
end spec_Mod

namespace spec_Hash
def S : Sp := ⟨171, ⟨[22], [3], [.bor], .own⟩, [.V], [.O]⟩
def live : List (Nat × List Nat) := [(3, [0, 3, 4]), (100003, [2, 3])]
def G {R : Type} (k : Nat) : Glob R := mkG tt [spec_Mod.S.ent (spec_Mod.f k)] 22
def h3 : Hd := ⟨[.V, .I, .I], []⟩
def T3 {R : Type} (k : Nat) (K : X → St → Option R) : h3.Fn (Option R) := fun v0 v1 v2 => l3 k v0 (fun p0 => K (.exit 0) (stOf [2, 3] [.one (.l (.any)), .one (.l (.i .i64 p0))] [])) k v1 v2
def tab {R : Type} (k : Nat) : LTab R := fun id K vs hs => bif id == 3 then h3.tell vs hs (T3 k K) else none
theorem fit3 {R : Type} (k : Nat) : Fit (R := R) (G k) live (tab k) (bl Try.f171 0) := h3.fit (key := 3) (by kernel_rfl) (T3 k) (fun _ _ _ => rfl) fun K r v0 v1 v2 h => fit_mk h (fun a => h3.mk' v0 a.1 a.2) (fun _ v1 v2 => some (v1, v2)) (by kernel_rfl) (fun _ => by kernel_rfl) fun Lp a => by kernel_rfl
theorem con (k : Nat) : Con Try.prog S (f k) := con_fn (nt := 22) (live := live) (Λ := tab k) tok (all_cons (ok_con (spec_Mod.con k)) all_nil) mixed Try.func171 (by kernel_rfl) (all_cons (fit3 k) all_nil) fun x => by kernel_rfl
end spec_Hash

namespace spec_Shuffled
def S : Sp := ⟨137, ⟨[22, 3], [22], [.bor, .bor], .own⟩, [.V, .I], [.l .own (.ints .i64)]⟩
def live : List (Nat × List Nat) := [(3, [1, 5, 6]), (100003, [4, 5])]
def G {R : Type} (k : Nat) : Glob R := mkG tt [spec_Mod.S.ent (spec_Mod.f k), spec_Hash.S.ent (spec_Hash.f k)] 42
def h3 : Hd := ⟨[.I, .l (.own 0), .I], [.V]⟩
def T3 {R : Type} (k : Nat) (K : X → St → Option R) : h3.Fn (Option R) := fun v0 v1 v2 => l3 k v0 (fun p0 => K (.exit 0) (stOf [4, 5] [.one (.l (.any)), .one (.l (.own 0))] [some (.row 0 0 (.ints .i64 p0))])) k v1 v2
def tab {R : Type} (k : Nat) : LTab R := fun id K vs hs => bif id == 3 then h3.tell vs hs (T3 k K) else none
theorem fit3 {R : Type} (k : Nat) : Fit (R := R) (G k) live (tab k) (bl Try.f137 0) := h3.fit (key := 3) (by kernel_rfl) (T3 k) (fun _ _ _ => rfl) fun K r v0 v1 v2 h => fit_mk h (fun a => h3.mk' v0 a.1 a.2) (fun _ v1 v2 => some (v1, v2)) (by kernel_rfl) (fun _ => by kernel_rfl) fun Lp a => by kernel_rfl
theorem con (k : Nat) : Con Try.prog S (f k) := con_fn (nt := 42) (live := live) (Λ := tab k) tok (all_cons (ok_con (spec_Mod.con k)) (all_cons (ok_con (spec_Hash.con k)) all_nil)) mixed Try.func137 (by kernel_rfl) (all_cons (fit3 k) all_nil) fun x => by kernel_rfl
end spec_Shuffled

namespace spec_Missing
def S : Sp := ⟨172, ⟨[22], [22], [.bor], .own⟩, [.V], [.l .own (.ints .i64)]⟩
def live : List (Nat × List Nat) := [(3, [0, 3, 4]), (100003, [2, 3])]
def G {R : Type} (k : Nat) : Glob R := mkG tt [spec_HasCard.S.ent (spec_HasCard.f k)] 19
def h3 : Hd := ⟨[.V, .l (.own 0), .I], [.V]⟩
def T3 {R : Type} (k : Nat) (K : X → St → Option R) : h3.Fn (Option R) := fun v0 v1 v2 => l3 k v0 (fun p0 => K (.exit 0) (stOf [2, 3] [.one (.l (.any)), .one (.l (.own 0))] [some (.row 0 0 (.ints .i64 p0))])) k v1 v2
def tab {R : Type} (k : Nat) : LTab R := fun id K vs hs => bif id == 3 then h3.tell vs hs (T3 k K) else none
theorem fit3 {R : Type} (k : Nat) : Fit (R := R) (G k) live (tab k) (bl Try.f172 0) := h3.fit (key := 3) (by kernel_rfl) (T3 k) (fun _ _ _ => rfl) fun K r v0 v1 v2 h => fit_mk h (fun a => h3.mk' v0 a.1 a.2) (fun _ v1 v2 => some (v1, v2)) (by kernel_rfl) (fun _ => by kernel_rfl) fun Lp a => by kernel_rfl
theorem con (k : Nat) : Con Try.prog S (f k) := con_fn (nt := 19) (live := live) (Λ := tab k) tok (all_cons (ok_con (spec_HasCard.con k)) all_nil) mixed Try.func172 (by kernel_rfl) (all_cons (fit3 k) all_nil) fun x => by kernel_rfl
end spec_Missing

namespace spec_FullDeck
def S : Sp := ⟨138, ⟨[], [22], [], .own⟩, [], [.l .own (.ints .i64)]⟩
theorem con (k : Nat) : Con Try.prog S (f k) := con_fn (nt := 2) (live := []) (Λ := noL) tok (all_cons (ok_con (spec_Missing.con k)) all_nil) mixed Try.func138 (by kernel_rfl) all_nil fun x => by kernel_rfl
end spec_FullDeck

namespace spec_l1Once
def S : Sp := ⟨146, ⟨[107, 3], [4], [.io, .bor], .own⟩, [.ptr kd129, .I], [.B, .ptr kd129]⟩
theorem con (k : Nat) : Con Try.prog S (f k) := con_fn (nt := 9) (live := []) (Λ := noL) tok (all_cons (ok_con (spec_l1Below.con k)) all_nil) mixed Try.func146 (by kernel_rfl) all_nil fun x => by kernel_rfl
end spec_l1Once

namespace spec_EasyRules
def S : Sp := ⟨177, ⟨[], [36], [], .own⟩, [], [.agg .own kd36]⟩
theorem con (k : Nat) : Con Try.prog S (f k) := con_fn (nt := 4) (live := []) (Λ := noL) tok all_nil mixed Try.func177 (by kernel_rfl) all_nil fun x => by kernel_rfl
end spec_EasyRules

namespace spec_l1Int
def S : Sp := ⟨180, ⟨[107, 22], [3], [.io, .bor], .own⟩, [.ptr kd129, .V], [.O, .ptr kd129]⟩
theorem con (k : Nat) : Con Try.prog S (f k) := con_fn (nt := 12) (live := []) (Λ := noL) tok (all_cons (ok_con (spec_l1Below.con k)) all_nil) mixed Try.func180 (by kernel_rfl) all_nil fun x => by kernel_rfl
end spec_l1Int

namespace spec_l8Leaves
def S : Sp := ⟨204, ⟨[107], [3], [.io], .own⟩, [.ptr kd129], [.O, .ptr kd129]⟩
theorem con (k : Nat) : Con Try.prog S (f k) := con_fn (nt := 15) (live := []) (Λ := noL) tok (all_cons (ok_con (spec_l1Below.con k)) (all_cons (ok_con (spec_l1Int.con k)) all_nil)) mixed Try.func204 (by kernel_rfl) all_nil fun x => by kernel_rfl
end spec_l8Leaves

namespace spec_l8Draw
def S : Sp := ⟨197, ⟨[107, 3], [22], [.io, .bor], .own⟩, [.ptr kd129, .I], [.l .own (.ints .i64), .ptr kd129]⟩
theorem step (k : Nat) (self : LI → Int → Int → Int → Option (LI × LI × Int × Int)) (hself : Con Try.prog S self) : Con Try.prog S (b k self) := con_fn (nt := 38) (live := []) (Λ := noL) tok (all_cons (ok_con (spec_l1Below.con k)) (all_cons (ok_con (spec_l1Once.con k)) (all_cons (ok_con hself) (all_cons (ok_con (spec_l8Leaves.con k)) all_nil)))) mixed Try.func197 (by kernel_rfl) all_nil fun x => by kernel_rfl
theorem con (k : Nat) : Con Try.prog S (f k) := con_rec (S := S) (b := b k) (g := g k) ⟨Try.f197, Try.func197, by kernel_rfl, by kernel_rfl⟩ (fun _ => rfl) (fun _ => rfl) (step k) k
end spec_l8Draw

namespace spec_l22Draw
def S : Sp := ⟨178, ⟨[107], [36], [.io], .own⟩, [.ptr kd129], [.agg .own kd36, .ptr kd129]⟩
theorem con (k : Nat) : Con Try.prog S (f k) := con_fn (nt := 30) (live := []) (Λ := noL) tok (all_cons (ok_con (spec_l1Below.con k)) (all_cons (ok_con (spec_l1Once.con k)) (all_cons (ok_con (spec_l8Draw.con k)) all_nil))) mixed Try.func178 (by kernel_rfl) all_nil fun x => by kernel_rfl
end spec_l22Draw

namespace spec_Dealt
def S : Sp := ⟨198, ⟨[22, 3, 3], [29, 22, 4], [.bor, .bor, .bor], .own⟩, [.V, .I, .I], [.l .own .rows, .l .own (.ints .i64), .B]⟩
def live : List (Nat × List Nat) := [(9, [0, 1, 2, 9, 10, 11, 12]), (100009, [0, 1, 2, 6, 7, 8, 9, 10, 11]), (5, [0, 1, 2, 9, 10]), (100005, [0, 1, 2, 6, 7, 8, 9])]
def G {R : Type} (k : Nat) : Glob R := mkG tt [spec_IsHand.S.ent (spec_IsHand.f k), spec_l1In.S.ent (spec_l1In.f k)] 73
def h9 : Hd := ⟨[.V, .I, .I, .l (.own 0), .I, .l (.own 1), .I], [.W, .V]⟩
def T9 {R : Type} (k : Nat) (K : X → St → Option R) : h9.Fn (Option R) := fun v0 v1 v2 v3 v4 v5 v6 => l9 k v0 v1 v2 v3 (fun p0 => K (.exit 2) (stOf [0, 1, 2, 6, 7, 8, 9, 10, 11] [.one (.l (.val false (.ints .i64 v0))), .one (.l (.i .i64 v1)), .one (.l (.i .i64 v2)), .one (.l (.any)), .one (.l (.any)), .one (.l (.any)), .one (.l (.own 0)), .one (.l (.i .i64 v3)), .one (.l (.own 1))] [some (.row 0 0 (.rows true v5)), some (.row 0 0 (.ints .i64 p0))])) k v4 v6
def h5 : Hd := ⟨[.V, .I, .I, .l (.own 0), .I], [.W]⟩
def T5 {R : Type} (k : Nat) (K : X → St → Option R) : h5.Fn (Option R) := fun v0 v1 v2 v3 v4 => l5 k v0 v1 v2 (fun p0 => K (.exit 0) (stOf [0, 1, 2, 6, 7, 8, 9] [.one (.l (.val false (.ints .i64 v0))), .one (.l (.i .i64 v1)), .one (.l (.i .i64 v2)), .one (.l (.any)), .one (.l (.any)), .one (.l (.any)), .one (.l (.own 0))] [some (.row 0 0 (.rows true p0))])) k v3 v4
def tab {R : Type} (k : Nat) : LTab R := fun id K vs hs => bif id == 9 then h9.tell vs hs (T9 k K) else bif id == 5 then h5.tell vs hs (T5 k K) else none
theorem fit5 {R : Type} (k : Nat) : Fit (R := R) (G k) live (tab k) (bl Try.f198 0) := h5.fit (key := 5) (by kernel_rfl) (T5 k) (fun _ _ _ => rfl) fun K r v0 v1 v2 v3 v4 h => fit_mk h (fun a => h5.mk' v0 v1 v2 a.1 a.2) (fun _ _ _ v3 v4 => some (v3, v4)) (by kernel_rfl) (fun _ => by kernel_rfl) fun Lp a => by kernel_rfl
theorem fit9 {R : Type} (k : Nat) : Fit (R := R) (G k) live (tab k) (bl Try.f198 1) := h9.fit (key := 9) (by kernel_rfl) (T9 k) (fun _ _ _ => rfl) fun K r v0 v1 v2 v3 v4 v5 v6 h => fit_mk h (fun a => h9.mk' v0 v1 v2 v3 a.1 v5 a.2) (fun _ _ _ _ v4 _ v6 => some (v4, v6)) (by kernel_rfl) (fun _ => by kernel_rfl) fun Lp a => by kernel_rfl
theorem con (k : Nat) : Con Try.prog S (f k) := con_fn (nt := 73) (live := live) (Λ := tab k) tok (all_cons (ok_con (spec_IsHand.con k)) (all_cons (ok_con (spec_l1In.con k)) all_nil)) mixed Try.func198 (by kernel_rfl) (all_cons (fit5 k) (all_cons (fit9 k) all_nil)) fun x => by kernel_rfl
end spec_Dealt

namespace spec_NewGame
def S : Sp := ⟨179, ⟨[36, 22], [38, 4], [.bor, .bor], .own⟩, [.agg .lent kd36, .V], [.agg .own kd38, .B]⟩
theorem con (k : Nat) : Con Try.prog S (f k) := con_fn (nt := 45) (live := []) (Λ := noL) tok (all_cons (ok_con (spec_IsHand.con k)) (all_cons (ok_con (spec_IsRules.con k)) (all_cons (ok_con (spec_l22Copy.con k)) (all_cons (ok_con (spec_Dealt.con k)) all_nil)))) mixed Try.func179 (by kernel_rfl) all_nil fun x => by kernel_rfl
end spec_NewGame

namespace spec_l24Start
def S : Sp := ⟨144, ⟨[107], [38], [.io], .own⟩, [.ptr kd129], [.agg .own kd38, .ptr kd129]⟩
theorem con (k : Nat) : Con Try.prog S (f k) := con_fn (nt := 21) (live := []) (Λ := noL) tok (all_cons (ok_con (spec_l1Below.con k)) (all_cons (ok_con (spec_Shuffled.con k)) (all_cons (ok_con (spec_FullDeck.con k)) (all_cons (ok_con (spec_l1Once.con k)) (all_cons (ok_con (spec_EasyRules.con k)) (all_cons (ok_con (spec_l22Draw.con k)) (all_cons (ok_con (spec_NewGame.con k)) all_nil))))))) mixed Try.func144 (by kernel_rfl) all_nil fun x => by kernel_rfl
end spec_l24Start

namespace spec_l26Kinds
def S : Sp := ⟨145, ⟨[107], [22], [.io], .own⟩, [.ptr kd129], [.l .own (.ints .i64), .ptr kd129]⟩
def live : List (Nat × List Nat) := [(3, [0, 3, 4, 18]), (100003, [2, 3, 18])]
def G {R : Type} (k : Nat) : Glob R := mkG tt [spec_l1Below.S.ent (spec_l1Below.f k)] 18
def h3 : Hd := ⟨[.l (.ptr 0 0), .l (.own 1), .I, .l (.ptr 0 0)], [.box [.val true false (.ints .u8), .I, .I], .V]⟩
def T3 {R : Type} (k : Nat) (K : X → St → Option R) : h3.Fn (Option R) := fun v0 v1 v2 v3 v4 => l3 k (fun p0 p1 p2 p3 => K (.exit 0) (stOf [2, 3, 18] [.one (.l (.any)), .one (.l (.own 0)), .one (.l (.bptr 1 0))] [some (.row 0 0 (.ints .i64 p0)), some (.box 0 [.val true (.ints .u8 p1), .i .i64 p2, .i .i64 p3])])) k v0 v1 v2 v3 v4
def tab {R : Type} (k : Nat) : LTab R := fun id K vs hs => bif id == 3 then h3.tell vs hs (T3 k K) else none
theorem fit3 {R : Type} (k : Nat) : Fit (R := R) (G k) live (tab k) (bl Try.f145 0) := h3.fit (key := 3) (by kernel_rfl) (T3 k) (fun _ _ _ => rfl) fun K r v0 v1 v2 v3 v4 h => fit_mk h (fun a => h3.mk' a.1 a.2.1 (t2 a).1 (t3 a).1 (t4 a)) (fun v0 v1 v2 v3 v4 => some (v0, v1, v2, v3, v4)) (by kernel_rfl) (fun _ => by kernel_rfl) fun Lp a => by kernel_rfl
theorem con (k : Nat) : Con Try.prog S (f k) := con_fn (nt := 18) (live := live) (Λ := tab k) tok (all_cons (ok_con (spec_l1Below.con k)) all_nil) mixed Try.func145 (by kernel_rfl) (all_cons (fit3 k) all_nil) fun x => by kernel_rfl
end spec_l26Kinds

namespace spec_l4Card
def S : Sp := ⟨147, ⟨[107], [3], [.io], .own⟩, [.ptr kd129], [.O, .ptr kd129]⟩
theorem con (k : Nat) : Con Try.prog S (f k) := con_fn (nt := 12) (live := []) (Λ := noL) tok (all_cons (ok_con (spec_l1Below.con k)) (all_cons (ok_con (spec_l1Int.con k)) all_nil)) mixed Try.func147 (by kernel_rfl) all_nil fun x => by kernel_rfl
end spec_l4Card

namespace spec_DrawReplayed
def S : Sp := ⟨89, ⟨[57], [38, 22], [.frz], .own⟩, [.l .frz (.ints .u8)], [.agg .own kd38, .l .own (.ints .i64)]⟩
theorem con (k : Nat) : Con Try.prog S (f k) := con_fn (nt := 32) (live := []) (Λ := noL) tok (all_cons (ok_con (spec_RecordOut.con k)) (all_cons (ok_con (spec_l1New.con k)) (all_cons (ok_con (spec_l1Below.con k)) (all_cons (ok_con (spec_l24Start.con k)) (all_cons (ok_con (spec_l26Kinds.con k)) (all_cons (ok_con (spec_l1Once.con k)) (all_cons (ok_con (spec_l4Card.con k)) all_nil))))))) mixed Try.func89 (by kernel_rfl) all_nil fun x => by kernel_rfl
end spec_DrawReplayed

namespace spec_DrawRecordText
def S : Sp := ⟨87, ⟨[57], [22], [.frz], .own⟩, [.l .frz (.ints .u8)], [.l .own (.ints .i64)]⟩
theorem con (k : Nat) : Con Try.prog S (f k) := con_fn (nt := 11) (live := []) (Λ := noL) tok (all_cons (ok_con (spec_DrawReplayed.con k)) all_nil) mixed Try.func87 (by kernel_rfl) all_nil fun x => by kernel_rfl
end spec_DrawRecordText

namespace spec_DrawCardsPlayed
def S : Sp := ⟨28, ⟨[57], [22], [.frz], .own⟩, [.l .frz (.ints .u8)], [.l .own (.ints .i64)]⟩
theorem con (k : Nat) : Con Try.prog S (f k) := con_fn (nt := 5) (live := []) (Λ := noL) tok (all_cons (ok_con (spec_DrawRecordText.con k)) all_nil) mixed Try.func28 (by kernel_rfl) all_nil fun x => by kernel_rfl
end spec_DrawCardsPlayed

namespace impl_InRange
def S : Sp := ⟨98, ⟨[3, 3, 3], [4], [.bor, .bor, .bor], .own⟩, [.I, .I, .I], [.B]⟩
theorem con (k : Nat) : Con Try.prog S (f k) := con_fn (nt := 15) (live := []) (Λ := noL) tok all_nil mixed Try.func98 (by kernel_rfl) all_nil fun x => by kernel_rfl
end impl_InRange

namespace impl_IsCard
def S : Sp := ⟨88, ⟨[3], [4], [.bor], .own⟩, [.I], [.B]⟩
theorem con (k : Nat) : Con Try.prog S (f k) := con_fn (nt := 5) (live := []) (Λ := noL) tok (all_cons (ok_con (impl_InRange.con k)) all_nil) mixed Try.func88 (by kernel_rfl) all_nil fun x => by kernel_rfl
end impl_IsCard

namespace impl_CardsPlayed
def S : Sp := ⟨29, ⟨[22], [22], [.bor], .own⟩, [.V], [.l .own (.ints .i64)]⟩
def live : List (Nat × List Nat) := [(3, [3, 7, 8, 9]), (100003, [2, 3])]
def G {R : Type} (k : Nat) : Glob R := mkG tt [impl_IsCard.S.ent (impl_IsCard.f k)] 21
def h3 : Hd := ⟨[.l (.own 0), .V, .I, .I], [.V]⟩
def T3 {R : Type} (k : Nat) (K : X → St → Option R) : h3.Fn (Option R) := fun v0 v1 v2 v3 => l3 k v0 v1 (fun p0 => K (.exit 0) (stOf [2, 3] [.one (.l (.any)), .one (.l (.own 0))] [some (.row 0 0 (.ints .i64 p0))])) k v2 v3
def tab {R : Type} (k : Nat) : LTab R := fun id K vs hs => bif id == 3 then h3.tell vs hs (T3 k K) else none
theorem fit3 {R : Type} (k : Nat) : Fit (R := R) (G k) live (tab k) (bl Try.f29 0) := h3.fit (key := 3) (by kernel_rfl) (T3 k) (fun _ _ _ => rfl) fun K r v0 v1 v2 v3 h => fit_mk h (fun a => h3.mk' v0 v1 a.1 a.2) (fun _ _ v2 v3 => some (v2, v3)) (by kernel_rfl) (fun _ => by kernel_rfl) fun Lp a => by kernel_rfl
theorem con (k : Nat) : Con Try.prog S (f k) := con_fn (nt := 21) (live := live) (Λ := tab k) tok (all_cons (ok_con (impl_IsCard.con k)) all_nil) mixed Try.func29 (by kernel_rfl) (all_cons (fit3 k) all_nil) fun x => by kernel_rfl
end impl_CardsPlayed

namespace impl_LongestPlays
def S : Sp := ⟨30, ⟨[22], [3], [.bor], .own⟩, [.V], [.O]⟩
def live : List (Nat × List Nat) := [(3, [3, 4, 7, 8, 9]), (100003, [2, 3])]
def G {R : Type} (k : Nat) : Glob R := mkG tt [impl_IsCard.S.ent (impl_IsCard.f k)] 23
def h3 : Hd := ⟨[.I, .I, .V, .I, .I], []⟩
def T3 {R : Type} (k : Nat) (K : X → St → Option R) : h3.Fn (Option R) := fun v0 v1 v2 v3 v4 => l3 k v2 v3 (fun p0 => K (.exit 0) (stOf [2, 3] [.one (.l (.any)), .one (.l (.i .i64 p0))] [])) k v0 v1 v4
def tab {R : Type} (k : Nat) : LTab R := fun id K vs hs => bif id == 3 then h3.tell vs hs (T3 k K) else none
theorem fit3 {R : Type} (k : Nat) : Fit (R := R) (G k) live (tab k) (bl Try.f30 0) := h3.fit (key := 3) (by kernel_rfl) (T3 k) (fun _ _ _ => rfl) fun K r v0 v1 v2 v3 v4 h => fit_mk h (fun a => h3.mk' a.1 a.2.1 v2 v3 (t2 a)) (fun v0 v1 _ _ v4 => some (v0, v1, v4)) (by kernel_rfl) (fun _ => by kernel_rfl) fun Lp a => by kernel_rfl
theorem con (k : Nat) : Con Try.prog S (f k) := con_fn (nt := 23) (live := live) (Λ := tab k) tok (all_cons (ok_con (impl_IsCard.con k)) all_nil) mixed Try.func30 (by kernel_rfl) (all_cons (fit3 k) all_nil) fun x => by kernel_rfl
end impl_LongestPlays

namespace impl_CountTakes
def S : Sp := ⟨31, ⟨[22], [3], [.bor], .own⟩, [.V], [.O]⟩
def live : List (Nat × List Nat) := [(3, [3, 6, 7, 8]), (100003, [2, 3])]
def G {R : Type} (k : Nat) : Glob R := mkG tt [] 18
def h3 : Hd := ⟨[.I, .V, .I, .I], []⟩
def T3 {R : Type} (k : Nat) (K : X → St → Option R) : h3.Fn (Option R) := fun v0 v1 v2 v3 => l3 k v1 v2 (fun p0 => K (.exit 0) (stOf [2, 3] [.one (.l (.any)), .one (.l (.i .i64 p0))] [])) k v0 v3
def tab {R : Type} (k : Nat) : LTab R := fun id K vs hs => bif id == 3 then h3.tell vs hs (T3 k K) else none
theorem fit3 {R : Type} (k : Nat) : Fit (R := R) (G k) live (tab k) (bl Try.f31 0) := h3.fit (key := 3) (by kernel_rfl) (T3 k) (fun _ _ _ => rfl) fun K r v0 v1 v2 v3 h => fit_mk h (fun a => h3.mk' a.1 v1 v2 a.2) (fun v0 _ _ v3 => some (v0, v3)) (by kernel_rfl) (fun _ => by kernel_rfl) fun Lp a => by kernel_rfl
theorem con (k : Nat) : Con Try.prog S (f k) := con_fn (nt := 18) (live := live) (Λ := tab k) tok all_nil mixed Try.func31 (by kernel_rfl) (all_cons (fit3 k) all_nil) fun x => by kernel_rfl
end impl_CountTakes

namespace spec_DrawTurnsOf
def S : Sp := ⟨32, ⟨[57], [38, 22], [.frz], .own⟩, [.l .frz (.ints .u8)], [.agg .own kd38, .l .own (.ints .i64)]⟩
theorem con (k : Nat) : Con Try.prog S (f k) := con_fn (nt := 8) (live := []) (Λ := noL) tok (all_cons (ok_con (spec_DrawReplayed.con k)) all_nil) mixed Try.func32 (by kernel_rfl) all_nil fun x => by kernel_rfl
end spec_DrawTurnsOf

namespace impl_copyOf
def S : Sp := ⟨125, ⟨[22], [22], [.bor], .own⟩, [.V], [.l .own (.ints .i64)]⟩
theorem con (k : Nat) : Con Try.prog S (f k) := con_fn (nt := 6) (live := []) (Λ := noL) tok all_nil mixed Try.func125 (by kernel_rfl) all_nil fun x => by kernel_rfl
end impl_copyOf

namespace impl_copyRows
def S : Sp := ⟨71, ⟨[29], [29], [.bor], .own⟩, [.l .lent .rows], [.l .own .rows]⟩
def live : List (Nat × List Nat) := [(3, [3, 7, 8, 9]), (100003, [2, 3])]
def G {R : Type} (k : Nat) : Glob R := mkG tt [impl_copyOf.S.ent (impl_copyOf.f k)] 20
def h3 : Hd := ⟨[.l (.own 0), .W, .I, .I], [.W]⟩
def T3 {R : Type} (k : Nat) (K : X → St → Option R) : h3.Fn (Option R) := fun v0 v1 v2 v3 => l3 k v0 v1 (fun p0 => K (.exit 0) (stOf [2, 3] [.one (.l (.any)), .one (.l (.own 0))] [some (.row 0 0 (.rows true p0))])) k v2 v3
def tab {R : Type} (k : Nat) : LTab R := fun id K vs hs => bif id == 3 then h3.tell vs hs (T3 k K) else none
theorem fit3 {R : Type} (k : Nat) : Fit (R := R) (G k) live (tab k) (bl Try.f71 0) := h3.fit (key := 3) (by kernel_rfl) (T3 k) (fun _ _ _ => rfl) fun K r v0 v1 v2 v3 h => fit_mk h (fun a => h3.mk' v0 v1 a.1 a.2) (fun _ _ v2 v3 => some (v2, v3)) (by kernel_rfl) (fun _ => by kernel_rfl) fun Lp a => by kernel_rfl
theorem con (k : Nat) : Con Try.prog S (f k) := con_fn (nt := 20) (live := live) (Λ := tab k) tok (all_cons (ok_con (impl_copyOf.con k)) all_nil) mixed Try.func71 (by kernel_rfl) (all_cons (fit3 k) all_nil) fun x => by kernel_rfl
end impl_copyRows

namespace impl_Rules_copied
def S : Sp := ⟨148, ⟨[36], [36], [.bor], .own⟩, [.agg .lent kd36], [.agg .own kd36]⟩
theorem con (k : Nat) : Con Try.prog S (f k) := con_fn (nt := 12) (live := []) (Λ := noL) tok (all_cons (ok_con (impl_copyOf.con k)) all_nil) mixed Try.func148 (by kernel_rfl) all_nil fun x => by kernel_rfl
end impl_Rules_copied

namespace impl_Game_copied
def S : Sp := ⟨90, ⟨[38], [38], [.bor], .own⟩, [.agg .lent kd38], [.agg .own kd38]⟩
theorem con (k : Nat) : Con Try.prog S (f k) := con_fn (nt := 22) (live := []) (Λ := noL) tok (all_cons (ok_con (impl_copyRows.con k)) (all_cons (ok_con (impl_copyOf.con k)) (all_cons (ok_con (impl_Rules_copied.con k)) all_nil))) mixed Try.func90 (by kernel_rfl) all_nil fun x => by kernel_rfl
end impl_Game_copied

namespace impl_IsHand
def S : Sp := ⟨51, ⟨[22], [4], [.bor], .own⟩, [.V], [.B]⟩
def live : List (Nat × List Nat) := [(3, [3, 7, 8, 9]), (100003, [2])]
def G {R : Type} (k : Nat) : Glob R := mkG tt [impl_IsCard.S.ent (impl_IsCard.f k)] 24
def h3 : Hd := ⟨[.l (.arr 0 52), .V, .I, .I], [.row false .bools]⟩
def T3 {R : Type} (k : Nat) (K : X → St → Option R) : h3.Fn (Option R) := fun v0 v1 v2 v3 => l3 k v0 v1 (K .ret (stOf [2] [.one (.l (.b false))] [])) (K (.exit 0) (stOf [2] [.one (.l (.any))] [])) k v2 v3
def tab {R : Type} (k : Nat) : LTab R := fun id K vs hs => bif id == 3 then h3.tell vs hs (T3 k K) else none
theorem fit3 {R : Type} (k : Nat) : Fit (R := R) (G k) live (tab k) (bl Try.f51 0) := h3.fit (key := 3) (by kernel_rfl) (T3 k) (fun _ _ _ => rfl) fun K r v0 v1 v2 v3 h => fit_mk h (fun a => h3.mk' v0 v1 a.1 a.2) (fun _ _ v2 v3 => some (v2, v3)) (by kernel_rfl) (fun _ => by kernel_rfl) fun Lp a => by kernel_rfl
theorem con (k : Nat) : Con Try.prog S (f k) := con_fn (nt := 24) (live := live) (Λ := tab k) tok (all_cons (ok_con (impl_IsCard.con k)) all_nil) mixed Try.func51 (by kernel_rfl) (all_cons (fit3 k) all_nil) fun x => by kernel_rfl
end impl_IsHand

namespace impl_AllApart
def S : Sp := ⟨123, ⟨[29], [4], [.bor], .own⟩, [.l .lent .rows], [.B]⟩
def live : List (Nat × List Nat) := [(3, [3, 7, 8, 9]), (100003, [2, 3])]
def G {R : Type} (k : Nat) : Glob R := mkG tt [impl_IsHand.S.ent (impl_IsHand.f k)] 19
def h3 : Hd := ⟨[.l (.own 0), .W, .I, .I], [.V]⟩
def T3 {R : Type} (k : Nat) (K : X → St → Option R) : h3.Fn (Option R) := fun v0 v1 v2 v3 => l3 k v0 v1 (fun p0 => K (.exit 0) (stOf [2, 3] [.one (.l (.any)), .one (.l (.own 0))] [some (.row 0 0 (.ints .i64 p0))])) k v2 v3
def tab {R : Type} (k : Nat) : LTab R := fun id K vs hs => bif id == 3 then h3.tell vs hs (T3 k K) else none
theorem fit3 {R : Type} (k : Nat) : Fit (R := R) (G k) live (tab k) (bl Try.f123 0) := h3.fit (key := 3) (by kernel_rfl) (T3 k) (fun _ _ _ => rfl) fun K r v0 v1 v2 v3 h => fit_mk h (fun a => h3.mk' v0 v1 a.1 a.2) (fun _ _ v2 v3 => some (v2, v3)) (by kernel_rfl) (fun _ => by kernel_rfl) fun Lp a => by kernel_rfl
theorem con (k : Nat) : Con Try.prog S (f k) := con_fn (nt := 19) (live := live) (Λ := tab k) tok (all_cons (ok_con (impl_IsHand.con k)) all_nil) mixed Try.func123 (by kernel_rfl) (all_cons (fit3 k) all_nil) fun x => by kernel_rfl
end impl_AllApart

namespace impl_TotalCards
def S : Sp := ⟨124, ⟨[29], [3], [.bor], .own⟩, [.l .lent .rows], [.O]⟩
def live : List (Nat × List Nat) := [(3, [3, 6, 7, 8]), (100003, [2, 3])]
def G {R : Type} (k : Nat) : Glob R := mkG tt [] 18
def h3 : Hd := ⟨[.I, .W, .I, .I], []⟩
def T3 {R : Type} (k : Nat) (K : X → St → Option R) : h3.Fn (Option R) := fun v0 v1 v2 v3 => l3 k v1 v2 (fun p0 => K (.exit 0) (stOf [2, 3] [.one (.l (.any)), .one (.l (.i .i64 p0))] [])) k v0 v3
def tab {R : Type} (k : Nat) : LTab R := fun id K vs hs => bif id == 3 then h3.tell vs hs (T3 k K) else none
theorem fit3 {R : Type} (k : Nat) : Fit (R := R) (G k) live (tab k) (bl Try.f124 0) := h3.fit (key := 3) (by kernel_rfl) (T3 k) (fun _ _ _ => rfl) fun K r v0 v1 v2 v3 h => fit_mk h (fun a => h3.mk' a.1 v1 v2 a.2) (fun v0 _ _ v3 => some (v0, v3)) (by kernel_rfl) (fun _ => by kernel_rfl) fun Lp a => by kernel_rfl
theorem con (k : Nat) : Con Try.prog S (f k) := con_fn (nt := 18) (live := live) (Λ := tab k) tok all_nil mixed Try.func124 (by kernel_rfl) (all_cons (fit3 k) all_nil) fun x => by kernel_rfl
end impl_TotalCards

namespace impl_isWhole
def S : Sp := ⟨70, ⟨[29], [4], [.bor], .own⟩, [.l .lent .rows], [.B]⟩
theorem con (k : Nat) : Con Try.prog S (f k) := con_fn (nt := 10) (live := []) (Λ := noL) tok (all_cons (ok_con (impl_AllApart.con k)) (all_cons (ok_con (impl_TotalCards.con k)) all_nil)) mixed Try.func70 (by kernel_rfl) all_nil fun x => by kernel_rfl
end impl_isWhole

namespace impl_isTest
def S : Sp := ⟨200, ⟨[3], [4], [.bor], .own⟩, [.I], [.B]⟩
theorem con (k : Nat) : Con Try.prog S (f k) := con_fn (nt := 17) (live := []) (Λ := noL) tok (all_cons (ok_con (impl_InRange.con k)) all_nil) mixed Try.func200 (by kernel_rfl) all_nil fun x => by kernel_rfl
end impl_isTest

namespace impl_IsPattern
def S : Sp := ⟨183, ⟨[22], [4], [.bor], .own⟩, [.V], [.B]⟩
def live : List (Nat × List Nat) := [(3, [0, 3, 6, 7, 8]), (100003, [0, 2, 3])]
def G {R : Type} (k : Nat) : Glob R := mkG tt [impl_InRange.S.ent (impl_InRange.f k), impl_isTest.S.ent (impl_isTest.f k)] 45
def h3 : Hd := ⟨[.V, .I, .V, .I, .I], []⟩
def T3 {R : Type} (k : Nat) (K : X → St → Option R) : h3.Fn (Option R) := fun v0 v1 v2 v3 v4 => l3 k v2 v3 (fun p0 => K .ret (stOf [0, 2, 3] [.one (.l (.val false (.ints .i64 v0))), .one (.l (.b false)), .one (.l (.i .i64 p0))] [])) (fun p0 => K (.exit 0) (stOf [0, 2, 3] [.one (.l (.val false (.ints .i64 v0))), .one (.l (.any)), .one (.l (.i .i64 p0))] [])) k v1 v4
def tab {R : Type} (k : Nat) : LTab R := fun id K vs hs => bif id == 3 then h3.tell vs hs (T3 k K) else none
theorem fit3 {R : Type} (k : Nat) : Fit (R := R) (G k) live (tab k) (bl Try.f183 0) := h3.fit (key := 3) (by kernel_rfl) (T3 k) (fun _ _ _ => rfl) fun K r v0 v1 v2 v3 v4 h => fit_mk h (fun a => h3.mk' v0 a.1 v2 v3 a.2) (fun _ v1 _ _ v4 => some (v1, v4)) (by kernel_rfl) (fun _ => by kernel_rfl) fun Lp a => by kernel_rfl
theorem con (k : Nat) : Con Try.prog S (f k) := con_fn (nt := 45) (live := live) (Λ := tab k) tok (all_cons (ok_con (impl_InRange.con k)) (all_cons (ok_con (impl_isTest.con k)) all_nil)) mixed Try.func183 (by kernel_rfl) (all_cons (fit3 k) all_nil) fun x => by kernel_rfl
end impl_IsPattern

namespace impl_isMaybe
def S : Sp := ⟨154, ⟨[22], [4], [.bor], .own⟩, [.V], [.B]⟩
theorem con (k : Nat) : Con Try.prog S (f k) := con_fn (nt := 10) (live := []) (Λ := noL) tok (all_cons (ok_con (impl_IsPattern.con k)) all_nil) mixed Try.func154 (by kernel_rfl) all_nil fun x => by kernel_rfl
end impl_isMaybe

namespace impl_IsRules
def S : Sp := ⟨97, ⟨[36], [4], [.bor], .own⟩, [.agg .lent kd36], [.B]⟩
theorem con (k : Nat) : Con Try.prog S (f k) := con_fn (nt := 39) (live := []) (Λ := noL) tok (all_cons (ok_con (impl_InRange.con k)) (all_cons (ok_con (impl_isMaybe.con k)) all_nil)) mixed Try.func97 (by kernel_rfl) all_nil fun x => by kernel_rfl
end impl_IsRules

namespace impl_IsGame
def S : Sp := ⟨43, ⟨[38], [4], [.bor], .own⟩, [.agg .lent kd38], [.B]⟩
theorem con (k : Nat) : Con Try.prog S (f k) := con_fn (nt := 57) (live := []) (Λ := noL) tok (all_cons (ok_con (impl_isWhole.con k)) (all_cons (ok_con (impl_copyRows.con k)) (all_cons (ok_con (impl_IsRules.con k)) (all_cons (ok_con (impl_InRange.con k)) all_nil)))) mixed Try.func43 (by kernel_rfl) all_nil fun x => by kernel_rfl
end impl_IsGame

namespace impl_Winner
def S : Sp := ⟨99, ⟨[38], [3], [.bor], .own⟩, [.agg .lent kd38], [.O]⟩
def live : List (Nat × List Nat) := [(4, [9, 10, 11]), (100004, [2])]
def G {R : Type} (k : Nat) : Glob R := mkG tt [impl_IsGame.S.ent (impl_IsGame.f k)] 21
def h4 : Hd := ⟨[.W, .I, .I], []⟩
def T4 {R : Type} (k : Nat) (K : X → St → Option R) : h4.Fn (Option R) := fun v0 v1 v2 => l4 k v0 v1 (fun p0 => K .ret (stOf [2] [.one (.l (.i .i64 p0))] [])) (K (.exit 0) (stOf [2] [.one (.l (.any))] [])) k v2
def tab {R : Type} (k : Nat) : LTab R := fun id K vs hs => bif id == 4 then h4.tell vs hs (T4 k K) else none
theorem fit4 {R : Type} (k : Nat) : Fit (R := R) (G k) live (tab k) (bl Try.f99 0) := h4.fit (key := 4) (by kernel_rfl) (T4 k) (fun _ _ _ => rfl) fun K r v0 v1 v2 h => fit_mk h (fun a => h4.mk' v0 v1 a) (fun _ _ v2 => some v2) (by kernel_rfl) (fun _ => by kernel_rfl) fun Lp a => by kernel_rfl
theorem con (k : Nat) : Con Try.prog S (f k) := con_fn (nt := 21) (live := live) (Λ := tab k) tok (all_cons (ok_con (impl_IsGame.con k)) all_nil) mixed Try.func99 (by kernel_rfl) (all_cons (fit4 k) all_nil) fun x => by kernel_rfl
end impl_Winner

namespace impl_IsEnded
def S : Sp := ⟨44, ⟨[38], [4], [.bor], .own⟩, [.agg .lent kd38], [.B]⟩
theorem con (k : Nat) : Con Try.prog S (f k) := con_fn (nt := 26) (live := []) (Λ := noL) tok (all_cons (ok_con (impl_IsGame.con k)) (all_cons (ok_con (impl_Winner.con k)) all_nil)) mixed Try.func44 (by kernel_rfl) all_nil fun x => by kernel_rfl
end impl_IsEnded

namespace impl_TakeCards
def S : Sp := ⟨149, ⟨[38], [38, 4], [.bor], .own⟩, [.agg .lent kd38], [.agg .own kd38, .B]⟩
def live : List (Nat × List Nat) := [(6, [1, 2, 4, 5, 19, 20]), (100006, [1, 2, 3, 4, 5])]
def G {R : Type} (k : Nat) : Glob R := mkG tt [impl_IsGame.S.ent (impl_IsGame.f k), impl_IsEnded.S.ent (impl_IsEnded.f k), impl_Game_copied.S.ent (impl_Game_copied.f k), impl_copyOf.S.ent (impl_copyOf.f k)] 91
def h6 : Hd := ⟨[.l (.ptr 0 0), .l (.ptr 1 0), .l (.ptr 2 0), .I, .I, .I], [.box [.I, .I, .b, .b, .V, .V, .I, .I, .W, .V, .V, .I, .I, .I], .box [.I, .I, .bc false, .bc false, .nil, .nil, .I, .I, .nil, .nil, .nil, .I, .I, .I], .box [.I, .I, .b, .b, .own 3, .own 4, .I, .I, .own 5, .own 6, .own 7, .I, .I, .I], .V, .V, .W, .V, .V]⟩
def T6 {R : Type} (k : Nat) (K : X → St → Option R) : h6.Fn (Option R) := fun v0 v1 v2 v3 v4 v5 v6 v7 v8 v9 v10 v11 v12 v13 v14 v15 v16 v17 v18 v21 v22 v23 v24 v25 v26 v27 v28 v29 v30 v31 v32 v33 v34 v35 v36 v37 v38 v39 => l6 k v1 v14 (fun p0 p1 p2 p3 => K (.exit 0) (stOf [1, 2, 3, 4, 5] [.one (.l (.bptr 0 0)), .one (.l (.bptr 1 0)), .one (.l (.any)), .one (.l (.bptr 2 0)), .one (.l (.i .i64 p0))] [some (.box 0 [.i .i64 v3, .i .i64 v4, .b v5, .b v6, .val false (.ints .i64 v7), .val false (.ints .i64 v8), .i .i64 v9, .i .i64 v10, .val false (.rows false v11), .val false (.ints .i64 v12), .val false (.ints .i64 v13), .i .i64 v14, .i .i64 v15, .i .i64 v16]), some (.box 0 [.i .i64 v17, .i .i64 v18, .b false, .b false, .nil, .nil, .i .i64 v21, .i .i64 v22, .nil, .nil, .nil, .i .i64 v23, .i .i64 v24, .i .i64 v25]), some (.box 0 [.i .i64 v26, .i .i64 v27, .b v28, .b v29, .own 3, .own 4, .i .i64 v30, .i .i64 v31, .own 5, .own 6, .own 7, .i .i64 v32, .i .i64 v33, .i .i64 v34]), some (.row 0 0 (.ints .i64 v35)), some (.row 0 0 (.ints .i64 v36)), some (.row 0 0 (.rows true p1)), some (.row 0 0 (.ints .i64 p2)), some (.row 0 0 (.ints .i64 p3))])) k v0 v2 v37 v38 v39
def tab {R : Type} (k : Nat) : LTab R := fun id K vs hs => bif id == 6 then h6.tell vs hs (T6 k K) else none
theorem fit6 {R : Type} (k : Nat) : Fit (R := R) (G k) live (tab k) (bl Try.f149 0) := h6.fit (key := 6) (by kernel_rfl) (T6 k) (fun _ _ _ => rfl) fun K r v0 v1 v2 v3 v4 v5 v6 v7 v8 v9 v10 v11 v12 v13 v14 v15 v16 v17 v18 v21 v22 v23 v24 v25 v26 v27 v28 v29 v30 v31 v32 v33 v34 v35 v36 v37 v38 v39 h => fit_mk h (fun a => h6.mk' a.1 v1 a.2.1 v3 v4 v5 v6 v7 v8 v9 v10 v11 v12 v13 v14 v15 v16 v17 v18 v21 v22 v23 v24 v25 v26 v27 v28 v29 v30 v31 v32 v33 v34 v35 v36 (t2 a).1 (t3 a).1 (t4 a)) (fun v0 _ v2 _ _ _ _ _ _ _ _ _ _ _ _ _ _ _ _ _ _ _ _ _ _ _ _ _ _ _ _ _ _ _ _ v37 v38 v39 => some (v0, v2, v37, v38, v39)) (by kernel_rfl) (fun _ => by kernel_rfl) fun Lp a => by kernel_rfl
theorem con (k : Nat) : Con Try.prog S (f k) := con_fn (nt := 91) (live := live) (Λ := tab k) tok (all_cons (ok_con (impl_IsGame.con k)) (all_cons (ok_con (impl_IsEnded.con k)) (all_cons (ok_con (impl_Game_copied.con k)) (all_cons (ok_con (impl_copyOf.con k)) all_nil)))) mixed Try.func149 (by kernel_rfl) (all_cons (fit6 k) all_nil) fun x => by kernel_rfl
end impl_TakeCards

namespace impl_Sorted
def S : Sp := ⟨95, ⟨[22], [22], [.bor], .own⟩, [.V], [.l .own (.ints .i64)]⟩
def live : List (Nat × List Nat) := [(6, [3, 5, 6, 8, 9, 10]), (100006, [2, 3, 5, 6, 8, 9, 10]), (3, [3, 8, 9, 10]), (100003, [2, 3])]
def G {R : Type} (k : Nat) : Glob R := mkG tt [] 46
def h6 : Hd := ⟨[.l (.own 0), .I, .I, .V, .I, .I], [.V]⟩
def T6 {R : Type} (k : Nat) (K : X → St → Option R) : h6.Fn (Option R) := fun v0 v1 v2 v3 v4 v5 => l6 k v0 v5 (fun p0 => K (.exit 2) (stOf [2, 3, 5, 6, 8, 9, 10] [.one (.l (.any)), .one (.l (.own 0)), .one (.l (.i .i64 v0)), .one (.l (.i .i64 p0)), .one (.l (.val false (.ints .i64 v2))), .one (.l (.i .i64 v3)), .one (.l (.i .i64 v4))] [some (.row 0 0 (.ints .i64 v5))])) k v1
def h3 : Hd := ⟨[.l (.own 0), .V, .I, .I], [.V]⟩
def T3 {R : Type} (k : Nat) (K : X → St → Option R) : h3.Fn (Option R) := fun v0 v1 v2 v3 => l3 k v0 v1 (fun p0 => K (.exit 0) (stOf [2, 3] [.one (.l (.any)), .one (.l (.own 0))] [some (.row 0 0 (.ints .i64 p0))])) k v2 v3
def tab {R : Type} (k : Nat) : LTab R := fun id K vs hs => bif id == 6 then h6.tell vs hs (T6 k K) else bif id == 3 then h3.tell vs hs (T3 k K) else none
theorem fit3 {R : Type} (k : Nat) : Fit (R := R) (G k) live (tab k) (bl Try.f95 0) := h3.fit (key := 3) (by kernel_rfl) (T3 k) (fun _ _ _ => rfl) fun K r v0 v1 v2 v3 h => fit_mk h (fun a => h3.mk' v0 v1 a.1 a.2) (fun _ _ v2 v3 => some (v2, v3)) (by kernel_rfl) (fun _ => by kernel_rfl) fun Lp a => by kernel_rfl
theorem fit6 {R : Type} (k : Nat) : Fit (R := R) (G k) live (tab k) (bl Try.f95 1) := h6.fit (key := 6) (by kernel_rfl) (T6 k) (fun _ _ _ => rfl) fun K r v0 v1 v2 v3 v4 v5 h => fit_mk h (fun a => h6.mk' v0 a v2 v3 v4 v5) (fun _ v1 _ _ _ _ => some v1) (by kernel_rfl) (fun _ => by kernel_rfl) fun Lp a => by kernel_rfl
theorem con (k : Nat) : Con Try.prog S (f k) := con_fn (nt := 46) (live := live) (Λ := tab k) tok all_nil mixed Try.func95 (by kernel_rfl) (all_cons (fit3 k) (all_cons (fit6 k) all_nil)) fun x => by kernel_rfl
end impl_Sorted

namespace impl_SuitOf
def S : Sp := ⟨94, ⟨[3], [3], [.bor], .own⟩, [.I], [.O]⟩
theorem con (k : Nat) : Con Try.prog S (f k) := con_fn (nt := 8) (live := []) (Λ := noL) tok (all_cons (ok_con (impl_IsCard.con k)) all_nil) mixed Try.func94 (by kernel_rfl) all_nil fun x => by kernel_rfl
end impl_SuitOf

namespace impl_RankOf
def S : Sp := ⟨153, ⟨[3], [3], [.bor], .own⟩, [.I], [.O]⟩
theorem con (k : Nat) : Con Try.prog S (f k) := con_fn (nt := 8) (live := []) (Λ := noL) tok (all_cons (ok_con (impl_IsCard.con k)) all_nil) mixed Try.func153 (by kernel_rfl) all_nil fun x => by kernel_rfl
end impl_RankOf

namespace impl_IsRed
def S : Sp := ⟨194, ⟨[3], [4], [.bor], .own⟩, [.I], [.B]⟩
theorem con (k : Nat) : Con Try.prog S (f k) := con_fn (nt := 11) (live := []) (Λ := noL) tok (all_cons (ok_con (impl_SuitOf.con k)) all_nil) mixed Try.func194 (by kernel_rfl) all_nil fun x => by kernel_rfl
end impl_IsRed

namespace impl_asks
def S : Sp := ⟨184, ⟨[3, 3], [4], [.bor, .bor], .own⟩, [.I, .I], [.B]⟩
theorem con (k : Nat) : Con Try.prog S (f k) := con_fn (nt := 31) (live := []) (Λ := noL) tok (all_cons (ok_con (impl_SuitOf.con k)) (all_cons (ok_con (impl_RankOf.con k)) (all_cons (ok_con (impl_IsRed.con k)) all_nil))) mixed Try.func184 (by kernel_rfl) all_nil fun x => by kernel_rfl
end impl_asks

namespace impl_Matches
def S : Sp := ⟨151, ⟨[22, 3], [4], [.bor, .bor], .own⟩, [.V, .I], [.B]⟩
def live : List (Nat × List Nat) := [(5, [1, 5, 18, 19, 20]), (100005, [4, 5])]
def G {R : Type} (k : Nat) : Glob R := mkG tt [impl_IsCard.S.ent (impl_IsCard.f k), impl_IsPattern.S.ent (impl_IsPattern.f k), impl_asks.S.ent (impl_asks.f k)] 89
def h5 : Hd := ⟨[.I, .l (.own 0), .V, .I, .I], [.row false .bools]⟩
def T5 {R : Type} (k : Nat) (K : X → St → Option R) : h5.Fn (Option R) := fun v0 v1 v2 v3 v4 => l5 k v0 v1 v2 (fun p0 => K (.exit 0) (stOf [4, 5] [.one (.l (.any)), .one (.l (.own 0))] [some (.row 0 0 (.bools p0))])) k v3 v4
def tab {R : Type} (k : Nat) : LTab R := fun id K vs hs => bif id == 5 then h5.tell vs hs (T5 k K) else none
theorem fit5 {R : Type} (k : Nat) : Fit (R := R) (G k) live (tab k) (bl Try.f151 0) := h5.fit (key := 5) (by kernel_rfl) (T5 k) (fun _ _ _ => rfl) fun K r v0 v1 v2 v3 v4 h => fit_mk h (fun a => h5.mk' v0 v1 v2 a.1 a.2) (fun _ _ _ v3 v4 => some (v3, v4)) (by kernel_rfl) (fun _ => by kernel_rfl) fun Lp a => by kernel_rfl
theorem con (k : Nat) : Con Try.prog S (f k) := con_fn (nt := 89) (live := live) (Λ := tab k) tok (all_cons (ok_con (impl_IsCard.con k)) (all_cons (ok_con (impl_IsPattern.con k)) (all_cons (ok_con (impl_asks.con k)) all_nil))) mixed Try.func151 (by kernel_rfl) (all_cons (fit5 k) all_nil) fun x => by kernel_rfl
end impl_Matches

namespace impl_FitsOn
def S : Sp := ⟨96, ⟨[36, 3, 3], [4], [.bor, .bor, .bor], .own⟩, [.agg .lent kd36, .I, .I], [.B]⟩
theorem con (k : Nat) : Con Try.prog S (f k) := con_fn (nt := 46) (live := []) (Λ := noL) tok (all_cons (ok_con (impl_IsCard.con k)) (all_cons (ok_con (impl_SuitOf.con k)) (all_cons (ok_con (impl_IsRules.con k)) (all_cons (ok_con (impl_Matches.con k)) (all_cons (ok_con (impl_RankOf.con k)) all_nil))))) mixed Try.func96 (by kernel_rfl) all_nil fun x => by kernel_rfl
end impl_FitsOn

namespace impl_Playable
def S : Sp := ⟨42, ⟨[38], [22], [.bor], .own⟩, [.agg .lent kd38], [.l .own (.ints .i64)]⟩
def live : List (Nat × List Nat) := [(5, [1, 3, 20, 21, 22]), (100005, [2, 3])]
def G {R : Type} (k : Nat) : Glob R := mkG tt [impl_IsGame.S.ent (impl_IsGame.f k), impl_IsEnded.S.ent (impl_IsEnded.f k), impl_Sorted.S.ent (impl_Sorted.f k), impl_FitsOn.S.ent (impl_FitsOn.f k)] 44
def h5 : Hd := ⟨[.l (.ptr 0 0), .l (.own 1), .l (.own 2), .I, .I], [.box [.I, .I, .b, .b, .V, .V, .I, .I, .W, .V, .V, .I, .I, .I], .V, .V]⟩
def T5 {R : Type} (k : Nat) (K : X → St → Option R) : h5.Fn (Option R) := fun v0 v1 v2 v3 v4 v5 v6 v7 v8 v9 _ _ v12 _ _ _ v16 v17 => l5 k v0 v2 v3 v4 v5 v6 v7 v8 v9 v12 v17 (fun p0 => K (.exit 0) (stOf [2, 3] [.one (.l (.any)), .one (.l (.own 0))] [some (.row 0 0 (.ints .i64 p0))])) k v1 v16
def tab {R : Type} (k : Nat) : LTab R := fun id K vs hs => bif id == 5 then h5.tell vs hs (T5 k K) else none
theorem fit5 {R : Type} (k : Nat) : Fit (R := R) (G k) live (tab k) (bl Try.f42 0) := h5.fit (key := 5) (by kernel_rfl) (T5 k) (fun _ _ _ => rfl) fun K r v0 v1 v2 v3 v4 v5 v6 v7 v8 v9 v10 v11 v12 v13 v14 v15 v16 v17 h => fit_mk h (fun a => h5.mk' v0 a.1 v2 v3 v4 v5 v6 v7 v8 v9 v10 v11 v12 v13 v14 v15 a.2 v17) (fun _ v1 _ _ _ _ _ _ _ _ _ _ _ _ _ _ v16 _ => some (v1, v16)) (by kernel_rfl) (fun _ => by kernel_rfl) fun Lp a => by kernel_rfl
theorem con (k : Nat) : Con Try.prog S (f k) := con_fn (nt := 44) (live := live) (Λ := tab k) tok (all_cons (ok_con (impl_IsGame.con k)) (all_cons (ok_con (impl_IsEnded.con k)) (all_cons (ok_con (impl_Sorted.con k)) (all_cons (ok_con (impl_FitsOn.con k)) all_nil)))) mixed Try.func42 (by kernel_rfl) (all_cons (fit5 k) all_nil) fun x => by kernel_rfl
end impl_Playable

namespace impl_DoesSkip
def S : Sp := ⟨92, ⟨[36, 3], [4], [.bor, .bor], .own⟩, [.agg .lent kd36, .I], [.B]⟩
theorem con (k : Nat) : Con Try.prog S (f k) := con_fn (nt := 13) (live := []) (Λ := noL) tok (all_cons (ok_con (impl_IsRules.con k)) (all_cons (ok_con (impl_Matches.con k)) all_nil)) mixed Try.func92 (by kernel_rfl) all_nil fun x => by kernel_rfl
end impl_DoesSkip

namespace impl_PlaceOf
def S : Sp := ⟨199, ⟨[22, 3], [3], [.bor, .bor], .own⟩, [.V, .I], [.O]⟩
def live : List (Nat × List Nat) := [(2, [1, 7, 8, 9]), (100002, [4])]
def G {R : Type} (k : Nat) : Glob R := mkG tt [] 19
def h2 : Hd := ⟨[.I, .V, .I, .I], []⟩
def T2 {R : Type} (k : Nat) (K : X → St → Option R) : h2.Fn (Option R) := fun v0 v1 v2 v3 => l2 k v0 v1 v2 (fun p0 => K .ret (stOf [4] [.one (.l (.i .i64 p0))] [])) (K (.exit 0) (stOf [4] [.one (.l (.any))] [])) k v3
def tab {R : Type} (k : Nat) : LTab R := fun id K vs hs => bif id == 2 then h2.tell vs hs (T2 k K) else none
theorem fit2 {R : Type} (k : Nat) : Fit (R := R) (G k) live (tab k) (bl Try.f199 0) := h2.fit (key := 2) (by kernel_rfl) (T2 k) (fun _ _ _ => rfl) fun K r v0 v1 v2 v3 h => fit_mk h (fun a => h2.mk' v0 v1 v2 a) (fun _ _ _ v3 => some v3) (by kernel_rfl) (fun _ => by kernel_rfl) fun Lp a => by kernel_rfl
theorem con (k : Nat) : Con Try.prog S (f k) := con_fn (nt := 19) (live := live) (Λ := tab k) tok all_nil mixed Try.func199 (by kernel_rfl) (all_cons (fit2 k) all_nil) fun x => by kernel_rfl
end impl_PlaceOf

namespace impl_HasCard
def S : Sp := ⟨181, ⟨[22, 3], [4], [.bor, .bor], .own⟩, [.V, .I], [.B]⟩
theorem con (k : Nat) : Con Try.prog S (f k) := con_fn (nt := 9) (live := []) (Λ := noL) tok (all_cons (ok_con (impl_PlaceOf.con k)) all_nil) mixed Try.func181 (by kernel_rfl) all_nil fun x => by kernel_rfl
end impl_HasCard

namespace impl_Without
def S : Sp := ⟨182, ⟨[22, 3], [22], [.bor, .bor], .own⟩, [.V, .I], [.l .own (.ints .i64)]⟩
def live : List (Nat × List Nat) := [(3, [1, 5, 9, 10, 11]), (100003, [4, 5])]
def G {R : Type} (k : Nat) : Glob R := mkG tt [] 24
def h3 : Hd := ⟨[.I, .l (.own 0), .V, .I, .I], [.V]⟩
def T3 {R : Type} (k : Nat) (K : X → St → Option R) : h3.Fn (Option R) := fun v0 v1 v2 v3 v4 => l3 k v0 v1 v2 (fun p0 => K (.exit 0) (stOf [4, 5] [.one (.l (.any)), .one (.l (.own 0))] [some (.row 0 0 (.ints .i64 p0))])) k v3 v4
def tab {R : Type} (k : Nat) : LTab R := fun id K vs hs => bif id == 3 then h3.tell vs hs (T3 k K) else none
theorem fit3 {R : Type} (k : Nat) : Fit (R := R) (G k) live (tab k) (bl Try.f182 0) := h3.fit (key := 3) (by kernel_rfl) (T3 k) (fun _ _ _ => rfl) fun K r v0 v1 v2 v3 v4 h => fit_mk h (fun a => h3.mk' v0 v1 v2 a.1 a.2) (fun _ _ _ v3 v4 => some (v3, v4)) (by kernel_rfl) (fun _ => by kernel_rfl) fun Lp a => by kernel_rfl
theorem con (k : Nat) : Con Try.prog S (f k) := con_fn (nt := 24) (live := live) (Λ := tab k) tok all_nil mixed Try.func182 (by kernel_rfl) (all_cons (fit3 k) all_nil) fun x => by kernel_rfl
end impl_Without

namespace impl_PlayOn
def S : Sp := ⟨150, ⟨[38, 3], [38, 4], [.bor, .bor], .own⟩, [.agg .lent kd38, .I], [.agg .own kd38, .B]⟩
theorem con (k : Nat) : Con Try.prog S (f k) := con_fn (nt := 54) (live := []) (Λ := noL) tok (all_cons (ok_con (impl_Playable.con k)) (all_cons (ok_con (impl_Game_copied.con k)) (all_cons (ok_con (impl_DoesSkip.con k)) (all_cons (ok_con (impl_HasCard.con k)) (all_cons (ok_con (impl_Without.con k)) all_nil))))) mixed Try.func150 (by kernel_rfl) all_nil fun x => by kernel_rfl
end impl_PlayOn

namespace impl_ReplayMove
def S : Sp := ⟨91, ⟨[38, 3], [38, 4], [.bor, .bor], .own⟩, [.agg .lent kd38, .I], [.agg .own kd38, .B]⟩
theorem con (k : Nat) : Con Try.prog S (f k) := con_fn (nt := 17) (live := []) (Λ := noL) tok (all_cons (ok_con (impl_TakeCards.con k)) (all_cons (ok_con (impl_PlayOn.con k)) all_nil)) mixed Try.func91 (by kernel_rfl) all_nil fun x => by kernel_rfl
end impl_ReplayMove

namespace impl_TurnsOf
def S : Sp := ⟨33, ⟨[38, 22], [22], [.bor, .bor], .own⟩, [.agg .lent kd38, .V], [.l .own (.ints .i64)]⟩
def live : List (Nat × List Nat) := [(3, [5, 6, 17, 18, 19]), (100003, [4, 5])]
def G {R : Type} (k : Nat) : Glob R := mkG tt [impl_Game_copied.S.ent (impl_Game_copied.f k), impl_ReplayMove.S.ent (impl_ReplayMove.f k)] 41
def h3 : Hd := ⟨[.l (.own 0), .l (.ptr 1 0), .V, .I, .I], [.V, .box [.I, .I, .b, .b, .own 2, .own 3, .I, .I, .own 4, .own 5, .own 6, .I, .I, .I], .V, .V, .W, .V, .V]⟩
def T3 {R : Type} (k : Nat) (K : X → St → Option R) : h3.Fn (Option R) := fun v0 v1 v2 v3 v4 v5 v6 v7 v8 v9 v10 v11 v12 v13 v14 v15 v16 v17 => l3 k v0 v1 (fun p0 => K (.exit 0) (stOf [4, 5] [.one (.l (.any)), .one (.l (.own 0))] [some (.row 0 0 (.ints .i64 p0))])) k v2 v3 v4 v5 v6 v7 v8 v9 v10 v11 v12 v13 v14 v15 v16 v17
def tab {R : Type} (k : Nat) : LTab R := fun id K vs hs => bif id == 3 then h3.tell vs hs (T3 k K) else none
theorem fit3 {R : Type} (k : Nat) : Fit (R := R) (G k) live (tab k) (bl Try.f33 0) := h3.fit (key := 3) (by kernel_rfl) (T3 k) (fun _ _ _ => rfl) fun K r v0 v1 v2 v3 v4 v5 v6 v7 v8 v9 v10 v11 v12 v13 v14 v15 v16 v17 h => fit_mk h (fun a => h3.mk' v0 v1 a.1 a.2.1 (t2 a).1 (t3 a).1 (t4 a).1 (t5 a).1 (t6 a).1 (t7 a).1 (t8 a).1 (t9 a).1 (t9 a.2).1 (t9 (t2 a)).1 (t9 (t3 a)).1 (t9 (t4 a)).1 (t9 (t5 a)).1 (t9 (t6 a))) (fun _ _ v2 v3 v4 v5 v6 v7 v8 v9 v10 v11 v12 v13 v14 v15 v16 v17 => some (v2, v3, v4, v5, v6, v7, v8, v9, v10, v11, v12, v13, v14, v15, v16, v17)) (by kernel_rfl) (fun _ => by kernel_rfl) fun Lp a => by kernel_rfl
theorem con (k : Nat) : Con Try.prog S (f k) := con_fn (nt := 41) (live := live) (Λ := tab k) tok (all_cons (ok_con (impl_Game_copied.con k)) (all_cons (ok_con (impl_ReplayMove.con k)) all_nil)) mixed Try.func33 (by kernel_rfl) (all_cons (fit3 k) all_nil) fun x => by kernel_rfl
end impl_TurnsOf

namespace impl_Replayed
def S : Sp := ⟨34, ⟨[38, 22], [38, 3], [.bor, .bor], .own⟩, [.agg .lent kd38, .V], [.agg .own kd38, .O]⟩
def live : List (Nat × List Nat) := [(3, [1, 4, 6, 13, 14, 15]), (100003, [1, 4, 5, 6])]
def G {R : Type} (k : Nat) : Glob R := mkG tt [impl_Game_copied.S.ent (impl_Game_copied.f k), impl_ReplayMove.S.ent (impl_ReplayMove.f k)] 35
def h3 : Hd := ⟨[.V, .l (.ptr 0 0), .l (.ptr 1 0), .V, .I, .I], [.box [.I, .I, .bc false, .bc false, .nil, .nil, .I, .I, .nil, .nil, .nil, .I, .I, .I], .box [.I, .I, .b, .b, .own 2, .own 3, .I, .I, .own 4, .own 5, .own 6, .I, .I, .I], .V, .V, .W, .V, .V]⟩
def T3 {R : Type} (k : Nat) (K : X → St → Option R) : h3.Fn (Option R) := fun v0 v1 v2 v3 v4 v5 v8 v9 v10 v11 v12 v13 v14 v15 v16 v17 v18 v19 v20 v21 v22 v23 v24 v25 v26 => l3 k v1 v2 (fun p0 p1 p2 p3 p4 p5 p6 p7 p8 p9 p10 p11 p12 p13 p14 => K .ret (stOf [1, 4, 5, 6] [.one (.l (.val false (.ints .i64 v0))), .one (.l (.bptr 0 0)), .one (.l (.i .i64 p0)), .one (.l (.bptr 6 0))] [some (.box 0 [.i .i64 p1, .i .i64 p2, .b p3, .b p4, .own 1, .own 2, .i .i64 p5, .i .i64 p6, .own 3, .own 4, .own 5, .i .i64 p7, .i .i64 p8, .i .i64 p9]), some (.row 0 0 (.ints .i64 p10)), some (.row 0 0 (.ints .i64 p11)), some (.row 0 0 (.rows true p12)), some (.row 0 0 (.ints .i64 p13)), some (.row 0 0 (.ints .i64 p14)), some (.box 0 [.i .i64 p1, .i .i64 p2, .b p3, .b p4, .own 1, .own 2, .i .i64 p5, .i .i64 p6, .own 3, .own 4, .own 5, .i .i64 p7, .i .i64 p8, .i .i64 p9])])) (fun p0 p1 p2 p3 p4 p5 p6 p7 p8 p9 p10 p11 p12 p13 => K (.exit 0) (stOf [1, 4, 5, 6] [.one (.l (.val false (.ints .i64 v0))), .one (.l (.bptr 0 0)), .one (.l (.any)), .one (.l (.bptr 1 0))] [some (.box 0 [.i .i64 v4, .i .i64 v5, .b false, .b false, .nil, .nil, .i .i64 v8, .i .i64 v9, .nil, .nil, .nil, .i .i64 v10, .i .i64 v11, .i .i64 v12]), some (.box 0 [.i .i64 p0, .i .i64 p1, .b p2, .b p3, .own 2, .own 3, .i .i64 p4, .i .i64 p5, .own 4, .own 5, .own 6, .i .i64 p6, .i .i64 p7, .i .i64 p8]), some (.row 0 0 (.ints .i64 p9)), some (.row 0 0 (.ints .i64 p10)), some (.row 0 0 (.rows true p11)), some (.row 0 0 (.ints .i64 p12)), some (.row 0 0 (.ints .i64 p13))])) k v3 v13 v14 v15 v16 v17 v18 v19 v20 v21 v22 v23 v24 v25 v26
def tab {R : Type} (k : Nat) : LTab R := fun id K vs hs => bif id == 3 then h3.tell vs hs (T3 k K) else none
theorem fit3 {R : Type} (k : Nat) : Fit (R := R) (G k) live (tab k) (bl Try.f34 0) := h3.fit (key := 3) (by kernel_rfl) (T3 k) (fun _ _ _ => rfl) fun K r v0 v1 v2 v3 v4 v5 v8 v9 v10 v11 v12 v13 v14 v15 v16 v17 v18 v19 v20 v21 v22 v23 v24 v25 v26 h => fit_mk h (fun a => h3.mk' v0 v1 v2 a.1 v4 v5 v8 v9 v10 v11 v12 a.2.1 (t2 a).1 (t3 a).1 (t4 a).1 (t5 a).1 (t6 a).1 (t7 a).1 (t8 a).1 (t9 a).1 (t9 a.2).1 (t9 (t2 a)).1 (t9 (t3 a)).1 (t9 (t4 a)).1 (t9 (t5 a))) (fun _ _ _ v3 _ _ _ _ _ _ _ v13 v14 v15 v16 v17 v18 v19 v20 v21 v22 v23 v24 v25 v26 => some (v3, v13, v14, v15, v16, v17, v18, v19, v20, v21, v22, v23, v24, v25, v26)) (by kernel_rfl) (fun _ => by kernel_rfl) fun Lp a => by kernel_rfl
theorem con (k : Nat) : Con Try.prog S (f k) := con_fn (nt := 35) (live := live) (Λ := tab k) tok (all_cons (ok_con (impl_Game_copied.con k)) (all_cons (ok_con (impl_ReplayMove.con k)) all_nil)) mixed Try.func34 (by kernel_rfl) (all_cons (fit3 k) all_nil) fun x => by kernel_rfl
end impl_Replayed

namespace spec_DrawSkipsIn
def S : Sp := ⟨35, ⟨[57], [36, 22], [.frz], .own⟩, [.l .frz (.ints .u8)], [.agg .own kd36, .l .own (.ints .i64)]⟩
theorem con (k : Nat) : Con Try.prog S (f k) := con_fn (nt := 14) (live := []) (Λ := noL) tok (all_cons (ok_con (spec_DrawReplayed.con k)) all_nil) mixed Try.func35 (by kernel_rfl) all_nil fun x => by kernel_rfl
end spec_DrawSkipsIn

namespace laws_sum
def S : Sp := ⟨36, ⟨[22], [3], [.bor], .own⟩, [.V], [.O]⟩
def live : List (Nat × List Nat) := [(3, [0, 3, 4]), (100003, [2, 3])]
def G {R : Type} (k : Nat) : Glob R := mkG tt [] 18
def h3 : Hd := ⟨[.V, .I, .I], []⟩
def T3 {R : Type} (k : Nat) (K : X → St → Option R) : h3.Fn (Option R) := fun v0 v1 v2 => l3 k v0 (fun p0 => K (.exit 0) (stOf [2, 3] [.one (.l (.any)), .one (.l (.i .i64 p0))] [])) k v1 v2
def tab {R : Type} (k : Nat) : LTab R := fun id K vs hs => bif id == 3 then h3.tell vs hs (T3 k K) else none
theorem fit3 {R : Type} (k : Nat) : Fit (R := R) (G k) live (tab k) (bl Try.f36 0) := h3.fit (key := 3) (by kernel_rfl) (T3 k) (fun _ _ _ => rfl) fun K r v0 v1 v2 h => fit_mk h (fun a => h3.mk' v0 a.1 a.2) (fun _ v1 v2 => some (v1, v2)) (by kernel_rfl) (fun _ => by kernel_rfl) fun Lp a => by kernel_rfl
theorem con (k : Nat) : Con Try.prog S (f k) := con_fn (nt := 18) (live := live) (Λ := tab k) tok all_nil mixed Try.func36 (by kernel_rfl) (all_cons (fit3 k) all_nil) fun x => by kernel_rfl
end laws_sum

namespace impl_SkipsIn
def S : Sp := ⟨37, ⟨[36, 22], [3], [.bor, .bor], .own⟩, [.agg .lent kd36, .V], [.O]⟩
def live : List (Nat × List Nat) := [(3, [2, 5, 8, 9, 10]), (100003, [4, 5])]
def G {R : Type} (k : Nat) : Glob R := mkG tt [impl_DoesSkip.S.ent (impl_DoesSkip.f k)] 21
def h3 : Hd := ⟨[.l (.ptr 0 0), .I, .V, .I, .I], [.box [.I, .I, .b, .b, .V, .V, .I, .I]]⟩
def T3 {R : Type} (k : Nat) (K : X → St → Option R) : h3.Fn (Option R) := fun v0 v1 v2 v3 v4 v5 v6 v7 v8 v9 v10 v11 => l3 k v1 v2 v4 v5 v6 v7 v8 v9 v10 v11 (fun p0 => K (.exit 0) (stOf [4, 5] [.one (.l (.any)), .one (.l (.i .i64 p0))] [])) k v0 v3
def tab {R : Type} (k : Nat) : LTab R := fun id K vs hs => bif id == 3 then h3.tell vs hs (T3 k K) else none
theorem fit3 {R : Type} (k : Nat) : Fit (R := R) (G k) live (tab k) (bl Try.f37 0) := h3.fit (key := 3) (by kernel_rfl) (T3 k) (fun _ _ _ => rfl) fun K r v0 v1 v2 v3 v4 v5 v6 v7 v8 v9 v10 v11 h => fit_mk h (fun a => h3.mk' a.1 v1 v2 a.2 v4 v5 v6 v7 v8 v9 v10 v11) (fun v0 _ _ v3 _ _ _ _ _ _ _ _ => some (v0, v3)) (by kernel_rfl) (fun _ => by kernel_rfl) fun Lp a => by kernel_rfl
theorem con (k : Nat) : Con Try.prog S (f k) := con_fn (nt := 21) (live := live) (Λ := tab k) tok (all_cons (ok_con (impl_DoesSkip.con k)) all_nil) mixed Try.func37 (by kernel_rfl) (all_cons (fit3 k) all_nil) fun x => by kernel_rfl
end impl_SkipsIn

namespace laws_FnTallies
def S : Sp := ⟨7, ⟨[57], [4], [.frz], .own⟩, [.l .frz (.ints .u8)], [.B]⟩
theorem con (k : Nat) : Con Try.prog S (f k) := con_fn (nt := 83) (live := []) (Λ := noL) tok (all_cons (ok_con (laws_big.con k)) (all_cons (ok_con (spec_DrawCardsPlayed.con k)) (all_cons (ok_con (impl_CardsPlayed.con k)) (all_cons (ok_con (impl_LongestPlays.con k)) (all_cons (ok_con (impl_CountTakes.con k)) (all_cons (ok_con (spec_DrawTurnsOf.con k)) (all_cons (ok_con (impl_TurnsOf.con k)) (all_cons (ok_con (impl_Replayed.con k)) (all_cons (ok_con (spec_DrawSkipsIn.con k)) (all_cons (ok_con (laws_sum.con k)) (all_cons (ok_con (impl_SkipsIn.con k)) all_nil))))))))))) mixed Try.func7 (by kernel_rfl) all_nil fun x => by kernel_rfl
end laws_FnTallies
end Go.Proofs.Ytfmmdbnkeadieaa
