/- That the Go functions come to the answers of the plain ones. Printed by a program. -/
import Derived.Test.YtfbafmeeejmgoaaGreatT
import Derived.Test.YtfbafmeeejmgoaaGreatFFnRecords
import Derived.Test.YtfbafmeeejmgoaaGreatShelf
set_option linter.unusedVariables false
set_option maxRecDepth 100000
set_option maxHeartbeats 20000000
namespace Go.Proofs.YtfbafmeeejmgoaaGreat
open Go Go.Proofs.YtfbafmeeejmgoaaGreat.V Go.Proofs.YtfbafmeeejmgoaaGreat.M

namespace laws_big
def S : Sp := ⟨5, ⟨[22], [4], [.frz], .own⟩, [.l .frz (.ints .u8)], [.B]⟩
theorem con (k : Nat) : Con Tryz.prog S (f k) := con_fn (nt := 6) (live := []) (Λ := noL) tok all_nil mixed Tryz.func5 (by kernel_rfl) all_nil fun x => by kernel_rfl
end laws_big

namespace spec_l1New
def S : Sp := ⟨61, ⟨[22], [78], [.frz], .own⟩, [.l .frz (.ints .u8)], [.ptr kd108]⟩
def live : List (Nat × List Nat) := [(3, [0, 3, 4]), (100003, [0, 2, 3])]
def G {R : Type} (k : Nat) : Glob R := mkG tt [] 32
def h3 : Hd := ⟨[.l (.val true false (.ints .u8)), .I, .I], []⟩
def T3 {R : Type} (k : Nat) (K : X → St → Option R) : h3.Fn (Option R) := fun v0 v1 v2 => l3 k v0 (fun p0 => K (.exit 0) (stOf [0, 2, 3] [.one (.l (.val true (.ints .u8 v0))), .one (.l (.any)), .one (.l (.i .i64 p0))] [])) k v1 v2
def tab {R : Type} (k : Nat) : LTab R := fun id K vs hs => bif id == 3 then h3.tell vs hs (T3 k K) else none
theorem fit3 {R : Type} (k : Nat) : Fit (R := R) (G k) live (tab k) (bl Tryz.f61 0) := h3.fit (key := 3) (by kernel_rfl) (T3 k) (fun _ _ _ => rfl) fun K r v0 v1 v2 h => fit_mk h (fun a => h3.mk' v0 a.1 a.2) (fun _ v1 v2 => some (v1, v2)) (by kernel_rfl) (fun _ => by kernel_rfl) fun Lp a => by kernel_rfl
theorem con (k : Nat) : Con Tryz.prog S (f k) := con_fn (nt := 32) (live := live) (Λ := tab k) tok all_nil mixed Tryz.func61 (by kernel_rfl) (all_cons (fit3 k) all_nil) fun x => by kernel_rfl
end spec_l1New

namespace spec_l1Byte
def S : Sp := ⟨111, ⟨[78], [3], [.io], .own⟩, [.ptr kd108], [.O, .ptr kd108]⟩
theorem con (k : Nat) : Con Tryz.prog S (f k) := con_fn (nt := 58) (live := []) (Λ := noL) tok all_nil mixed Tryz.func111 (by kernel_rfl) all_nil fun x => by kernel_rfl
end spec_l1Byte

namespace spec_l1Below
def S : Sp := ⟨67, ⟨[78, 3], [3], [.io, .bor], .own⟩, [.ptr kd108, .I], [.O, .ptr kd108]⟩
theorem con (k : Nat) : Con Tryz.prog S (f k) := con_fn (nt := 31) (live := []) (Λ := noL) tok (all_cons (ok_con (spec_l1Byte.con k)) all_nil) mixed Tryz.func67 (by kernel_rfl) all_nil fun x => by kernel_rfl
end spec_l1Below

namespace spec_l1Once
def S : Sp := ⟨65, ⟨[78, 3], [4], [.io, .bor], .own⟩, [.ptr kd108, .I], [.B, .ptr kd108]⟩
theorem con (k : Nat) : Con Tryz.prog S (f k) := con_fn (nt := 9) (live := []) (Λ := noL) tok (all_cons (ok_con (spec_l1Below.con k)) all_nil) mixed Tryz.func65 (by kernel_rfl) all_nil fun x => by kernel_rfl
end spec_l1Once

namespace spec_EasyRules
def S : Sp := ⟨102, ⟨[], [38], [], .own⟩, [], [.agg .own kd38]⟩
theorem con (k : Nat) : Con Tryz.prog S (f k) := con_fn (nt := 4) (live := []) (Λ := noL) tok all_nil mixed Tryz.func102 (by kernel_rfl) all_nil fun x => by kernel_rfl
end spec_EasyRules

namespace spec_l1Int
def S : Sp := ⟨68, ⟨[78, 32], [3], [.io, .bor], .own⟩, [.ptr kd108, .V], [.O, .ptr kd108]⟩
theorem con (k : Nat) : Con Tryz.prog S (f k) := con_fn (nt := 12) (live := []) (Λ := noL) tok (all_cons (ok_con (spec_l1Below.con k)) all_nil) mixed Tryz.func68 (by kernel_rfl) all_nil fun x => by kernel_rfl
end spec_l1Int

namespace spec_l8Leaves
def S : Sp := ⟨162, ⟨[78], [3], [.io], .own⟩, [.ptr kd108], [.O, .ptr kd108]⟩
theorem con (k : Nat) : Con Tryz.prog S (f k) := con_fn (nt := 15) (live := []) (Λ := noL) tok (all_cons (ok_con (spec_l1Below.con k)) (all_cons (ok_con (spec_l1Int.con k)) all_nil)) mixed Tryz.func162 (by kernel_rfl) all_nil fun x => by kernel_rfl
end spec_l8Leaves

namespace spec_l8Draw
def S : Sp := ⟨136, ⟨[78, 3], [32], [.io, .bor], .own⟩, [.ptr kd108, .I], [.l .own (.ints .i64), .ptr kd108]⟩
theorem step (k : Nat) (self : LI → Int → Int → Int → Option (LI × LI × Int × Int)) (hself : Con Tryz.prog S self) : Con Tryz.prog S (b k self) := con_fn (nt := 38) (live := []) (Λ := noL) tok (all_cons (ok_con (spec_l1Once.con k)) (all_cons (ok_con (spec_l1Below.con k)) (all_cons (ok_con hself) (all_cons (ok_con (spec_l8Leaves.con k)) all_nil)))) mixed Tryz.func136 (by kernel_rfl) all_nil fun x => by kernel_rfl
theorem con (k : Nat) : Con Tryz.prog S (f k) := con_rec (S := S) (b := b k) (g := g k) ⟨Tryz.f136, Tryz.func136, by kernel_rfl, by kernel_rfl⟩ (fun _ => rfl) (fun _ => rfl) (step k) k
end spec_l8Draw

namespace spec_l22Draw
def S : Sp := ⟨103, ⟨[78], [38], [.io], .own⟩, [.ptr kd108], [.agg .own kd38, .ptr kd108]⟩
theorem con (k : Nat) : Con Tryz.prog S (f k) := con_fn (nt := 30) (live := []) (Λ := noL) tok (all_cons (ok_con (spec_l1Once.con k)) (all_cons (ok_con (spec_l1Below.con k)) (all_cons (ok_con (spec_l8Draw.con k)) all_nil))) mixed Tryz.func103 (by kernel_rfl) all_nil fun x => by kernel_rfl
end spec_l22Draw

namespace spec_HasCard
def S : Sp := ⟨86, ⟨[32, 3], [4], [.bor, .bor], .own⟩, [.V, .I], [.B]⟩
def live : List (Nat × List Nat) := [(2, [0, 1, 5]), (100002, [4])]
def G {R : Type} (k : Nat) : Glob R := mkG tt [] 18
def h2 : Hd := ⟨[.V, .I, .I], []⟩
def T2 {R : Type} (k : Nat) (K : X → St → Option R) : h2.Fn (Option R) := fun v0 v1 v2 => l2 k v0 v1 (K .ret (stOf [4] [.one (.l (.b true))] [])) (K (.exit 0) (stOf [4] [.one (.l (.any))] [])) k v2
def tab {R : Type} (k : Nat) : LTab R := fun id K vs hs => bif id == 2 then h2.tell vs hs (T2 k K) else none
theorem fit2 {R : Type} (k : Nat) : Fit (R := R) (G k) live (tab k) (bl Tryz.f86 0) := h2.fit (key := 2) (by kernel_rfl) (T2 k) (fun _ _ _ => rfl) fun K r v0 v1 v2 h => fit_mk h (fun a => h2.mk' v0 v1 a) (fun _ _ v2 => some v2) (by kernel_rfl) (fun _ => by kernel_rfl) fun Lp a => by kernel_rfl
theorem con (k : Nat) : Con Tryz.prog S (f k) := con_fn (nt := 18) (live := live) (Λ := tab k) tok all_nil mixed Tryz.func86 (by kernel_rfl) (all_cons (fit2 k) all_nil) fun x => by kernel_rfl
end spec_HasCard

namespace spec_l1In
def S : Sp := ⟨143, ⟨[3, 3, 3], [4], [.bor, .bor, .bor], .own⟩, [.I, .I, .I], [.B]⟩
theorem con (k : Nat) : Con Tryz.prog S (f k) := con_fn (nt := 15) (live := []) (Λ := noL) tok all_nil mixed Tryz.func143 (by kernel_rfl) all_nil fun x => by kernel_rfl
end spec_l1In

namespace spec_IsCard
def S : Sp := ⟨112, ⟨[3], [4], [.bor], .own⟩, [.I], [.B]⟩
theorem con (k : Nat) : Con Tryz.prog S (f k) := con_fn (nt := 5) (live := []) (Λ := noL) tok (all_cons (ok_con (spec_l1In.con k)) all_nil) mixed Tryz.func112 (by kernel_rfl) all_nil fun x => by kernel_rfl
end spec_IsCard

namespace spec_IsHand
def S : Sp := ⟨126, ⟨[32], [4], [.bor], .own⟩, [.V], [.B]⟩
def live : List (Nat × List Nat) := [(2, [0, 3]), (100002, [2])]
def G {R : Type} (k : Nat) : Glob R := mkG tt [spec_HasCard.S.ent (spec_HasCard.f k), spec_IsCard.S.ent (spec_IsCard.f k)] 26
def h2 : Hd := ⟨[.V, .I], []⟩
def T2 {R : Type} (k : Nat) (K : X → St → Option R) : h2.Fn (Option R) := fun v0 v1 => l2 k v0 (K .ret (stOf [2] [.one (.l (.b false))] [])) (K (.exit 0) (stOf [2] [.one (.l (.any))] [])) k v1
def tab {R : Type} (k : Nat) : LTab R := fun id K vs hs => bif id == 2 then h2.tell vs hs (T2 k K) else none
theorem fit2 {R : Type} (k : Nat) : Fit (R := R) (G k) live (tab k) (bl Tryz.f126 0) := h2.fit (key := 2) (by kernel_rfl) (T2 k) (fun _ _ _ => rfl) fun K r v0 v1 h => fit_mk h (fun a => h2.mk' v0 a) (fun _ v1 => some v1) (by kernel_rfl) (fun _ => by kernel_rfl) fun Lp a => by kernel_rfl
theorem con (k : Nat) : Con Tryz.prog S (f k) := con_fn (nt := 26) (live := live) (Λ := tab k) tok (all_cons (ok_con (spec_HasCard.con k)) (all_cons (ok_con (spec_IsCard.con k)) all_nil)) mixed Tryz.func126 (by kernel_rfl) (all_cons (fit2 k) all_nil) fun x => by kernel_rfl
end spec_IsHand

namespace spec_l8Leaf
def S : Sp := ⟨180, ⟨[3], [4], [.bor], .own⟩, [.I], [.B]⟩
theorem con (k : Nat) : Con Tryz.prog S (f k) := con_fn (nt := 17) (live := []) (Λ := noL) tok (all_cons (ok_con (spec_l1In.con k)) all_nil) mixed Tryz.func180 (by kernel_rfl) all_nil fun x => by kernel_rfl
end spec_l8Leaf

namespace spec_IsPattern
def S : Sp := ⟨171, ⟨[32], [4], [.bor], .own⟩, [.V], [.B]⟩
def live : List (Nat × List Nat) := [(3, [0, 3, 4]), (100003, [0, 2, 3])]
def G {R : Type} (k : Nat) : Glob R := mkG tt [spec_l8Leaf.S.ent (spec_l8Leaf.f k)] 55
def h3 : Hd := ⟨[.V, .I, .I], []⟩
def T3 {R : Type} (k : Nat) (K : X → St → Option R) : h3.Fn (Option R) := fun v0 v1 v2 => l3 k v0 (fun p0 => K .ret (stOf [0, 2, 3] [.one (.l (.val false (.ints .i64 v0))), .one (.l (.b false)), .one (.l (.i .i64 p0))] [])) (fun p0 => K (.exit 0) (stOf [0, 2, 3] [.one (.l (.val false (.ints .i64 v0))), .one (.l (.any)), .one (.l (.i .i64 p0))] [])) k v1 v2
def tab {R : Type} (k : Nat) : LTab R := fun id K vs hs => bif id == 3 then h3.tell vs hs (T3 k K) else none
theorem fit3 {R : Type} (k : Nat) : Fit (R := R) (G k) live (tab k) (bl Tryz.f171 0) := h3.fit (key := 3) (by kernel_rfl) (T3 k) (fun _ _ _ => rfl) fun K r v0 v1 v2 h => fit_mk h (fun a => h3.mk' v0 a.1 a.2) (fun _ v1 v2 => some (v1, v2)) (by kernel_rfl) (fun _ => by kernel_rfl) fun Lp a => by kernel_rfl
theorem con (k : Nat) : Con Tryz.prog S (f k) := con_fn (nt := 55) (live := live) (Λ := tab k) tok (all_cons (ok_con (spec_l8Leaf.con k)) all_nil) mixed Tryz.func171 (by kernel_rfl) (all_cons (fit3 k) all_nil) fun x => by kernel_rfl
end spec_IsPattern

namespace spec_l22Pattern
def S : Sp := ⟨163, ⟨[32], [4], [.bor], .own⟩, [.V], [.B]⟩
theorem con (k : Nat) : Con Tryz.prog S (f k) := con_fn (nt := 10) (live := []) (Λ := noL) tok (all_cons (ok_con (spec_IsPattern.con k)) all_nil) mixed Tryz.func163 (by kernel_rfl) all_nil fun x => by kernel_rfl
end spec_l22Pattern

namespace spec_IsRules
def S : Sp := ⟨137, ⟨[38], [4], [.bor], .own⟩, [.agg .lent kd38], [.B]⟩
theorem con (k : Nat) : Con Tryz.prog S (f k) := con_fn (nt := 39) (live := []) (Λ := noL) tok (all_cons (ok_con (spec_l1In.con k)) (all_cons (ok_con (spec_l22Pattern.con k)) all_nil)) mixed Tryz.func137 (by kernel_rfl) all_nil fun x => by kernel_rfl
end spec_IsRules

namespace spec_Dealt
def S : Sp := ⟨138, ⟨[32, 3, 3], [24, 32, 4], [.bor, .bor, .bor], .own⟩, [.V, .I, .I], [.l .own .rows, .l .own (.ints .i64), .B]⟩
def live : List (Nat × List Nat) := [(9, [0, 1, 2, 9, 10, 11, 12]), (100009, [0, 1, 2, 6, 7, 8, 9, 10, 11]), (5, [0, 1, 2, 9, 10]), (100005, [0, 1, 2, 6, 7, 8, 9])]
def G {R : Type} (k : Nat) : Glob R := mkG tt [spec_IsHand.S.ent (spec_IsHand.f k), spec_l1In.S.ent (spec_l1In.f k)] 73
def h9 : Hd := ⟨[.V, .I, .I, .l (.own 0), .I, .l (.own 1), .I], [.W, .V]⟩
def T9 {R : Type} (k : Nat) (K : X → St → Option R) : h9.Fn (Option R) := fun v0 v1 v2 v3 v4 v5 v6 => l9 k v0 v1 v2 v3 (fun p0 => K (.exit 2) (stOf [0, 1, 2, 6, 7, 8, 9, 10, 11] [.one (.l (.val false (.ints .i64 v0))), .one (.l (.i .i64 v1)), .one (.l (.i .i64 v2)), .one (.l (.any)), .one (.l (.any)), .one (.l (.any)), .one (.l (.own 0)), .one (.l (.i .i64 v3)), .one (.l (.own 1))] [some (.row 0 0 (.rows true v5)), some (.row 0 0 (.ints .i64 p0))])) k v4 v6
def h5 : Hd := ⟨[.V, .I, .I, .l (.own 0), .I], [.W]⟩
def T5 {R : Type} (k : Nat) (K : X → St → Option R) : h5.Fn (Option R) := fun v0 v1 v2 v3 v4 => l5 k v0 v1 v2 (fun p0 => K (.exit 0) (stOf [0, 1, 2, 6, 7, 8, 9] [.one (.l (.val false (.ints .i64 v0))), .one (.l (.i .i64 v1)), .one (.l (.i .i64 v2)), .one (.l (.any)), .one (.l (.any)), .one (.l (.any)), .one (.l (.own 0))] [some (.row 0 0 (.rows true p0))])) k v3 v4
def tab {R : Type} (k : Nat) : LTab R := fun id K vs hs => bif id == 9 then h9.tell vs hs (T9 k K) else bif id == 5 then h5.tell vs hs (T5 k K) else none
theorem fit5 {R : Type} (k : Nat) : Fit (R := R) (G k) live (tab k) (bl Tryz.f138 0) := h5.fit (key := 5) (by kernel_rfl) (T5 k) (fun _ _ _ => rfl) fun K r v0 v1 v2 v3 v4 h => fit_mk h (fun a => h5.mk' v0 v1 v2 a.1 a.2) (fun _ _ _ v3 v4 => some (v3, v4)) (by kernel_rfl) (fun _ => by kernel_rfl) fun Lp a => by kernel_rfl
theorem fit9 {R : Type} (k : Nat) : Fit (R := R) (G k) live (tab k) (bl Tryz.f138 1) := h9.fit (key := 9) (by kernel_rfl) (T9 k) (fun _ _ _ => rfl) fun K r v0 v1 v2 v3 v4 v5 v6 h => fit_mk h (fun a => h9.mk' v0 v1 v2 v3 a.1 v5 a.2) (fun _ _ _ _ v4 _ v6 => some (v4, v6)) (by kernel_rfl) (fun _ => by kernel_rfl) fun Lp a => by kernel_rfl
theorem con (k : Nat) : Con Tryz.prog S (f k) := con_fn (nt := 73) (live := live) (Λ := tab k) tok (all_cons (ok_con (spec_IsHand.con k)) (all_cons (ok_con (spec_l1In.con k)) all_nil)) mixed Tryz.func138 (by kernel_rfl) (all_cons (fit5 k) (all_cons (fit9 k) all_nil)) fun x => by kernel_rfl
end spec_Dealt

namespace spec_l22Copy
def S : Sp := ⟨139, ⟨[38], [38], [.bor], .own⟩, [.agg .lent kd38], [.agg .own kd38]⟩
theorem con (k : Nat) : Con Tryz.prog S (f k) := con_fn (nt := 14) (live := []) (Λ := noL) tok all_nil mixed Tryz.func139 (by kernel_rfl) all_nil fun x => by kernel_rfl
end spec_l22Copy

namespace spec_NewGame
def S : Sp := ⟨104, ⟨[38, 32], [44, 4], [.bor, .bor], .own⟩, [.agg .lent kd38, .V], [.agg .own kd44, .B]⟩
theorem con (k : Nat) : Con Tryz.prog S (f k) := con_fn (nt := 45) (live := []) (Λ := noL) tok (all_cons (ok_con (spec_IsHand.con k)) (all_cons (ok_con (spec_IsRules.con k)) (all_cons (ok_con (spec_Dealt.con k)) (all_cons (ok_con (spec_l22Copy.con k)) all_nil)))) mixed Tryz.func104 (by kernel_rfl) all_nil fun x => by kernel_rfl
end spec_NewGame

namespace spec_Mod
def S : Sp := ⟨140, ⟨[3, 3], [3], [.bor, .bor], .own⟩, [.I, .I], [.O]⟩
theorem con (k : Nat) : Con Tryz.prog S (f k) := con_fn (nt := 15) (live := []) (Λ := noL) tok (all_cons (ok_con (spec_l1In.con k)) all_nil) mixed Tryz.func140 (by kernel_rfl) all_nil fun x => by kernel_rfl
end spec_Mod

namespace spec_Hash
def S : Sp := ⟨141, ⟨[32], [3], [.bor], .own⟩, [.V], [.O]⟩
def live : List (Nat × List Nat) := [(3, [0, 3, 4]), (100003, [2, 3])]
def G {R : Type} (k : Nat) : Glob R := mkG tt [spec_Mod.S.ent (spec_Mod.f k)] 22
def h3 : Hd := ⟨[.V, .I, .I], []⟩
def T3 {R : Type} (k : Nat) (K : X → St → Option R) : h3.Fn (Option R) := fun v0 v1 v2 => l3 k v0 (fun p0 => K (.exit 0) (stOf [2, 3] [.one (.l (.any)), .one (.l (.i .i64 p0))] [])) k v1 v2
def tab {R : Type} (k : Nat) : LTab R := fun id K vs hs => bif id == 3 then h3.tell vs hs (T3 k K) else none
theorem fit3 {R : Type} (k : Nat) : Fit (R := R) (G k) live (tab k) (bl Tryz.f141 0) := h3.fit (key := 3) (by kernel_rfl) (T3 k) (fun _ _ _ => rfl) fun K r v0 v1 v2 h => fit_mk h (fun a => h3.mk' v0 a.1 a.2) (fun _ v1 v2 => some (v1, v2)) (by kernel_rfl) (fun _ => by kernel_rfl) fun Lp a => by kernel_rfl
theorem con (k : Nat) : Con Tryz.prog S (f k) := con_fn (nt := 22) (live := live) (Λ := tab k) tok (all_cons (ok_con (spec_Mod.con k)) all_nil) mixed Tryz.func141 (by kernel_rfl) (all_cons (fit3 k) all_nil) fun x => by kernel_rfl
end spec_Hash

namespace spec_Shuffled
def S : Sp := ⟨105, ⟨[32, 3], [32], [.bor, .bor], .own⟩, [.V, .I], [.l .own (.ints .i64)]⟩
def live : List (Nat × List Nat) := [(3, [1, 5, 6]), (100003, [4, 5])]
def G {R : Type} (k : Nat) : Glob R := mkG tt [spec_Mod.S.ent (spec_Mod.f k), spec_Hash.S.ent (spec_Hash.f k)] 42
def h3 : Hd := ⟨[.I, .l (.own 0), .I], [.V]⟩
def T3 {R : Type} (k : Nat) (K : X → St → Option R) : h3.Fn (Option R) := fun v0 v1 v2 => l3 k v0 (fun p0 => K (.exit 0) (stOf [4, 5] [.one (.l (.any)), .one (.l (.own 0))] [some (.row 0 0 (.ints .i64 p0))])) k v1 v2
def tab {R : Type} (k : Nat) : LTab R := fun id K vs hs => bif id == 3 then h3.tell vs hs (T3 k K) else none
theorem fit3 {R : Type} (k : Nat) : Fit (R := R) (G k) live (tab k) (bl Tryz.f105 0) := h3.fit (key := 3) (by kernel_rfl) (T3 k) (fun _ _ _ => rfl) fun K r v0 v1 v2 h => fit_mk h (fun a => h3.mk' v0 a.1 a.2) (fun _ v1 v2 => some (v1, v2)) (by kernel_rfl) (fun _ => by kernel_rfl) fun Lp a => by kernel_rfl
theorem con (k : Nat) : Con Tryz.prog S (f k) := con_fn (nt := 42) (live := live) (Λ := tab k) tok (all_cons (ok_con (spec_Mod.con k)) (all_cons (ok_con (spec_Hash.con k)) all_nil)) mixed Tryz.func105 (by kernel_rfl) (all_cons (fit3 k) all_nil) fun x => by kernel_rfl
end spec_Shuffled

namespace spec_Missing
def S : Sp := ⟨142, ⟨[32], [32], [.bor], .own⟩, [.V], [.l .own (.ints .i64)]⟩
def live : List (Nat × List Nat) := [(3, [0, 3, 4]), (100003, [2, 3])]
def G {R : Type} (k : Nat) : Glob R := mkG tt [spec_HasCard.S.ent (spec_HasCard.f k)] 19
def h3 : Hd := ⟨[.V, .l (.own 0), .I], [.V]⟩
def T3 {R : Type} (k : Nat) (K : X → St → Option R) : h3.Fn (Option R) := fun v0 v1 v2 => l3 k v0 (fun p0 => K (.exit 0) (stOf [2, 3] [.one (.l (.any)), .one (.l (.own 0))] [some (.row 0 0 (.ints .i64 p0))])) k v1 v2
def tab {R : Type} (k : Nat) : LTab R := fun id K vs hs => bif id == 3 then h3.tell vs hs (T3 k K) else none
theorem fit3 {R : Type} (k : Nat) : Fit (R := R) (G k) live (tab k) (bl Tryz.f142 0) := h3.fit (key := 3) (by kernel_rfl) (T3 k) (fun _ _ _ => rfl) fun K r v0 v1 v2 h => fit_mk h (fun a => h3.mk' v0 a.1 a.2) (fun _ v1 v2 => some (v1, v2)) (by kernel_rfl) (fun _ => by kernel_rfl) fun Lp a => by kernel_rfl
theorem con (k : Nat) : Con Tryz.prog S (f k) := con_fn (nt := 19) (live := live) (Λ := tab k) tok (all_cons (ok_con (spec_HasCard.con k)) all_nil) mixed Tryz.func142 (by kernel_rfl) (all_cons (fit3 k) all_nil) fun x => by kernel_rfl
end spec_Missing

namespace spec_FullDeck
def S : Sp := ⟨106, ⟨[], [32], [], .own⟩, [], [.l .own (.ints .i64)]⟩
theorem con (k : Nat) : Con Tryz.prog S (f k) := con_fn (nt := 2) (live := []) (Λ := noL) tok (all_cons (ok_con (spec_Missing.con k)) all_nil) mixed Tryz.func106 (by kernel_rfl) all_nil fun x => by kernel_rfl
end spec_FullDeck

namespace spec_l24Start
def S : Sp := ⟨62, ⟨[78], [44], [.io], .own⟩, [.ptr kd108], [.agg .own kd44, .ptr kd108]⟩
theorem con (k : Nat) : Con Tryz.prog S (f k) := con_fn (nt := 21) (live := []) (Λ := noL) tok (all_cons (ok_con (spec_l1Once.con k)) (all_cons (ok_con (spec_l1Below.con k)) (all_cons (ok_con (spec_EasyRules.con k)) (all_cons (ok_con (spec_l22Draw.con k)) (all_cons (ok_con (spec_NewGame.con k)) (all_cons (ok_con (spec_Shuffled.con k)) (all_cons (ok_con (spec_FullDeck.con k)) all_nil))))))) mixed Tryz.func62 (by kernel_rfl) all_nil fun x => by kernel_rfl
end spec_l24Start

namespace spec_l26Kinds
def S : Sp := ⟨64, ⟨[78], [32], [.io], .own⟩, [.ptr kd108], [.l .own (.ints .i64), .ptr kd108]⟩
def live : List (Nat × List Nat) := [(3, [0, 3, 4, 18]), (100003, [2, 3, 18])]
def G {R : Type} (k : Nat) : Glob R := mkG tt [spec_l1Below.S.ent (spec_l1Below.f k)] 18
def h3 : Hd := ⟨[.l (.ptr 0 0), .l (.own 1), .I, .l (.ptr 0 0)], [.box [.val true false (.ints .u8), .I, .I], .V]⟩
def T3 {R : Type} (k : Nat) (K : X → St → Option R) : h3.Fn (Option R) := fun v0 v1 v2 v3 v4 => l3 k (fun p0 p1 p2 p3 => K (.exit 0) (stOf [2, 3, 18] [.one (.l (.any)), .one (.l (.own 0)), .one (.l (.bptr 1 0))] [some (.row 0 0 (.ints .i64 p0)), some (.box 0 [.val true (.ints .u8 p1), .i .i64 p2, .i .i64 p3])])) k v0 v1 v2 v3 v4
def tab {R : Type} (k : Nat) : LTab R := fun id K vs hs => bif id == 3 then h3.tell vs hs (T3 k K) else none
theorem fit3 {R : Type} (k : Nat) : Fit (R := R) (G k) live (tab k) (bl Tryz.f64 0) := h3.fit (key := 3) (by kernel_rfl) (T3 k) (fun _ _ _ => rfl) fun K r v0 v1 v2 v3 v4 h => fit_mk h (fun a => h3.mk' a.1 a.2.1 (t2 a).1 (t3 a).1 (t4 a)) (fun v0 v1 v2 v3 v4 => some (v0, v1, v2, v3, v4)) (by kernel_rfl) (fun _ => by kernel_rfl) fun Lp a => by kernel_rfl
theorem con (k : Nat) : Con Tryz.prog S (f k) := con_fn (nt := 18) (live := live) (Λ := tab k) tok (all_cons (ok_con (spec_l1Below.con k)) all_nil) mixed Tryz.func64 (by kernel_rfl) (all_cons (fit3 k) all_nil) fun x => by kernel_rfl
end spec_l26Kinds

namespace spec_l4Card
def S : Sp := ⟨66, ⟨[78], [3], [.io], .own⟩, [.ptr kd108], [.O, .ptr kd108]⟩
theorem con (k : Nat) : Con Tryz.prog S (f k) := con_fn (nt := 12) (live := []) (Λ := noL) tok (all_cons (ok_con (spec_l1Below.con k)) (all_cons (ok_con (spec_l1Int.con k)) all_nil)) mixed Tryz.func66 (by kernel_rfl) all_nil fun x => by kernel_rfl
end spec_l4Card

namespace spec_l8Any
def S : Sp := ⟨124, ⟨[78], [32], [.io], .frz⟩, [.ptr kd108], [.l .frz (.ints .i64), .ptr kd108]⟩
theorem con (k : Nat) : Con Tryz.prog S (f k) := con_fn (nt := 24) (live := []) (Λ := noL) tok (all_cons (ok_con (spec_l1Below.con k)) (all_cons (ok_con (spec_l1Int.con k)) (all_cons (ok_con (spec_l8Draw.con k)) all_nil))) mixed Tryz.func124 (by kernel_rfl) all_nil fun x => by kernel_rfl
end spec_l8Any

namespace spec_l22Any
def S : Sp := ⟨82, ⟨[78], [38], [.io], .lent⟩, [.ptr kd108], [.agg .lent kd38, .ptr kd108]⟩
theorem con (k : Nat) : Con Tryz.prog S (f k) := con_fn (nt := 41) (live := []) (Λ := noL) tok (all_cons (ok_con (spec_l1Below.con k)) (all_cons (ok_con (spec_l1Int.con k)) (all_cons (ok_con (spec_l22Draw.con k)) (all_cons (ok_con (spec_l8Any.con k)) all_nil)))) mixed Tryz.func82 (by kernel_rfl) all_nil fun x => by kernel_rfl
end spec_l22Any

namespace spec_IsGame
def S : Sp := ⟨107, ⟨[44], [4], [.bor], .own⟩, [.agg .lent kd44], [.B]⟩
def live : List (Nat × List Nat) := [(5, [1, 3, 4]), (100005, [2, 3])]
def G {R : Type} (k : Nat) : Glob R := mkG tt [spec_IsHand.S.ent (spec_IsHand.f k), spec_IsRules.S.ent (spec_IsRules.f k), spec_l1In.S.ent (spec_l1In.f k)] 79
def h5 : Hd := ⟨[.l (.ptr 0 0), .l (.own 1), .I], [.box [.I, .I, .b, .b, .V, .V, .I, .I, .W, .V, .V, .I, .I, .I], .V]⟩
def T5 {R : Type} (k : Nat) (K : X → St → Option R) : h5.Fn (Option R) := fun v0 _ _ _ _ _ _ _ _ v9 _ _ _ _ _ v15 => l5 k v9 (fun p0 => K (.exit 0) (stOf [2, 3] [.one (.l (.any)), .one (.l (.own 0))] [some (.row 0 0 (.ints .i64 p0))])) k v0 v15
def tab {R : Type} (k : Nat) : LTab R := fun id K vs hs => bif id == 5 then h5.tell vs hs (T5 k K) else none
theorem fit5 {R : Type} (k : Nat) : Fit (R := R) (G k) live (tab k) (bl Tryz.f107 0) := h5.fit (key := 5) (by kernel_rfl) (T5 k) (fun _ _ _ => rfl) fun K r v0 v1 v2 v3 v4 v5 v6 v7 v8 v9 v10 v11 v12 v13 v14 v15 h => fit_mk h (fun a => h5.mk' a.1 v1 v2 v3 v4 v5 v6 v7 v8 v9 v10 v11 v12 v13 v14 a.2) (fun v0 _ _ _ _ _ _ _ _ _ _ _ _ _ _ v15 => some (v0, v15)) (by kernel_rfl) (fun _ => by kernel_rfl) fun Lp a => by kernel_rfl
theorem con (k : Nat) : Con Tryz.prog S (f k) := con_fn (nt := 79) (live := live) (Λ := tab k) tok (all_cons (ok_con (spec_IsHand.con k)) (all_cons (ok_con (spec_IsRules.con k)) (all_cons (ok_con (spec_l1In.con k)) all_nil))) mixed Tryz.func107 (by kernel_rfl) (all_cons (fit5 k) all_nil) fun x => by kernel_rfl
end spec_IsGame

namespace spec_l24First
def S : Sp := ⟨144, ⟨[44], [3], [.bor], .own⟩, [.agg .lent kd44], [.O]⟩
def live : List (Nat × List Nat) := [(2, [1, 3]), (100002, [2])]
def G {R : Type} (k : Nat) : Glob R := mkG tt [] 19
def h2 : Hd := ⟨[.l (.ptr 0 0), .I], [.box [.I, .I, .b, .b, .V, .V, .I, .I, .W, .V, .V, .I, .I, .I]]⟩
def T2 {R : Type} (k : Nat) (K : X → St → Option R) : h2.Fn (Option R) := fun v0 _ _ _ _ _ _ _ _ v9 _ _ _ _ _ => l2 k v9 (fun p0 => K .ret (stOf [2] [.one (.l (.i .i64 p0))] [])) (K (.exit 0) (stOf [2] [.one (.l (.any))] [])) k v0
def tab {R : Type} (k : Nat) : LTab R := fun id K vs hs => bif id == 2 then h2.tell vs hs (T2 k K) else none
theorem fit2 {R : Type} (k : Nat) : Fit (R := R) (G k) live (tab k) (bl Tryz.f144 0) := h2.fit (key := 2) (by kernel_rfl) (T2 k) (fun _ _ _ => rfl) fun K r v0 v1 v2 v3 v4 v5 v6 v7 v8 v9 v10 v11 v12 v13 v14 h => fit_mk h (fun a => h2.mk' a v1 v2 v3 v4 v5 v6 v7 v8 v9 v10 v11 v12 v13 v14) (fun v0 _ _ _ _ _ _ _ _ _ _ _ _ _ _ => some v0) (by kernel_rfl) (fun _ => by kernel_rfl) fun Lp a => by kernel_rfl
theorem con (k : Nat) : Con Tryz.prog S (f k) := con_fn (nt := 19) (live := live) (Λ := tab k) tok all_nil mixed Tryz.func144 (by kernel_rfl) (all_cons (fit2 k) all_nil) fun x => by kernel_rfl
end spec_l24First

namespace spec_l24Over
def S : Sp := ⟨108, ⟨[44], [4], [.bor], .own⟩, [.agg .lent kd44], [.B]⟩
theorem con (k : Nat) : Con Tryz.prog S (f k) := con_fn (nt := 22) (live := []) (Λ := noL) tok (all_cons (ok_con (spec_l24First.con k)) all_nil) mixed Tryz.func108 (by kernel_rfl) all_nil fun x => by kernel_rfl
end spec_l24Over

namespace spec_Sorted
def S : Sp := ⟨156, ⟨[32], [32], [.bor], .own⟩, [.V], [.l .own (.ints .i64)]⟩
def live : List (Nat × List Nat) := [(6, [0, 3, 4, 5]), (100006, [0, 2, 3, 4, 5]), (3, [0, 3, 4]), (100003, [2, 3])]
def G {R : Type} (k : Nat) : Glob R := mkG tt [] 47
def h6 : Hd := ⟨[.V, .l (.own 0), .I, .I], [.V]⟩
def T6 {R : Type} (k : Nat) (K : X → St → Option R) : h6.Fn (Option R) := fun v0 v1 v2 v3 => l6 k v0 v1 v3 (fun p0 => K (.exit 2) (stOf [0, 2, 3, 4, 5] [.one (.l (.val false (.ints .i64 v0))), .one (.l (.any)), .one (.l (.own 0)), .one (.l (.i .i64 v1)), .one (.l (.i .i64 p0))] [some (.row 0 0 (.ints .i64 v3))])) k v2
def h3 : Hd := ⟨[.V, .l (.own 0), .I], [.V]⟩
def T3 {R : Type} (k : Nat) (K : X → St → Option R) : h3.Fn (Option R) := fun v0 v1 v2 => l3 k v0 (fun p0 => K (.exit 0) (stOf [2, 3] [.one (.l (.any)), .one (.l (.own 0))] [some (.row 0 0 (.ints .i64 p0))])) k v1 v2
def tab {R : Type} (k : Nat) : LTab R := fun id K vs hs => bif id == 6 then h6.tell vs hs (T6 k K) else bif id == 3 then h3.tell vs hs (T3 k K) else none
theorem fit3 {R : Type} (k : Nat) : Fit (R := R) (G k) live (tab k) (bl Tryz.f156 0) := h3.fit (key := 3) (by kernel_rfl) (T3 k) (fun _ _ _ => rfl) fun K r v0 v1 v2 h => fit_mk h (fun a => h3.mk' v0 a.1 a.2) (fun _ v1 v2 => some (v1, v2)) (by kernel_rfl) (fun _ => by kernel_rfl) fun Lp a => by kernel_rfl
theorem fit6 {R : Type} (k : Nat) : Fit (R := R) (G k) live (tab k) (bl Tryz.f156 1) := h6.fit (key := 6) (by kernel_rfl) (T6 k) (fun _ _ _ => rfl) fun K r v0 v1 v2 v3 h => fit_mk h (fun a => h6.mk' v0 v1 a v3) (fun _ _ v2 _ => some v2) (by kernel_rfl) (fun _ => by kernel_rfl) fun Lp a => by kernel_rfl
theorem con (k : Nat) : Con Tryz.prog S (f k) := con_fn (nt := 47) (live := live) (Λ := tab k) tok all_nil mixed Tryz.func156 (by kernel_rfl) (all_cons (fit3 k) (all_cons (fit6 k) all_nil)) fun x => by kernel_rfl
end spec_Sorted

namespace spec_SuitOf
def S : Sp := ⟨89, ⟨[3], [3], [.bor], .own⟩, [.I], [.O]⟩
theorem con (k : Nat) : Con Tryz.prog S (f k) := con_fn (nt := 8) (live := []) (Λ := noL) tok (all_cons (ok_con (spec_IsCard.con k)) all_nil) mixed Tryz.func89 (by kernel_rfl) all_nil fun x => by kernel_rfl
end spec_SuitOf

namespace spec_RankOf
def S : Sp := ⟨147, ⟨[3], [3], [.bor], .own⟩, [.I], [.O]⟩
theorem con (k : Nat) : Con Tryz.prog S (f k) := con_fn (nt := 8) (live := []) (Λ := noL) tok (all_cons (ok_con (spec_IsCard.con k)) all_nil) mixed Tryz.func147 (by kernel_rfl) all_nil fun x => by kernel_rfl
end spec_RankOf

namespace spec_IsRed
def S : Sp := ⟨184, ⟨[3], [4], [.bor], .own⟩, [.I], [.B]⟩
theorem con (k : Nat) : Con Tryz.prog S (f k) := con_fn (nt := 6) (live := []) (Λ := noL) tok (all_cons (ok_con (spec_SuitOf.con k)) (all_cons (ok_con (spec_l1In.con k)) all_nil)) mixed Tryz.func184 (by kernel_rfl) all_nil fun x => by kernel_rfl
end spec_IsRed

namespace spec_l8Value
def S : Sp := ⟨179, ⟨[3, 3], [4], [.bor, .bor], .own⟩, [.I, .I], [.B]⟩
theorem con (k : Nat) : Con Tryz.prog S (f k) := con_fn (nt := 31) (live := []) (Λ := noL) tok (all_cons (ok_con (spec_SuitOf.con k)) (all_cons (ok_con (spec_RankOf.con k)) (all_cons (ok_con (spec_IsRed.con k)) all_nil))) mixed Tryz.func179 (by kernel_rfl) all_nil fun x => by kernel_rfl
end spec_l8Value

namespace spec_Matches
def S : Sp := ⟨169, ⟨[32, 3], [4], [.bor, .bor], .own⟩, [.V, .I], [.B]⟩
def live : List (Nat × List Nat) := [(5, [0, 1, 5, 6]), (100005, [4, 5])]
def G {R : Type} (k : Nat) : Glob R := mkG tt [spec_IsCard.S.ent (spec_IsCard.f k), spec_IsPattern.S.ent (spec_IsPattern.f k), spec_l8Value.S.ent (spec_l8Value.f k)] 93
def h5 : Hd := ⟨[.V, .I, .l (.own 0), .I], [.row false .bools]⟩
def T5 {R : Type} (k : Nat) (K : X → St → Option R) : h5.Fn (Option R) := fun v0 v1 v2 v3 => l5 k v0 v1 (fun p0 => K (.exit 0) (stOf [4, 5] [.one (.l (.any)), .one (.l (.own 0))] [some (.row 0 0 (.bools p0))])) k v2 v3
def tab {R : Type} (k : Nat) : LTab R := fun id K vs hs => bif id == 5 then h5.tell vs hs (T5 k K) else none
theorem fit5 {R : Type} (k : Nat) : Fit (R := R) (G k) live (tab k) (bl Tryz.f169 0) := h5.fit (key := 5) (by kernel_rfl) (T5 k) (fun _ _ _ => rfl) fun K r v0 v1 v2 v3 h => fit_mk h (fun a => h5.mk' v0 v1 a.1 a.2) (fun _ _ v2 v3 => some (v2, v3)) (by kernel_rfl) (fun _ => by kernel_rfl) fun Lp a => by kernel_rfl
theorem con (k : Nat) : Con Tryz.prog S (f k) := con_fn (nt := 93) (live := live) (Λ := tab k) tok (all_cons (ok_con (spec_IsCard.con k)) (all_cons (ok_con (spec_IsPattern.con k)) (all_cons (ok_con (spec_l8Value.con k)) all_nil))) mixed Tryz.func169 (by kernel_rfl) (all_cons (fit5 k) all_nil) fun x => by kernel_rfl
end spec_Matches

namespace spec_FitsOn
def S : Sp := ⟨157, ⟨[38, 3, 3], [4], [.bor, .bor, .bor], .own⟩, [.agg .lent kd38, .I, .I], [.B]⟩
theorem con (k : Nat) : Con Tryz.prog S (f k) := con_fn (nt := 46) (live := []) (Λ := noL) tok (all_cons (ok_con (spec_SuitOf.con k)) (all_cons (ok_con (spec_IsCard.con k)) (all_cons (ok_con (spec_IsRules.con k)) (all_cons (ok_con (spec_RankOf.con k)) (all_cons (ok_con (spec_Matches.con k)) all_nil))))) mixed Tryz.func157 (by kernel_rfl) all_nil fun x => by kernel_rfl
end spec_FitsOn

namespace spec_Playable
def S : Sp := ⟨128, ⟨[44], [32], [.bor], .own⟩, [.agg .lent kd44], [.l .own (.ints .i64)]⟩
def live : List (Nat × List Nat) := [(6, [1, 3, 4, 5]), (100006, [2, 3])]
def G {R : Type} (k : Nat) : Glob R := mkG tt [spec_IsGame.S.ent (spec_IsGame.f k), spec_l24Over.S.ent (spec_l24Over.f k), spec_Sorted.S.ent (spec_Sorted.f k), spec_FitsOn.S.ent (spec_FitsOn.f k)] 51
def h6 : Hd := ⟨[.l (.ptr 0 0), .l (.own 1), .l (.own 2), .I], [.box [.I, .I, .b, .b, .V, .V, .I, .I, .W, .V, .V, .I, .I, .I], .V, .V]⟩
def T6 {R : Type} (k : Nat) (K : X → St → Option R) : h6.Fn (Option R) := fun v0 v1 v2 v3 v4 v5 v6 v7 v8 _ _ v11 _ _ _ v15 v16 => l6 k v1 v2 v3 v4 v5 v6 v7 v8 v11 v16 (fun p0 => K (.exit 0) (stOf [2, 3] [.one (.l (.any)), .one (.l (.own 0))] [some (.row 0 0 (.ints .i64 p0))])) k v0 v15
def tab {R : Type} (k : Nat) : LTab R := fun id K vs hs => bif id == 6 then h6.tell vs hs (T6 k K) else none
theorem fit6 {R : Type} (k : Nat) : Fit (R := R) (G k) live (tab k) (bl Tryz.f128 0) := h6.fit (key := 6) (by kernel_rfl) (T6 k) (fun _ _ _ => rfl) fun K r v0 v1 v2 v3 v4 v5 v6 v7 v8 v9 v10 v11 v12 v13 v14 v15 v16 h => fit_mk h (fun a => h6.mk' a.1 v1 v2 v3 v4 v5 v6 v7 v8 v9 v10 v11 v12 v13 v14 a.2 v16) (fun v0 _ _ _ _ _ _ _ _ _ _ _ _ _ _ v15 _ => some (v0, v15)) (by kernel_rfl) (fun _ => by kernel_rfl) fun Lp a => by kernel_rfl
theorem con (k : Nat) : Con Tryz.prog S (f k) := con_fn (nt := 51) (live := live) (Λ := tab k) tok (all_cons (ok_con (spec_IsGame.con k)) (all_cons (ok_con (spec_l24Over.con k)) (all_cons (ok_con (spec_Sorted.con k)) (all_cons (ok_con (spec_FitsOn.con k)) all_nil)))) mixed Tryz.func128 (by kernel_rfl) (all_cons (fit6 k) all_nil) fun x => by kernel_rfl
end spec_Playable

namespace spec_Without
def S : Sp := ⟨88, ⟨[32, 3], [32], [.bor, .bor], .own⟩, [.V, .I], [.l .own (.ints .i64)]⟩
def live : List (Nat × List Nat) := [(3, [0, 1, 5, 6]), (100003, [4, 5])]
def G {R : Type} (k : Nat) : Glob R := mkG tt [] 28
def h3 : Hd := ⟨[.V, .I, .l (.own 0), .I], [.V]⟩
def T3 {R : Type} (k : Nat) (K : X → St → Option R) : h3.Fn (Option R) := fun v0 v1 v2 v3 => l3 k v0 v1 (fun p0 => K (.exit 0) (stOf [4, 5] [.one (.l (.any)), .one (.l (.own 0))] [some (.row 0 0 (.ints .i64 p0))])) k v2 v3
def tab {R : Type} (k : Nat) : LTab R := fun id K vs hs => bif id == 3 then h3.tell vs hs (T3 k K) else none
theorem fit3 {R : Type} (k : Nat) : Fit (R := R) (G k) live (tab k) (bl Tryz.f88 0) := h3.fit (key := 3) (by kernel_rfl) (T3 k) (fun _ _ _ => rfl) fun K r v0 v1 v2 v3 h => fit_mk h (fun a => h3.mk' v0 v1 a.1 a.2) (fun _ _ v2 v3 => some (v2, v3)) (by kernel_rfl) (fun _ => by kernel_rfl) fun Lp a => by kernel_rfl
theorem con (k : Nat) : Con Tryz.prog S (f k) := con_fn (nt := 28) (live := live) (Λ := tab k) tok all_nil mixed Tryz.func88 (by kernel_rfl) (all_cons (fit3 k) all_nil) fun x => by kernel_rfl
end spec_Without

namespace spec_l15Copy
def S : Sp := ⟨170, ⟨[24], [24], [.bor], .own⟩, [.l .lent .rows], [.l .own .rows]⟩
def live : List (Nat × List Nat) := [(3, [0, 3, 4]), (100003, [2, 3])]
def G {R : Type} (k : Nat) : Glob R := mkG tt [] 22
def h3 : Hd := ⟨[.W, .l (.own 0), .I], [.W]⟩
def T3 {R : Type} (k : Nat) (K : X → St → Option R) : h3.Fn (Option R) := fun v0 v1 v2 => l3 k v0 (fun p0 => K (.exit 0) (stOf [2, 3] [.one (.l (.any)), .one (.l (.own 0))] [some (.row 0 0 (.rows true p0))])) k v1 v2
def tab {R : Type} (k : Nat) : LTab R := fun id K vs hs => bif id == 3 then h3.tell vs hs (T3 k K) else none
theorem fit3 {R : Type} (k : Nat) : Fit (R := R) (G k) live (tab k) (bl Tryz.f170 0) := h3.fit (key := 3) (by kernel_rfl) (T3 k) (fun _ _ _ => rfl) fun K r v0 v1 v2 h => fit_mk h (fun a => h3.mk' v0 a.1 a.2) (fun _ v1 v2 => some (v1, v2)) (by kernel_rfl) (fun _ => by kernel_rfl) fun Lp a => by kernel_rfl
theorem con (k : Nat) : Con Tryz.prog S (f k) := con_fn (nt := 22) (live := live) (Λ := tab k) tok all_nil mixed Tryz.func170 (by kernel_rfl) (all_cons (fit3 k) all_nil) fun x => by kernel_rfl
end spec_l15Copy

namespace spec_l24Copy
def S : Sp := ⟨158, ⟨[44], [44], [.bor], .own⟩, [.agg .lent kd44], [.agg .own kd44]⟩
theorem con (k : Nat) : Con Tryz.prog S (f k) := con_fn (nt := 24) (live := []) (Λ := noL) tok (all_cons (ok_con (spec_l22Copy.con k)) (all_cons (ok_con (spec_l15Copy.con k)) all_nil)) mixed Tryz.func158 (by kernel_rfl) all_nil fun x => by kernel_rfl
end spec_l24Copy

namespace spec_DoesSkip
def S : Sp := ⟨159, ⟨[38, 3], [4], [.bor, .bor], .own⟩, [.agg .lent kd38, .I], [.B]⟩
theorem con (k : Nat) : Con Tryz.prog S (f k) := con_fn (nt := 13) (live := []) (Λ := noL) tok (all_cons (ok_con (spec_IsRules.con k)) (all_cons (ok_con (spec_Matches.con k)) all_nil)) mixed Tryz.func159 (by kernel_rfl) all_nil fun x => by kernel_rfl
end spec_DoesSkip

namespace spec_PlayOn
def S : Sp := ⟨129, ⟨[44, 3], [44, 4], [.bor, .bor], .own⟩, [.agg .lent kd44, .I], [.agg .own kd44, .B]⟩
theorem con (k : Nat) : Con Tryz.prog S (f k) := con_fn (nt := 54) (live := []) (Λ := noL) tok (all_cons (ok_con (spec_HasCard.con k)) (all_cons (ok_con (spec_Without.con k)) (all_cons (ok_con (spec_Playable.con k)) (all_cons (ok_con (spec_l24Copy.con k)) (all_cons (ok_con (spec_DoesSkip.con k)) all_nil))))) mixed Tryz.func129 (by kernel_rfl) all_nil fun x => by kernel_rfl
end spec_PlayOn

namespace spec_TakeCards
def S : Sp := ⟨130, ⟨[44], [44, 4], [.bor], .own⟩, [.agg .lent kd44], [.agg .own kd44, .B]⟩
def live : List (Nat × List Nat) := [(6, [1, 2, 4, 5, 6]), (100006, [1, 2, 3, 4, 5])]
def G {R : Type} (k : Nat) : Glob R := mkG tt [spec_IsGame.S.ent (spec_IsGame.f k), spec_l24Over.S.ent (spec_l24Over.f k), spec_l24Copy.S.ent (spec_l24Copy.f k)] 97
def h6 : Hd := ⟨[.l (.ptr 0 0), .l (.ptr 1 0), .l (.ptr 2 0), .I, .I], [.box [.I, .I, .b, .b, .V, .V, .I, .I, .W, .V, .V, .I, .I, .I], .box [.I, .I, .bc false, .bc false, .nil, .nil, .I, .I, .nil, .nil, .nil, .I, .I, .I], .box [.I, .I, .b, .b, .own 3, .own 4, .I, .I, .own 5, .own 6, .own 7, .I, .I, .I], .V, .V, .W, .V, .V]⟩
def T6 {R : Type} (k : Nat) (K : X → St → Option R) : h6.Fn (Option R) := fun v0 v1 v2 v3 v4 v5 v6 v7 v8 v9 v10 v11 v12 v13 v14 v15 v16 v17 v20 v21 v22 v23 v24 v25 v26 v27 v28 v29 v30 v31 v32 v33 v34 v35 v36 v37 v38 => l6 k v8 v13 (fun p0 p1 p2 p3 => K (.exit 0) (stOf [1, 2, 3, 4, 5] [.one (.l (.bptr 0 0)), .one (.l (.bptr 1 0)), .one (.l (.any)), .one (.l (.bptr 2 0)), .one (.l (.i .i64 p0))] [some (.box 0 [.i .i64 v2, .i .i64 v3, .b v4, .b v5, .val false (.ints .i64 v6), .val false (.ints .i64 v7), .i .i64 v8, .i .i64 v9, .val false (.rows false v10), .val false (.ints .i64 v11), .val false (.ints .i64 v12), .i .i64 v13, .i .i64 v14, .i .i64 v15]), some (.box 0 [.i .i64 v16, .i .i64 v17, .b false, .b false, .nil, .nil, .i .i64 v20, .i .i64 v21, .nil, .nil, .nil, .i .i64 v22, .i .i64 v23, .i .i64 v24]), some (.box 0 [.i .i64 v25, .i .i64 v26, .b v27, .b v28, .own 3, .own 4, .i .i64 v29, .i .i64 v30, .own 5, .own 6, .own 7, .i .i64 v31, .i .i64 v32, .i .i64 v33]), some (.row 0 0 (.ints .i64 v34)), some (.row 0 0 (.ints .i64 v35)), some (.row 0 0 (.rows true p1)), some (.row 0 0 (.ints .i64 p2)), some (.row 0 0 (.ints .i64 p3))])) k v0 v1 v36 v37 v38
def tab {R : Type} (k : Nat) : LTab R := fun id K vs hs => bif id == 6 then h6.tell vs hs (T6 k K) else none
theorem fit6 {R : Type} (k : Nat) : Fit (R := R) (G k) live (tab k) (bl Tryz.f130 0) := h6.fit (key := 6) (by kernel_rfl) (T6 k) (fun _ _ _ => rfl) fun K r v0 v1 v2 v3 v4 v5 v6 v7 v8 v9 v10 v11 v12 v13 v14 v15 v16 v17 v20 v21 v22 v23 v24 v25 v26 v27 v28 v29 v30 v31 v32 v33 v34 v35 v36 v37 v38 h => fit_mk h (fun a => h6.mk' a.1 a.2.1 v2 v3 v4 v5 v6 v7 v8 v9 v10 v11 v12 v13 v14 v15 v16 v17 v20 v21 v22 v23 v24 v25 v26 v27 v28 v29 v30 v31 v32 v33 v34 v35 (t2 a).1 (t3 a).1 (t4 a)) (fun v0 v1 _ _ _ _ _ _ _ _ _ _ _ _ _ _ _ _ _ _ _ _ _ _ _ _ _ _ _ _ _ _ _ _ v36 v37 v38 => some (v0, v1, v36, v37, v38)) (by kernel_rfl) (fun _ => by kernel_rfl) fun Lp a => by kernel_rfl
theorem con (k : Nat) : Con Tryz.prog S (f k) := con_fn (nt := 97) (live := live) (Λ := tab k) tok (all_cons (ok_con (spec_IsGame.con k)) (all_cons (ok_con (spec_l24Over.con k)) (all_cons (ok_con (spec_l24Copy.con k)) all_nil))) mixed Tryz.func130 (by kernel_rfl) (all_cons (fit6 k) all_nil) fun x => by kernel_rfl
end spec_TakeCards

namespace spec_l24Draw
def S : Sp := ⟨92, ⟨[78], [44], [.io], .lent⟩, [.ptr kd108], [.agg .lent kd44, .ptr kd108]⟩
def live : List (Nat × List Nat) := [(3, [0, 2, 3, 4, 79]), (100003, [0, 2, 3, 79])]
def G {R : Type} (k : Nat) : Glob R := mkG tt [spec_l24Start.S.ent (spec_l24Start.f k), spec_l1Once.S.ent (spec_l1Once.f k), spec_l4Card.S.ent (spec_l4Card.f k), spec_l1Below.S.ent (spec_l1Below.f k), spec_l1Int.S.ent (spec_l1Int.f k), spec_l22Any.S.ent (spec_l22Any.f k), spec_Playable.S.ent (spec_Playable.f k), spec_PlayOn.S.ent (spec_PlayOn.f k), spec_TakeCards.S.ent (spec_TakeCards.f k)] 79
def h3 : Hd := ⟨[.l (.ptr 0 0), .l (.ptr 1 0), .l (.ptr 2 0), .I, .l (.ptr 0 0)], [.box [.val true false (.ints .u8), .I, .I], .box [.I, .I, .bc false, .bc false, .nil, .nil, .I, .I, .nil, .nil, .nil, .I, .I, .I], .box [.I, .I, .b, .b, .own 3, .own 4, .I, .I, .own 5, .own 6, .own 7, .I, .I, .I], .V, .V, .W, .V, .V]⟩
def T3 {R : Type} (k : Nat) (K : X → St → Option R) : h3.Fn (Option R) := fun v0 v1 v2 v3 v4 v5 v8 v9 v10 v11 v12 v13 v14 v15 v16 v17 v18 v19 v20 v21 v22 v23 v24 v25 v26 => l3 k (fun p0 p1 p2 p3 p4 p5 p6 p7 p8 p9 p10 p11 p12 p13 p14 p15 p16 => K (.exit 0) (stOf [0, 2, 3, 79] [.one (.l (.bptr 0 0)), .one (.l (.bptr 1 0)), .one (.l (.bptr 2 0)), .one (.l (.bptr 0 0))] [some (.box 0 [.val true (.ints .u8 p0), .i .i64 p1, .i .i64 p2]), some (.box 0 [.i .i64 v4, .i .i64 v5, .b false, .b false, .nil, .nil, .i .i64 v8, .i .i64 v9, .nil, .nil, .nil, .i .i64 v10, .i .i64 v11, .i .i64 v12]), some (.box 0 [.i .i64 p3, .i .i64 p4, .b p5, .b p6, .own 3, .own 4, .i .i64 p7, .i .i64 p8, .own 5, .own 6, .own 7, .i .i64 p9, .i .i64 p10, .i .i64 p11]), some (.row 0 0 (.ints .i64 p12)), some (.row 0 0 (.ints .i64 p13)), some (.row 0 0 (.rows true p14)), some (.row 0 0 (.ints .i64 p15)), some (.row 0 0 (.ints .i64 p16))])) k v0 v1 v2 v3 v13 v14 v15 v16 v17 v18 v19 v20 v21 v22 v23 v24 v25 v26
def tab {R : Type} (k : Nat) : LTab R := fun id K vs hs => bif id == 3 then h3.tell vs hs (T3 k K) else none
theorem fit3 {R : Type} (k : Nat) : Fit (R := R) (G k) live (tab k) (bl Tryz.f92 0) := h3.fit (key := 3) (by kernel_rfl) (T3 k) (fun _ _ _ => rfl) fun K r v0 v1 v2 v3 v4 v5 v8 v9 v10 v11 v12 v13 v14 v15 v16 v17 v18 v19 v20 v21 v22 v23 v24 v25 v26 h => fit_mk h (fun a => h3.mk' a.1 a.2.1 (t2 a).1 (t3 a).1 v4 v5 v8 v9 v10 v11 v12 (t4 a).1 (t5 a).1 (t6 a).1 (t7 a).1 (t8 a).1 (t9 a).1 (t9 a.2).1 (t9 (t2 a)).1 (t9 (t3 a)).1 (t9 (t4 a)).1 (t9 (t5 a)).1 (t9 (t6 a)).1 (t9 (t7 a)).1 (t9 (t8 a))) (fun v0 v1 v2 v3 _ _ _ _ _ _ _ v13 v14 v15 v16 v17 v18 v19 v20 v21 v22 v23 v24 v25 v26 => some (v0, v1, v2, v3, v13, v14, v15, v16, v17, v18, v19, v20, v21, v22, v23, v24, v25, v26)) (by kernel_rfl) (fun _ => by kernel_rfl) fun Lp a => by kernel_rfl
theorem con (k : Nat) : Con Tryz.prog S (f k) := con_fn (nt := 79) (live := live) (Λ := tab k) tok (all_cons (ok_con (spec_l24Start.con k)) (all_cons (ok_con (spec_l1Once.con k)) (all_cons (ok_con (spec_l4Card.con k)) (all_cons (ok_con (spec_l1Below.con k)) (all_cons (ok_con (spec_l1Int.con k)) (all_cons (ok_con (spec_l22Any.con k)) (all_cons (ok_con (spec_Playable.con k)) (all_cons (ok_con (spec_PlayOn.con k)) (all_cons (ok_con (spec_TakeCards.con k)) all_nil))))))))) mixed Tryz.func92 (by kernel_rfl) (all_cons (fit3 k) all_nil) fun x => by kernel_rfl
end spec_l24Draw

namespace spec_DrawPlayOut
def S : Sp := ⟨49, ⟨[22], [44, 32], [.frz], .lent⟩, [.l .frz (.ints .u8)], [.agg .lent kd44, .V]⟩
theorem con (k : Nat) : Con Tryz.prog S (f k) := con_fn (nt := 17) (live := []) (Λ := noL) tok (all_cons (ok_con (spec_l1New.con k)) (all_cons (ok_con (spec_l24Start.con k)) (all_cons (ok_con (spec_l26Kinds.con k)) (all_cons (ok_con (spec_l1Once.con k)) (all_cons (ok_con (spec_l24Draw.con k)) all_nil))))) mixed Tryz.func49 (by kernel_rfl) all_nil fun x => by kernel_rfl
end spec_DrawPlayOut

namespace spec_DrawRecordOut
def S : Sp := ⟨19, ⟨[22], [44, 32], [.frz], .lent⟩, [.l .frz (.ints .u8)], [.agg .lent kd44, .V]⟩
theorem con (k : Nat) : Con Tryz.prog S (f k) := con_fn (nt := 8) (live := []) (Λ := noL) tok (all_cons (ok_con (spec_DrawPlayOut.con k)) all_nil) mixed Tryz.func19 (by kernel_rfl) all_nil fun x => by kernel_rfl
end spec_DrawRecordOut

namespace impl_InRange
def S : Sp := ⟨34, ⟨[3, 3, 3], [4], [.bor, .bor, .bor], .own⟩, [.I, .I, .I], [.B]⟩
theorem con (k : Nat) : Con Tryz.prog S (f k) := con_fn (nt := 15) (live := []) (Λ := noL) tok all_nil mixed Tryz.func34 (by kernel_rfl) all_nil fun x => by kernel_rfl
end impl_InRange

namespace impl_isTest
def S : Sp := ⟨155, ⟨[3], [4], [.bor], .own⟩, [.I], [.B]⟩
theorem con (k : Nat) : Con Tryz.prog S (f k) := con_fn (nt := 17) (live := []) (Λ := noL) tok (all_cons (ok_con (impl_InRange.con k)) all_nil) mixed Tryz.func155 (by kernel_rfl) all_nil fun x => by kernel_rfl
end impl_isTest

namespace impl_IsPattern
def S : Sp := ⟨122, ⟨[32], [4], [.bor], .own⟩, [.V], [.B]⟩
def live : List (Nat × List Nat) := [(3, [0, 3, 6, 7, 8]), (100003, [0, 2, 3])]
def G {R : Type} (k : Nat) : Glob R := mkG tt [impl_InRange.S.ent (impl_InRange.f k), impl_isTest.S.ent (impl_isTest.f k)] 45
def h3 : Hd := ⟨[.V, .I, .V, .I, .I], []⟩
def T3 {R : Type} (k : Nat) (K : X → St → Option R) : h3.Fn (Option R) := fun v0 v1 v2 v3 v4 => l3 k v2 v3 (fun p0 => K .ret (stOf [0, 2, 3] [.one (.l (.val false (.ints .i64 v0))), .one (.l (.b false)), .one (.l (.i .i64 p0))] [])) (fun p0 => K (.exit 0) (stOf [0, 2, 3] [.one (.l (.val false (.ints .i64 v0))), .one (.l (.any)), .one (.l (.i .i64 p0))] [])) k v1 v4
def tab {R : Type} (k : Nat) : LTab R := fun id K vs hs => bif id == 3 then h3.tell vs hs (T3 k K) else none
theorem fit3 {R : Type} (k : Nat) : Fit (R := R) (G k) live (tab k) (bl Tryz.f122 0) := h3.fit (key := 3) (by kernel_rfl) (T3 k) (fun _ _ _ => rfl) fun K r v0 v1 v2 v3 v4 h => fit_mk h (fun a => h3.mk' v0 a.1 v2 v3 a.2) (fun _ v1 _ _ v4 => some (v1, v4)) (by kernel_rfl) (fun _ => by kernel_rfl) fun Lp a => by kernel_rfl
theorem con (k : Nat) : Con Tryz.prog S (f k) := con_fn (nt := 45) (live := live) (Λ := tab k) tok (all_cons (ok_con (impl_InRange.con k)) (all_cons (ok_con (impl_isTest.con k)) all_nil)) mixed Tryz.func122 (by kernel_rfl) (all_cons (fit3 k) all_nil) fun x => by kernel_rfl
end impl_IsPattern

namespace impl_isMaybe
def S : Sp := ⟨80, ⟨[32], [4], [.bor], .own⟩, [.V], [.B]⟩
theorem con (k : Nat) : Con Tryz.prog S (f k) := con_fn (nt := 10) (live := []) (Λ := noL) tok (all_cons (ok_con (impl_IsPattern.con k)) all_nil) mixed Tryz.func80 (by kernel_rfl) all_nil fun x => by kernel_rfl
end impl_isMaybe

namespace impl_IsRules
def S : Sp := ⟨39, ⟨[38], [4], [.bor], .own⟩, [.agg .lent kd38], [.B]⟩
theorem con (k : Nat) : Con Tryz.prog S (f k) := con_fn (nt := 39) (live := []) (Λ := noL) tok (all_cons (ok_con (impl_InRange.con k)) (all_cons (ok_con (impl_isMaybe.con k)) all_nil)) mixed Tryz.func39 (by kernel_rfl) all_nil fun x => by kernel_rfl
end impl_IsRules

namespace impl_TotalCards
def S : Sp := ⟨31, ⟨[24], [3], [.bor], .own⟩, [.l .lent .rows], [.O]⟩
def live : List (Nat × List Nat) := [(3, [3, 6, 7, 8]), (100003, [2, 3])]
def G {R : Type} (k : Nat) : Glob R := mkG tt [] 18
def h3 : Hd := ⟨[.I, .W, .I, .I], []⟩
def T3 {R : Type} (k : Nat) (K : X → St → Option R) : h3.Fn (Option R) := fun v0 v1 v2 v3 => l3 k v1 v2 (fun p0 => K (.exit 0) (stOf [2, 3] [.one (.l (.any)), .one (.l (.i .i64 p0))] [])) k v0 v3
def tab {R : Type} (k : Nat) : LTab R := fun id K vs hs => bif id == 3 then h3.tell vs hs (T3 k K) else none
theorem fit3 {R : Type} (k : Nat) : Fit (R := R) (G k) live (tab k) (bl Tryz.f31 0) := h3.fit (key := 3) (by kernel_rfl) (T3 k) (fun _ _ _ => rfl) fun K r v0 v1 v2 v3 h => fit_mk h (fun a => h3.mk' a.1 v1 v2 a.2) (fun v0 _ _ v3 => some (v0, v3)) (by kernel_rfl) (fun _ => by kernel_rfl) fun Lp a => by kernel_rfl
theorem con (k : Nat) : Con Tryz.prog S (f k) := con_fn (nt := 18) (live := live) (Λ := tab k) tok all_nil mixed Tryz.func31 (by kernel_rfl) (all_cons (fit3 k) all_nil) fun x => by kernel_rfl
end impl_TotalCards

namespace impl_IsCard
def S : Sp := ⟨90, ⟨[3], [4], [.bor], .own⟩, [.I], [.B]⟩
theorem con (k : Nat) : Con Tryz.prog S (f k) := con_fn (nt := 5) (live := []) (Λ := noL) tok (all_cons (ok_con (impl_InRange.con k)) all_nil) mixed Tryz.func90 (by kernel_rfl) all_nil fun x => by kernel_rfl
end impl_IsCard

namespace impl_IsHand
def S : Sp := ⟨44, ⟨[32], [4], [.bor], .own⟩, [.V], [.B]⟩
def live : List (Nat × List Nat) := [(3, [3, 7, 8, 9]), (100003, [2])]
def G {R : Type} (k : Nat) : Glob R := mkG tt [impl_IsCard.S.ent (impl_IsCard.f k)] 24
def h3 : Hd := ⟨[.l (.arr 0 52), .V, .I, .I], [.row false .bools]⟩
def T3 {R : Type} (k : Nat) (K : X → St → Option R) : h3.Fn (Option R) := fun v0 v1 v2 v3 => l3 k v0 v1 (K .ret (stOf [2] [.one (.l (.b false))] [])) (K (.exit 0) (stOf [2] [.one (.l (.any))] [])) k v2 v3
def tab {R : Type} (k : Nat) : LTab R := fun id K vs hs => bif id == 3 then h3.tell vs hs (T3 k K) else none
theorem fit3 {R : Type} (k : Nat) : Fit (R := R) (G k) live (tab k) (bl Tryz.f44 0) := h3.fit (key := 3) (by kernel_rfl) (T3 k) (fun _ _ _ => rfl) fun K r v0 v1 v2 v3 h => fit_mk h (fun a => h3.mk' v0 v1 a.1 a.2) (fun _ _ v2 v3 => some (v2, v3)) (by kernel_rfl) (fun _ => by kernel_rfl) fun Lp a => by kernel_rfl
theorem con (k : Nat) : Con Tryz.prog S (f k) := con_fn (nt := 24) (live := live) (Λ := tab k) tok (all_cons (ok_con (impl_IsCard.con k)) all_nil) mixed Tryz.func44 (by kernel_rfl) (all_cons (fit3 k) all_nil) fun x => by kernel_rfl
end impl_IsHand

namespace impl_AllApart
def S : Sp := ⟨114, ⟨[24], [4], [.bor], .own⟩, [.l .lent .rows], [.B]⟩
def live : List (Nat × List Nat) := [(3, [3, 7, 8, 9]), (100003, [2, 3])]
def G {R : Type} (k : Nat) : Glob R := mkG tt [impl_IsHand.S.ent (impl_IsHand.f k)] 19
def h3 : Hd := ⟨[.l (.own 0), .W, .I, .I], [.V]⟩
def T3 {R : Type} (k : Nat) (K : X → St → Option R) : h3.Fn (Option R) := fun v0 v1 v2 v3 => l3 k v0 v1 (fun p0 => K (.exit 0) (stOf [2, 3] [.one (.l (.any)), .one (.l (.own 0))] [some (.row 0 0 (.ints .i64 p0))])) k v2 v3
def tab {R : Type} (k : Nat) : LTab R := fun id K vs hs => bif id == 3 then h3.tell vs hs (T3 k K) else none
theorem fit3 {R : Type} (k : Nat) : Fit (R := R) (G k) live (tab k) (bl Tryz.f114 0) := h3.fit (key := 3) (by kernel_rfl) (T3 k) (fun _ _ _ => rfl) fun K r v0 v1 v2 v3 h => fit_mk h (fun a => h3.mk' v0 v1 a.1 a.2) (fun _ _ v2 v3 => some (v2, v3)) (by kernel_rfl) (fun _ => by kernel_rfl) fun Lp a => by kernel_rfl
theorem con (k : Nat) : Con Tryz.prog S (f k) := con_fn (nt := 19) (live := live) (Λ := tab k) tok (all_cons (ok_con (impl_IsHand.con k)) all_nil) mixed Tryz.func114 (by kernel_rfl) (all_cons (fit3 k) all_nil) fun x => by kernel_rfl
end impl_AllApart

namespace impl_isWhole
def S : Sp := ⟨71, ⟨[24], [4], [.bor], .own⟩, [.l .lent .rows], [.B]⟩
theorem con (k : Nat) : Con Tryz.prog S (f k) := con_fn (nt := 10) (live := []) (Λ := noL) tok (all_cons (ok_con (impl_TotalCards.con k)) (all_cons (ok_con (impl_AllApart.con k)) all_nil)) mixed Tryz.func71 (by kernel_rfl) all_nil fun x => by kernel_rfl
end impl_isWhole

namespace impl_copyOf
def S : Sp := ⟨94, ⟨[32], [32], [.bor], .own⟩, [.V], [.l .own (.ints .i64)]⟩
theorem con (k : Nat) : Con Tryz.prog S (f k) := con_fn (nt := 6) (live := []) (Λ := noL) tok all_nil mixed Tryz.func94 (by kernel_rfl) all_nil fun x => by kernel_rfl
end impl_copyOf

namespace impl_copyRows
def S : Sp := ⟨72, ⟨[24], [24], [.bor], .own⟩, [.l .lent .rows], [.l .own .rows]⟩
def live : List (Nat × List Nat) := [(3, [3, 7, 8, 9]), (100003, [2, 3])]
def G {R : Type} (k : Nat) : Glob R := mkG tt [impl_copyOf.S.ent (impl_copyOf.f k)] 20
def h3 : Hd := ⟨[.l (.own 0), .W, .I, .I], [.W]⟩
def T3 {R : Type} (k : Nat) (K : X → St → Option R) : h3.Fn (Option R) := fun v0 v1 v2 v3 => l3 k v0 v1 (fun p0 => K (.exit 0) (stOf [2, 3] [.one (.l (.any)), .one (.l (.own 0))] [some (.row 0 0 (.rows true p0))])) k v2 v3
def tab {R : Type} (k : Nat) : LTab R := fun id K vs hs => bif id == 3 then h3.tell vs hs (T3 k K) else none
theorem fit3 {R : Type} (k : Nat) : Fit (R := R) (G k) live (tab k) (bl Tryz.f72 0) := h3.fit (key := 3) (by kernel_rfl) (T3 k) (fun _ _ _ => rfl) fun K r v0 v1 v2 v3 h => fit_mk h (fun a => h3.mk' v0 v1 a.1 a.2) (fun _ _ v2 v3 => some (v2, v3)) (by kernel_rfl) (fun _ => by kernel_rfl) fun Lp a => by kernel_rfl
theorem con (k : Nat) : Con Tryz.prog S (f k) := con_fn (nt := 20) (live := live) (Λ := tab k) tok (all_cons (ok_con (impl_copyOf.con k)) all_nil) mixed Tryz.func72 (by kernel_rfl) (all_cons (fit3 k) all_nil) fun x => by kernel_rfl
end impl_copyRows

namespace impl_IsGame
def S : Sp := ⟨29, ⟨[44], [4], [.bor], .own⟩, [.agg .lent kd44], [.B]⟩
theorem con (k : Nat) : Con Tryz.prog S (f k) := con_fn (nt := 57) (live := []) (Λ := noL) tok (all_cons (ok_con (impl_InRange.con k)) (all_cons (ok_con (impl_IsRules.con k)) (all_cons (ok_con (impl_isWhole.con k)) (all_cons (ok_con (impl_copyRows.con k)) all_nil)))) mixed Tryz.func29 (by kernel_rfl) all_nil fun x => by kernel_rfl
end impl_IsGame

namespace impl_Rules_copied
def S : Sp := ⟨93, ⟨[38], [38], [.bor], .own⟩, [.agg .lent kd38], [.agg .own kd38]⟩
theorem con (k : Nat) : Con Tryz.prog S (f k) := con_fn (nt := 12) (live := []) (Λ := noL) tok (all_cons (ok_con (impl_copyOf.con k)) all_nil) mixed Tryz.func93 (by kernel_rfl) all_nil fun x => by kernel_rfl
end impl_Rules_copied

namespace impl_Game_copied
def S : Sp := ⟨50, ⟨[44], [44], [.bor], .own⟩, [.agg .lent kd44], [.agg .own kd44]⟩
theorem con (k : Nat) : Con Tryz.prog S (f k) := con_fn (nt := 22) (live := []) (Λ := noL) tok (all_cons (ok_con (impl_copyRows.con k)) (all_cons (ok_con (impl_Rules_copied.con k)) (all_cons (ok_con (impl_copyOf.con k)) all_nil))) mixed Tryz.func50 (by kernel_rfl) all_nil fun x => by kernel_rfl
end impl_Game_copied

namespace impl_Winner
def S : Sp := ⟨95, ⟨[44], [3], [.bor], .own⟩, [.agg .lent kd44], [.O]⟩
def live : List (Nat × List Nat) := [(4, [9, 10, 11]), (100004, [2])]
def G {R : Type} (k : Nat) : Glob R := mkG tt [impl_IsGame.S.ent (impl_IsGame.f k)] 21
def h4 : Hd := ⟨[.W, .I, .I], []⟩
def T4 {R : Type} (k : Nat) (K : X → St → Option R) : h4.Fn (Option R) := fun v0 v1 v2 => l4 k v0 v1 (fun p0 => K .ret (stOf [2] [.one (.l (.i .i64 p0))] [])) (K (.exit 0) (stOf [2] [.one (.l (.any))] [])) k v2
def tab {R : Type} (k : Nat) : LTab R := fun id K vs hs => bif id == 4 then h4.tell vs hs (T4 k K) else none
theorem fit4 {R : Type} (k : Nat) : Fit (R := R) (G k) live (tab k) (bl Tryz.f95 0) := h4.fit (key := 4) (by kernel_rfl) (T4 k) (fun _ _ _ => rfl) fun K r v0 v1 v2 h => fit_mk h (fun a => h4.mk' v0 v1 a) (fun _ _ v2 => some v2) (by kernel_rfl) (fun _ => by kernel_rfl) fun Lp a => by kernel_rfl
theorem con (k : Nat) : Con Tryz.prog S (f k) := con_fn (nt := 21) (live := live) (Λ := tab k) tok (all_cons (ok_con (impl_IsGame.con k)) all_nil) mixed Tryz.func95 (by kernel_rfl) (all_cons (fit4 k) all_nil) fun x => by kernel_rfl
end impl_Winner

namespace impl_IsEnded
def S : Sp := ⟨51, ⟨[44], [4], [.bor], .own⟩, [.agg .lent kd44], [.B]⟩
theorem con (k : Nat) : Con Tryz.prog S (f k) := con_fn (nt := 26) (live := []) (Λ := noL) tok (all_cons (ok_con (impl_IsGame.con k)) (all_cons (ok_con (impl_Winner.con k)) all_nil)) mixed Tryz.func51 (by kernel_rfl) all_nil fun x => by kernel_rfl
end impl_IsEnded

namespace impl_SuitOf
def S : Sp := ⟨78, ⟨[3], [3], [.bor], .own⟩, [.I], [.O]⟩
theorem con (k : Nat) : Con Tryz.prog S (f k) := con_fn (nt := 8) (live := []) (Λ := noL) tok (all_cons (ok_con (impl_IsCard.con k)) all_nil) mixed Tryz.func78 (by kernel_rfl) all_nil fun x => by kernel_rfl
end impl_SuitOf

namespace impl_Sorted
def S : Sp := ⟨45, ⟨[32], [32], [.bor], .own⟩, [.V], [.l .own (.ints .i64)]⟩
def live : List (Nat × List Nat) := [(6, [3, 5, 6, 8, 9, 10]), (100006, [2, 3, 5, 6, 8, 9, 10]), (3, [3, 8, 9, 10]), (100003, [2, 3])]
def G {R : Type} (k : Nat) : Glob R := mkG tt [] 46
def h6 : Hd := ⟨[.l (.own 0), .I, .I, .V, .I, .I], [.V]⟩
def T6 {R : Type} (k : Nat) (K : X → St → Option R) : h6.Fn (Option R) := fun v0 v1 v2 v3 v4 v5 => l6 k v0 v5 (fun p0 => K (.exit 2) (stOf [2, 3, 5, 6, 8, 9, 10] [.one (.l (.any)), .one (.l (.own 0)), .one (.l (.i .i64 v0)), .one (.l (.i .i64 p0)), .one (.l (.val false (.ints .i64 v2))), .one (.l (.i .i64 v3)), .one (.l (.i .i64 v4))] [some (.row 0 0 (.ints .i64 v5))])) k v1
def h3 : Hd := ⟨[.l (.own 0), .V, .I, .I], [.V]⟩
def T3 {R : Type} (k : Nat) (K : X → St → Option R) : h3.Fn (Option R) := fun v0 v1 v2 v3 => l3 k v0 v1 (fun p0 => K (.exit 0) (stOf [2, 3] [.one (.l (.any)), .one (.l (.own 0))] [some (.row 0 0 (.ints .i64 p0))])) k v2 v3
def tab {R : Type} (k : Nat) : LTab R := fun id K vs hs => bif id == 6 then h6.tell vs hs (T6 k K) else bif id == 3 then h3.tell vs hs (T3 k K) else none
theorem fit3 {R : Type} (k : Nat) : Fit (R := R) (G k) live (tab k) (bl Tryz.f45 0) := h3.fit (key := 3) (by kernel_rfl) (T3 k) (fun _ _ _ => rfl) fun K r v0 v1 v2 v3 h => fit_mk h (fun a => h3.mk' v0 v1 a.1 a.2) (fun _ _ v2 v3 => some (v2, v3)) (by kernel_rfl) (fun _ => by kernel_rfl) fun Lp a => by kernel_rfl
theorem fit6 {R : Type} (k : Nat) : Fit (R := R) (G k) live (tab k) (bl Tryz.f45 1) := h6.fit (key := 6) (by kernel_rfl) (T6 k) (fun _ _ _ => rfl) fun K r v0 v1 v2 v3 v4 v5 h => fit_mk h (fun a => h6.mk' v0 a v2 v3 v4 v5) (fun _ v1 _ _ _ _ => some v1) (by kernel_rfl) (fun _ => by kernel_rfl) fun Lp a => by kernel_rfl
theorem con (k : Nat) : Con Tryz.prog S (f k) := con_fn (nt := 46) (live := live) (Λ := tab k) tok all_nil mixed Tryz.func45 (by kernel_rfl) (all_cons (fit3 k) (all_cons (fit6 k) all_nil)) fun x => by kernel_rfl
end impl_Sorted

namespace impl_RankOf
def S : Sp := ⟨91, ⟨[3], [3], [.bor], .own⟩, [.I], [.O]⟩
theorem con (k : Nat) : Con Tryz.prog S (f k) := con_fn (nt := 8) (live := []) (Λ := noL) tok (all_cons (ok_con (impl_IsCard.con k)) all_nil) mixed Tryz.func91 (by kernel_rfl) all_nil fun x => by kernel_rfl
end impl_RankOf

namespace impl_IsRed
def S : Sp := ⟨149, ⟨[3], [4], [.bor], .own⟩, [.I], [.B]⟩
theorem con (k : Nat) : Con Tryz.prog S (f k) := con_fn (nt := 11) (live := []) (Λ := noL) tok (all_cons (ok_con (impl_SuitOf.con k)) all_nil) mixed Tryz.func149 (by kernel_rfl) all_nil fun x => by kernel_rfl
end impl_IsRed

namespace impl_asks
def S : Sp := ⟨123, ⟨[3, 3], [4], [.bor, .bor], .own⟩, [.I, .I], [.B]⟩
theorem con (k : Nat) : Con Tryz.prog S (f k) := con_fn (nt := 31) (live := []) (Λ := noL) tok (all_cons (ok_con (impl_SuitOf.con k)) (all_cons (ok_con (impl_RankOf.con k)) (all_cons (ok_con (impl_IsRed.con k)) all_nil))) mixed Tryz.func123 (by kernel_rfl) all_nil fun x => by kernel_rfl
end impl_asks

namespace impl_Matches
def S : Sp := ⟨81, ⟨[32, 3], [4], [.bor, .bor], .own⟩, [.V, .I], [.B]⟩
def live : List (Nat × List Nat) := [(5, [1, 5, 18, 19, 20]), (100005, [4, 5])]
def G {R : Type} (k : Nat) : Glob R := mkG tt [impl_IsCard.S.ent (impl_IsCard.f k), impl_IsPattern.S.ent (impl_IsPattern.f k), impl_asks.S.ent (impl_asks.f k)] 89
def h5 : Hd := ⟨[.I, .l (.own 0), .V, .I, .I], [.row false .bools]⟩
def T5 {R : Type} (k : Nat) (K : X → St → Option R) : h5.Fn (Option R) := fun v0 v1 v2 v3 v4 => l5 k v0 v1 v2 (fun p0 => K (.exit 0) (stOf [4, 5] [.one (.l (.any)), .one (.l (.own 0))] [some (.row 0 0 (.bools p0))])) k v3 v4
def tab {R : Type} (k : Nat) : LTab R := fun id K vs hs => bif id == 5 then h5.tell vs hs (T5 k K) else none
theorem fit5 {R : Type} (k : Nat) : Fit (R := R) (G k) live (tab k) (bl Tryz.f81 0) := h5.fit (key := 5) (by kernel_rfl) (T5 k) (fun _ _ _ => rfl) fun K r v0 v1 v2 v3 v4 h => fit_mk h (fun a => h5.mk' v0 v1 v2 a.1 a.2) (fun _ _ _ v3 v4 => some (v3, v4)) (by kernel_rfl) (fun _ => by kernel_rfl) fun Lp a => by kernel_rfl
theorem con (k : Nat) : Con Tryz.prog S (f k) := con_fn (nt := 89) (live := live) (Λ := tab k) tok (all_cons (ok_con (impl_IsCard.con k)) (all_cons (ok_con (impl_IsPattern.con k)) (all_cons (ok_con (impl_asks.con k)) all_nil))) mixed Tryz.func81 (by kernel_rfl) (all_cons (fit5 k) all_nil) fun x => by kernel_rfl
end impl_Matches

namespace impl_FitsOn
def S : Sp := ⟨131, ⟨[38, 3, 3], [4], [.bor, .bor, .bor], .own⟩, [.agg .lent kd38, .I, .I], [.B]⟩
theorem con (k : Nat) : Con Tryz.prog S (f k) := con_fn (nt := 46) (live := []) (Λ := noL) tok (all_cons (ok_con (impl_IsRules.con k)) (all_cons (ok_con (impl_SuitOf.con k)) (all_cons (ok_con (impl_Matches.con k)) (all_cons (ok_con (impl_IsCard.con k)) (all_cons (ok_con (impl_RankOf.con k)) all_nil))))) mixed Tryz.func131 (by kernel_rfl) all_nil fun x => by kernel_rfl
end impl_FitsOn

namespace impl_Playable
def S : Sp := ⟨96, ⟨[44], [32], [.bor], .own⟩, [.agg .lent kd44], [.l .own (.ints .i64)]⟩
def live : List (Nat × List Nat) := [(5, [1, 3, 20, 21, 22]), (100005, [2, 3])]
def G {R : Type} (k : Nat) : Glob R := mkG tt [impl_IsGame.S.ent (impl_IsGame.f k), impl_Sorted.S.ent (impl_Sorted.f k), impl_IsEnded.S.ent (impl_IsEnded.f k), impl_FitsOn.S.ent (impl_FitsOn.f k)] 44
def h5 : Hd := ⟨[.l (.ptr 0 0), .l (.own 1), .l (.own 2), .I, .I], [.box [.I, .I, .b, .b, .V, .V, .I, .I, .W, .V, .V, .I, .I, .I], .V, .V]⟩
def T5 {R : Type} (k : Nat) (K : X → St → Option R) : h5.Fn (Option R) := fun v0 v1 v2 v3 v4 v5 v6 v7 v8 v9 _ _ v12 _ _ _ v16 v17 => l5 k v0 v2 v3 v4 v5 v6 v7 v8 v9 v12 v17 (fun p0 => K (.exit 0) (stOf [2, 3] [.one (.l (.any)), .one (.l (.own 0))] [some (.row 0 0 (.ints .i64 p0))])) k v1 v16
def tab {R : Type} (k : Nat) : LTab R := fun id K vs hs => bif id == 5 then h5.tell vs hs (T5 k K) else none
theorem fit5 {R : Type} (k : Nat) : Fit (R := R) (G k) live (tab k) (bl Tryz.f96 0) := h5.fit (key := 5) (by kernel_rfl) (T5 k) (fun _ _ _ => rfl) fun K r v0 v1 v2 v3 v4 v5 v6 v7 v8 v9 v10 v11 v12 v13 v14 v15 v16 v17 h => fit_mk h (fun a => h5.mk' v0 a.1 v2 v3 v4 v5 v6 v7 v8 v9 v10 v11 v12 v13 v14 v15 a.2 v17) (fun _ v1 _ _ _ _ _ _ _ _ _ _ _ _ _ _ v16 _ => some (v1, v16)) (by kernel_rfl) (fun _ => by kernel_rfl) fun Lp a => by kernel_rfl
theorem con (k : Nat) : Con Tryz.prog S (f k) := con_fn (nt := 44) (live := live) (Λ := tab k) tok (all_cons (ok_con (impl_IsGame.con k)) (all_cons (ok_con (impl_Sorted.con k)) (all_cons (ok_con (impl_IsEnded.con k)) (all_cons (ok_con (impl_FitsOn.con k)) all_nil)))) mixed Tryz.func96 (by kernel_rfl) (all_cons (fit5 k) all_nil) fun x => by kernel_rfl
end impl_Playable

namespace impl_SuitCounts
def S : Sp := ⟨97, ⟨[32], [32], [.bor], .own⟩, [.V], [.l .own (.ints .i64)]⟩
def live : List (Nat × List Nat) := [(3, [3, 7, 8, 9]), (100003, [2, 3])]
def G {R : Type} (k : Nat) : Glob R := mkG tt [impl_SuitOf.S.ent (impl_SuitOf.f k), impl_IsCard.S.ent (impl_IsCard.f k)] 24
def h3 : Hd := ⟨[.l (.own 0), .V, .I, .I], [.V]⟩
def T3 {R : Type} (k : Nat) (K : X → St → Option R) : h3.Fn (Option R) := fun v0 v1 v2 v3 => l3 k v0 v1 (fun p0 => K (.exit 0) (stOf [2, 3] [.one (.l (.any)), .one (.l (.own 0))] [some (.row 0 0 (.ints .i64 p0))])) k v2 v3
def tab {R : Type} (k : Nat) : LTab R := fun id K vs hs => bif id == 3 then h3.tell vs hs (T3 k K) else none
theorem fit3 {R : Type} (k : Nat) : Fit (R := R) (G k) live (tab k) (bl Tryz.f97 0) := h3.fit (key := 3) (by kernel_rfl) (T3 k) (fun _ _ _ => rfl) fun K r v0 v1 v2 v3 h => fit_mk h (fun a => h3.mk' v0 v1 a.1 a.2) (fun _ _ v2 v3 => some (v2, v3)) (by kernel_rfl) (fun _ => by kernel_rfl) fun Lp a => by kernel_rfl
theorem con (k : Nat) : Con Tryz.prog S (f k) := con_fn (nt := 24) (live := live) (Λ := tab k) tok (all_cons (ok_con (impl_SuitOf.con k)) (all_cons (ok_con (impl_IsCard.con k)) all_nil)) mixed Tryz.func97 (by kernel_rfl) (all_cons (fit3 k) all_nil) fun x => by kernel_rfl
end impl_SuitCounts

namespace impl_ChoiceOf
def S : Sp := ⟨52, ⟨[44, 3], [3], [.bor, .bor], .own⟩, [.agg .lent kd44, .I], [.O]⟩
def live : List (Nat × List Nat) := [(12, [6, 7, 41, 42, 43]), (100012, [4, 7])]
def G {R : Type} (k : Nat) : Glob R := mkG tt [impl_SuitOf.S.ent (impl_SuitOf.f k), impl_Playable.S.ent (impl_Playable.f k), impl_SuitCounts.S.ent (impl_SuitCounts.f k)] 61
def h12 : Hd := ⟨[.l (.own 0), .I, .l (.own 1), .I, .I], [.V, .V]⟩
def T12 {R : Type} (k : Nat) (K : X → St → Option R) : h12.Fn (Option R) := fun v0 v1 v2 v3 v4 => l12 k v1 v3 v4 (fun p0 => K (.exit 1) (stOf [4, 7] [.one (.l (.any)), .one (.l (.i .i64 p0))] [])) k v0 v2
def tab {R : Type} (k : Nat) : LTab R := fun id K vs hs => bif id == 12 then h12.tell vs hs (T12 k K) else none
theorem fit12 {R : Type} (k : Nat) : Fit (R := R) (G k) live (tab k) (bl Tryz.f52 0) := h12.fit (key := 12) (by kernel_rfl) (T12 k) (fun _ _ _ => rfl) fun K r v0 v1 v2 v3 v4 h => fit_mk h (fun a => h12.mk' a.1 v1 a.2 v3 v4) (fun v0 _ v2 _ _ => some (v0, v2)) (by kernel_rfl) (fun _ => by kernel_rfl) fun Lp a => by kernel_rfl
theorem con (k : Nat) : Con Tryz.prog S (f k) := con_fn (nt := 61) (live := live) (Λ := tab k) tok (all_cons (ok_con (impl_SuitOf.con k)) (all_cons (ok_con (impl_Playable.con k)) (all_cons (ok_con (impl_SuitCounts.con k)) all_nil))) mixed Tryz.func52 (by kernel_rfl) (all_cons (fit12 k) all_nil) fun x => by kernel_rfl
end impl_ChoiceOf

namespace impl_kindAt
def S : Sp := ⟨53, ⟨[32, 3], [3], [.bor, .bor], .own⟩, [.V, .I], [.O]⟩
theorem con (k : Nat) : Con Tryz.prog S (f k) := con_fn (nt := 13) (live := []) (Λ := noL) tok all_nil mixed Tryz.func53 (by kernel_rfl) all_nil fun x => by kernel_rfl
end impl_kindAt

namespace impl_TakeCards
def S : Sp := ⟨98, ⟨[44], [44, 4], [.bor], .own⟩, [.agg .lent kd44], [.agg .own kd44, .B]⟩
def live : List (Nat × List Nat) := [(6, [1, 2, 4, 5, 19, 20]), (100006, [1, 2, 3, 4, 5])]
def G {R : Type} (k : Nat) : Glob R := mkG tt [impl_IsGame.S.ent (impl_IsGame.f k), impl_Game_copied.S.ent (impl_Game_copied.f k), impl_IsEnded.S.ent (impl_IsEnded.f k), impl_copyOf.S.ent (impl_copyOf.f k)] 91
def h6 : Hd := ⟨[.l (.ptr 0 0), .l (.ptr 1 0), .l (.ptr 2 0), .I, .I, .I], [.box [.I, .I, .b, .b, .V, .V, .I, .I, .W, .V, .V, .I, .I, .I], .box [.I, .I, .bc false, .bc false, .nil, .nil, .I, .I, .nil, .nil, .nil, .I, .I, .I], .box [.I, .I, .b, .b, .own 3, .own 4, .I, .I, .own 5, .own 6, .own 7, .I, .I, .I], .V, .V, .W, .V, .V]⟩
def T6 {R : Type} (k : Nat) (K : X → St → Option R) : h6.Fn (Option R) := fun v0 v1 v2 v3 v4 v5 v6 v7 v8 v9 v10 v11 v12 v13 v14 v15 v16 v17 v18 v21 v22 v23 v24 v25 v26 v27 v28 v29 v30 v31 v32 v33 v34 v35 v36 v37 v38 v39 => l6 k v1 v14 (fun p0 p1 p2 p3 => K (.exit 0) (stOf [1, 2, 3, 4, 5] [.one (.l (.bptr 0 0)), .one (.l (.bptr 1 0)), .one (.l (.any)), .one (.l (.bptr 2 0)), .one (.l (.i .i64 p0))] [some (.box 0 [.i .i64 v3, .i .i64 v4, .b v5, .b v6, .val false (.ints .i64 v7), .val false (.ints .i64 v8), .i .i64 v9, .i .i64 v10, .val false (.rows false v11), .val false (.ints .i64 v12), .val false (.ints .i64 v13), .i .i64 v14, .i .i64 v15, .i .i64 v16]), some (.box 0 [.i .i64 v17, .i .i64 v18, .b false, .b false, .nil, .nil, .i .i64 v21, .i .i64 v22, .nil, .nil, .nil, .i .i64 v23, .i .i64 v24, .i .i64 v25]), some (.box 0 [.i .i64 v26, .i .i64 v27, .b v28, .b v29, .own 3, .own 4, .i .i64 v30, .i .i64 v31, .own 5, .own 6, .own 7, .i .i64 v32, .i .i64 v33, .i .i64 v34]), some (.row 0 0 (.ints .i64 v35)), some (.row 0 0 (.ints .i64 v36)), some (.row 0 0 (.rows true p1)), some (.row 0 0 (.ints .i64 p2)), some (.row 0 0 (.ints .i64 p3))])) k v0 v2 v37 v38 v39
def tab {R : Type} (k : Nat) : LTab R := fun id K vs hs => bif id == 6 then h6.tell vs hs (T6 k K) else none
theorem fit6 {R : Type} (k : Nat) : Fit (R := R) (G k) live (tab k) (bl Tryz.f98 0) := h6.fit (key := 6) (by kernel_rfl) (T6 k) (fun _ _ _ => rfl) fun K r v0 v1 v2 v3 v4 v5 v6 v7 v8 v9 v10 v11 v12 v13 v14 v15 v16 v17 v18 v21 v22 v23 v24 v25 v26 v27 v28 v29 v30 v31 v32 v33 v34 v35 v36 v37 v38 v39 h => fit_mk h (fun a => h6.mk' a.1 v1 a.2.1 v3 v4 v5 v6 v7 v8 v9 v10 v11 v12 v13 v14 v15 v16 v17 v18 v21 v22 v23 v24 v25 v26 v27 v28 v29 v30 v31 v32 v33 v34 v35 v36 (t2 a).1 (t3 a).1 (t4 a)) (fun v0 _ v2 _ _ _ _ _ _ _ _ _ _ _ _ _ _ _ _ _ _ _ _ _ _ _ _ _ _ _ _ _ _ _ _ v37 v38 v39 => some (v0, v2, v37, v38, v39)) (by kernel_rfl) (fun _ => by kernel_rfl) fun Lp a => by kernel_rfl
theorem con (k : Nat) : Con Tryz.prog S (f k) := con_fn (nt := 91) (live := live) (Λ := tab k) tok (all_cons (ok_con (impl_IsGame.con k)) (all_cons (ok_con (impl_Game_copied.con k)) (all_cons (ok_con (impl_IsEnded.con k)) (all_cons (ok_con (impl_copyOf.con k)) all_nil)))) mixed Tryz.func98 (by kernel_rfl) (all_cons (fit6 k) all_nil) fun x => by kernel_rfl
end impl_TakeCards

namespace impl_PlaceOf
def S : Sp := ⟨160, ⟨[32, 3], [3], [.bor, .bor], .own⟩, [.V, .I], [.O]⟩
def live : List (Nat × List Nat) := [(2, [1, 7, 8, 9]), (100002, [4])]
def G {R : Type} (k : Nat) : Glob R := mkG tt [] 19
def h2 : Hd := ⟨[.I, .V, .I, .I], []⟩
def T2 {R : Type} (k : Nat) (K : X → St → Option R) : h2.Fn (Option R) := fun v0 v1 v2 v3 => l2 k v0 v1 v2 (fun p0 => K .ret (stOf [4] [.one (.l (.i .i64 p0))] [])) (K (.exit 0) (stOf [4] [.one (.l (.any))] [])) k v3
def tab {R : Type} (k : Nat) : LTab R := fun id K vs hs => bif id == 2 then h2.tell vs hs (T2 k K) else none
theorem fit2 {R : Type} (k : Nat) : Fit (R := R) (G k) live (tab k) (bl Tryz.f160 0) := h2.fit (key := 2) (by kernel_rfl) (T2 k) (fun _ _ _ => rfl) fun K r v0 v1 v2 v3 h => fit_mk h (fun a => h2.mk' v0 v1 v2 a) (fun _ _ _ v3 => some v3) (by kernel_rfl) (fun _ => by kernel_rfl) fun Lp a => by kernel_rfl
theorem con (k : Nat) : Con Tryz.prog S (f k) := con_fn (nt := 19) (live := live) (Λ := tab k) tok all_nil mixed Tryz.func160 (by kernel_rfl) (all_cons (fit2 k) all_nil) fun x => by kernel_rfl
end impl_PlaceOf

namespace impl_HasCard
def S : Sp := ⟨132, ⟨[32, 3], [4], [.bor, .bor], .own⟩, [.V, .I], [.B]⟩
theorem con (k : Nat) : Con Tryz.prog S (f k) := con_fn (nt := 9) (live := []) (Λ := noL) tok (all_cons (ok_con (impl_PlaceOf.con k)) all_nil) mixed Tryz.func132 (by kernel_rfl) all_nil fun x => by kernel_rfl
end impl_HasCard

namespace impl_Without
def S : Sp := ⟨133, ⟨[32, 3], [32], [.bor, .bor], .own⟩, [.V, .I], [.l .own (.ints .i64)]⟩
def live : List (Nat × List Nat) := [(3, [1, 5, 9, 10, 11]), (100003, [4, 5])]
def G {R : Type} (k : Nat) : Glob R := mkG tt [] 24
def h3 : Hd := ⟨[.I, .l (.own 0), .V, .I, .I], [.V]⟩
def T3 {R : Type} (k : Nat) (K : X → St → Option R) : h3.Fn (Option R) := fun v0 v1 v2 v3 v4 => l3 k v0 v1 v2 (fun p0 => K (.exit 0) (stOf [4, 5] [.one (.l (.any)), .one (.l (.own 0))] [some (.row 0 0 (.ints .i64 p0))])) k v3 v4
def tab {R : Type} (k : Nat) : LTab R := fun id K vs hs => bif id == 3 then h3.tell vs hs (T3 k K) else none
theorem fit3 {R : Type} (k : Nat) : Fit (R := R) (G k) live (tab k) (bl Tryz.f133 0) := h3.fit (key := 3) (by kernel_rfl) (T3 k) (fun _ _ _ => rfl) fun K r v0 v1 v2 v3 v4 h => fit_mk h (fun a => h3.mk' v0 v1 v2 a.1 a.2) (fun _ _ _ v3 v4 => some (v3, v4)) (by kernel_rfl) (fun _ => by kernel_rfl) fun Lp a => by kernel_rfl
theorem con (k : Nat) : Con Tryz.prog S (f k) := con_fn (nt := 24) (live := live) (Λ := tab k) tok all_nil mixed Tryz.func133 (by kernel_rfl) (all_cons (fit3 k) all_nil) fun x => by kernel_rfl
end impl_Without

namespace impl_DoesSkip
def S : Sp := ⟨134, ⟨[38, 3], [4], [.bor, .bor], .own⟩, [.agg .lent kd38, .I], [.B]⟩
theorem con (k : Nat) : Con Tryz.prog S (f k) := con_fn (nt := 13) (live := []) (Λ := noL) tok (all_cons (ok_con (impl_IsRules.con k)) (all_cons (ok_con (impl_Matches.con k)) all_nil)) mixed Tryz.func134 (by kernel_rfl) all_nil fun x => by kernel_rfl
end impl_DoesSkip

namespace impl_PlayOn
def S : Sp := ⟨99, ⟨[44, 3], [44, 4], [.bor, .bor], .own⟩, [.agg .lent kd44, .I], [.agg .own kd44, .B]⟩
theorem con (k : Nat) : Con Tryz.prog S (f k) := con_fn (nt := 54) (live := []) (Λ := noL) tok (all_cons (ok_con (impl_Game_copied.con k)) (all_cons (ok_con (impl_Playable.con k)) (all_cons (ok_con (impl_HasCard.con k)) (all_cons (ok_con (impl_Without.con k)) (all_cons (ok_con (impl_DoesSkip.con k)) all_nil))))) mixed Tryz.func99 (by kernel_rfl) all_nil fun x => by kernel_rfl
end impl_PlayOn

namespace impl_ReplayMove
def S : Sp := ⟨54, ⟨[44, 3], [44, 4], [.bor, .bor], .own⟩, [.agg .lent kd44, .I], [.agg .own kd44, .B]⟩
theorem con (k : Nat) : Con Tryz.prog S (f k) := con_fn (nt := 17) (live := []) (Λ := noL) tok (all_cons (ok_con (impl_TakeCards.con k)) (all_cons (ok_con (impl_PlayOn.con k)) all_nil)) mixed Tryz.func54 (by kernel_rfl) all_nil fun x => by kernel_rfl
end impl_ReplayMove

namespace impl_RecordOut
def S : Sp := ⟨20, ⟨[44, 32], [32], [.bor, .bor], .own⟩, [.agg .lent kd44, .V], [.l .own (.ints .i64)]⟩
def live : List (Nat × List Nat) := [(3, [1, 5, 6]), (100003, [4, 5])]
def G {R : Type} (k : Nat) : Glob R := mkG tt [impl_IsGame.S.ent (impl_IsGame.f k), impl_Game_copied.S.ent (impl_Game_copied.f k), impl_IsEnded.S.ent (impl_IsEnded.f k), impl_ChoiceOf.S.ent (impl_ChoiceOf.f k), impl_kindAt.S.ent (impl_kindAt.f k), impl_ReplayMove.S.ent (impl_ReplayMove.f k)] 36
def h3 : Hd := ⟨[.V, .l (.own 0), .l (.ptr 1 0)], [.V, .box [.I, .I, .b, .b, .own 2, .own 3, .I, .I, .own 4, .own 5, .own 6, .I, .I, .I], .V, .V, .W, .V, .V]⟩
def T3 {R : Type} (k : Nat) (K : X → St → Option R) : h3.Fn (Option R) := fun v0 v1 v2 v3 v4 v5 v6 v7 v8 v9 v10 v11 v12 v13 v14 v15 => l3 k v0 (fun p0 => K (.exit 0) (stOf [4, 5] [.one (.l (.any)), .one (.l (.own 0))] [some (.row 0 0 (.ints .i64 p0))])) k v1 v2 v3 v4 v5 v6 v7 v8 v9 v10 v11 v12 v13 v14 v15
def tab {R : Type} (k : Nat) : LTab R := fun id K vs hs => bif id == 3 then h3.tell vs hs (T3 k K) else none
theorem fit3 {R : Type} (k : Nat) : Fit (R := R) (G k) live (tab k) (bl Tryz.f20 0) := h3.fit (key := 3) (by kernel_rfl) (T3 k) (fun _ _ _ => rfl) fun K r v0 v1 v2 v3 v4 v5 v6 v7 v8 v9 v10 v11 v12 v13 v14 v15 h => fit_mk h (fun a => h3.mk' v0 a.1 a.2.1 (t2 a).1 (t3 a).1 (t4 a).1 (t5 a).1 (t6 a).1 (t7 a).1 (t8 a).1 (t9 a).1 (t9 a.2).1 (t9 (t2 a)).1 (t9 (t3 a)).1 (t9 (t4 a)).1 (t9 (t5 a))) (fun _ v1 v2 v3 v4 v5 v6 v7 v8 v9 v10 v11 v12 v13 v14 v15 => some (v1, v2, v3, v4, v5, v6, v7, v8, v9, v10, v11, v12, v13, v14, v15)) (by kernel_rfl) (fun _ => by kernel_rfl) fun Lp a => by kernel_rfl
theorem con (k : Nat) : Con Tryz.prog S (f k) := con_fn (nt := 36) (live := live) (Λ := tab k) tok (all_cons (ok_con (impl_IsGame.con k)) (all_cons (ok_con (impl_Game_copied.con k)) (all_cons (ok_con (impl_IsEnded.con k)) (all_cons (ok_con (impl_ChoiceOf.con k)) (all_cons (ok_con (impl_kindAt.con k)) (all_cons (ok_con (impl_ReplayMove.con k)) all_nil)))))) mixed Tryz.func20 (by kernel_rfl) (all_cons (fit3 k) all_nil) fun x => by kernel_rfl
end impl_RecordOut

namespace impl_Replayed
def S : Sp := ⟨21, ⟨[44, 32], [44, 3], [.bor, .bor], .own⟩, [.agg .lent kd44, .V], [.agg .own kd44, .O]⟩
def live : List (Nat × List Nat) := [(3, [1, 4, 6, 13, 14, 15]), (100003, [1, 4, 5, 6])]
def G {R : Type} (k : Nat) : Glob R := mkG tt [impl_Game_copied.S.ent (impl_Game_copied.f k), impl_ReplayMove.S.ent (impl_ReplayMove.f k)] 35
def h3 : Hd := ⟨[.V, .l (.ptr 0 0), .l (.ptr 1 0), .V, .I, .I], [.box [.I, .I, .bc false, .bc false, .nil, .nil, .I, .I, .nil, .nil, .nil, .I, .I, .I], .box [.I, .I, .b, .b, .own 2, .own 3, .I, .I, .own 4, .own 5, .own 6, .I, .I, .I], .V, .V, .W, .V, .V]⟩
def T3 {R : Type} (k : Nat) (K : X → St → Option R) : h3.Fn (Option R) := fun v0 v1 v2 v3 v4 v5 v8 v9 v10 v11 v12 v13 v14 v15 v16 v17 v18 v19 v20 v21 v22 v23 v24 v25 v26 => l3 k v1 v2 (fun p0 p1 p2 p3 p4 p5 p6 p7 p8 p9 p10 p11 p12 p13 p14 => K .ret (stOf [1, 4, 5, 6] [.one (.l (.val false (.ints .i64 v0))), .one (.l (.bptr 0 0)), .one (.l (.i .i64 p0)), .one (.l (.bptr 6 0))] [some (.box 0 [.i .i64 p1, .i .i64 p2, .b p3, .b p4, .own 1, .own 2, .i .i64 p5, .i .i64 p6, .own 3, .own 4, .own 5, .i .i64 p7, .i .i64 p8, .i .i64 p9]), some (.row 0 0 (.ints .i64 p10)), some (.row 0 0 (.ints .i64 p11)), some (.row 0 0 (.rows true p12)), some (.row 0 0 (.ints .i64 p13)), some (.row 0 0 (.ints .i64 p14)), some (.box 0 [.i .i64 p1, .i .i64 p2, .b p3, .b p4, .own 1, .own 2, .i .i64 p5, .i .i64 p6, .own 3, .own 4, .own 5, .i .i64 p7, .i .i64 p8, .i .i64 p9])])) (fun p0 p1 p2 p3 p4 p5 p6 p7 p8 p9 p10 p11 p12 p13 => K (.exit 0) (stOf [1, 4, 5, 6] [.one (.l (.val false (.ints .i64 v0))), .one (.l (.bptr 0 0)), .one (.l (.any)), .one (.l (.bptr 1 0))] [some (.box 0 [.i .i64 v4, .i .i64 v5, .b false, .b false, .nil, .nil, .i .i64 v8, .i .i64 v9, .nil, .nil, .nil, .i .i64 v10, .i .i64 v11, .i .i64 v12]), some (.box 0 [.i .i64 p0, .i .i64 p1, .b p2, .b p3, .own 2, .own 3, .i .i64 p4, .i .i64 p5, .own 4, .own 5, .own 6, .i .i64 p6, .i .i64 p7, .i .i64 p8]), some (.row 0 0 (.ints .i64 p9)), some (.row 0 0 (.ints .i64 p10)), some (.row 0 0 (.rows true p11)), some (.row 0 0 (.ints .i64 p12)), some (.row 0 0 (.ints .i64 p13))])) k v3 v13 v14 v15 v16 v17 v18 v19 v20 v21 v22 v23 v24 v25 v26
def tab {R : Type} (k : Nat) : LTab R := fun id K vs hs => bif id == 3 then h3.tell vs hs (T3 k K) else none
theorem fit3 {R : Type} (k : Nat) : Fit (R := R) (G k) live (tab k) (bl Tryz.f21 0) := h3.fit (key := 3) (by kernel_rfl) (T3 k) (fun _ _ _ => rfl) fun K r v0 v1 v2 v3 v4 v5 v8 v9 v10 v11 v12 v13 v14 v15 v16 v17 v18 v19 v20 v21 v22 v23 v24 v25 v26 h => fit_mk h (fun a => h3.mk' v0 v1 v2 a.1 v4 v5 v8 v9 v10 v11 v12 a.2.1 (t2 a).1 (t3 a).1 (t4 a).1 (t5 a).1 (t6 a).1 (t7 a).1 (t8 a).1 (t9 a).1 (t9 a.2).1 (t9 (t2 a)).1 (t9 (t3 a)).1 (t9 (t4 a)).1 (t9 (t5 a))) (fun _ _ _ v3 _ _ _ _ _ _ _ v13 v14 v15 v16 v17 v18 v19 v20 v21 v22 v23 v24 v25 v26 => some (v3, v13, v14, v15, v16, v17, v18, v19, v20, v21, v22, v23, v24, v25, v26)) (by kernel_rfl) (fun _ => by kernel_rfl) fun Lp a => by kernel_rfl
theorem con (k : Nat) : Con Tryz.prog S (f k) := con_fn (nt := 35) (live := live) (Λ := tab k) tok (all_cons (ok_con (impl_Game_copied.con k)) (all_cons (ok_con (impl_ReplayMove.con k)) all_nil)) mixed Tryz.func21 (by kernel_rfl) (all_cons (fit3 k) all_nil) fun x => by kernel_rfl
end impl_Replayed

namespace impl_EqualInts
def S : Sp := ⟨57, ⟨[32, 32], [4], [.bor, .bor], .own⟩, [.V, .V], [.B]⟩
def live : List (Nat × List Nat) := [(4, [0, 1, 12, 13]), (100004, [4])]
def G {R : Type} (k : Nat) : Glob R := mkG tt [] 26
def h4 : Hd := ⟨[.V, .V, .I, .I], []⟩
def T4 {R : Type} (k : Nat) (K : X → St → Option R) : h4.Fn (Option R) := fun v0 v1 v2 v3 => l4 k v0 v1 v2 (K .ret (stOf [4] [.one (.l (.b false))] [])) (K (.exit 0) (stOf [4] [.one (.l (.any))] [])) k v3
def tab {R : Type} (k : Nat) : LTab R := fun id K vs hs => bif id == 4 then h4.tell vs hs (T4 k K) else none
theorem fit4 {R : Type} (k : Nat) : Fit (R := R) (G k) live (tab k) (bl Tryz.f57 0) := h4.fit (key := 4) (by kernel_rfl) (T4 k) (fun _ _ _ => rfl) fun K r v0 v1 v2 v3 h => fit_mk h (fun a => h4.mk' v0 v1 v2 a) (fun _ _ _ v3 => some v3) (by kernel_rfl) (fun _ => by kernel_rfl) fun Lp a => by kernel_rfl
theorem con (k : Nat) : Con Tryz.prog S (f k) := con_fn (nt := 26) (live := live) (Λ := tab k) tok all_nil mixed Tryz.func57 (by kernel_rfl) (all_cons (fit4 k) all_nil) fun x => by kernel_rfl
end impl_EqualInts

namespace impl_EqualRules
def S : Sp := ⟨55, ⟨[38, 38], [4], [.bor, .bor], .own⟩, [.agg .lent kd38, .agg .lent kd38], [.B]⟩
theorem con (k : Nat) : Con Tryz.prog S (f k) := con_fn (nt := 59) (live := []) (Λ := noL) tok (all_cons (ok_con (impl_EqualInts.con k)) all_nil) mixed Tryz.func55 (by kernel_rfl) all_nil fun x => by kernel_rfl
end impl_EqualRules

namespace impl_sameRows
def S : Sp := ⟨56, ⟨[24, 24], [4], [.bor, .bor], .own⟩, [.l .lent .rows, .l .lent .rows], [.B]⟩
def live : List (Nat × List Nat) := [(4, [0, 1, 12, 13]), (100004, [4])]
def G {R : Type} (k : Nat) : Glob R := mkG tt [impl_EqualInts.S.ent (impl_EqualInts.f k)] 27
def h4 : Hd := ⟨[.W, .W, .I, .I], []⟩
def T4 {R : Type} (k : Nat) (K : X → St → Option R) : h4.Fn (Option R) := fun v0 v1 v2 v3 => l4 k v0 v1 v2 (K .ret (stOf [4] [.one (.l (.b false))] [])) (K (.exit 0) (stOf [4] [.one (.l (.any))] [])) k v3
def tab {R : Type} (k : Nat) : LTab R := fun id K vs hs => bif id == 4 then h4.tell vs hs (T4 k K) else none
theorem fit4 {R : Type} (k : Nat) : Fit (R := R) (G k) live (tab k) (bl Tryz.f56 0) := h4.fit (key := 4) (by kernel_rfl) (T4 k) (fun _ _ _ => rfl) fun K r v0 v1 v2 v3 h => fit_mk h (fun a => h4.mk' v0 v1 v2 a) (fun _ _ _ v3 => some v3) (by kernel_rfl) (fun _ => by kernel_rfl) fun Lp a => by kernel_rfl
theorem con (k : Nat) : Con Tryz.prog S (f k) := con_fn (nt := 27) (live := live) (Λ := tab k) tok (all_cons (ok_con (impl_EqualInts.con k)) all_nil) mixed Tryz.func56 (by kernel_rfl) (all_cons (fit4 k) all_nil) fun x => by kernel_rfl
end impl_sameRows

namespace impl_EqualGames
def S : Sp := ⟨22, ⟨[44, 44], [4], [.bor, .bor], .own⟩, [.agg .lent kd44, .agg .lent kd44], [.B]⟩
theorem con (k : Nat) : Con Tryz.prog S (f k) := con_fn (nt := 52) (live := []) (Λ := noL) tok (all_cons (ok_con (impl_EqualRules.con k)) (all_cons (ok_con (impl_sameRows.con k)) (all_cons (ok_con (impl_EqualInts.con k)) all_nil))) mixed Tryz.func22 (by kernel_rfl) all_nil fun x => by kernel_rfl
end impl_EqualGames

namespace impl_AutoMove
def S : Sp := ⟨58, ⟨[44, 3], [44, 4], [.bor, .bor], .own⟩, [.agg .lent kd44, .I], [.agg .own kd44, .B]⟩
theorem con (k : Nat) : Con Tryz.prog S (f k) := con_fn (nt := 13) (live := []) (Λ := noL) tok (all_cons (ok_con (impl_ChoiceOf.con k)) (all_cons (ok_con (impl_ReplayMove.con k)) all_nil)) mixed Tryz.func58 (by kernel_rfl) all_nil fun x => by kernel_rfl
end impl_AutoMove

namespace impl_PlayOut
def S : Sp := ⟨23, ⟨[44, 32], [44], [.bor, .bor], .own⟩, [.agg .lent kd44, .V], [.agg .own kd44]⟩
def live : List (Nat × List Nat) := [(2, [1, 4, 5]), (100002, [4, 5])]
def G {R : Type} (k : Nat) : Glob R := mkG tt [impl_IsGame.S.ent (impl_IsGame.f k), impl_Game_copied.S.ent (impl_Game_copied.f k), impl_IsEnded.S.ent (impl_IsEnded.f k), impl_kindAt.S.ent (impl_kindAt.f k), impl_AutoMove.S.ent (impl_AutoMove.f k)] 25
def h2 : Hd := ⟨[.V, .l (.ptr 0 0), .l (.ptr 1 0)], [.box [.I, .I, .bc false, .bc false, .nil, .nil, .I, .I, .nil, .nil, .nil, .I, .I, .I], .box [.I, .I, .b, .b, .own 2, .own 3, .I, .I, .own 4, .own 5, .own 6, .I, .I, .I], .V, .V, .W, .V, .V]⟩
def T2 {R : Type} (k : Nat) (K : X → St → Option R) : h2.Fn (Option R) := fun v0 v1 v2 v5 v6 v7 v8 v9 v10 v11 v12 v13 v14 v15 v16 v17 v18 v19 v20 v21 v22 v23 => l2 k v0 (fun p0 p1 p2 p3 p4 p5 p6 p7 p8 p9 p10 p11 p12 p13 => K (.exit 0) (stOf [4, 5] [.one (.l (.bptr 0 0)), .one (.l (.bptr 1 0))] [some (.box 0 [.i .i64 v1, .i .i64 v2, .b false, .b false, .nil, .nil, .i .i64 v5, .i .i64 v6, .nil, .nil, .nil, .i .i64 v7, .i .i64 v8, .i .i64 v9]), some (.box 0 [.i .i64 p0, .i .i64 p1, .b p2, .b p3, .own 2, .own 3, .i .i64 p4, .i .i64 p5, .own 4, .own 5, .own 6, .i .i64 p6, .i .i64 p7, .i .i64 p8]), some (.row 0 0 (.ints .i64 p9)), some (.row 0 0 (.ints .i64 p10)), some (.row 0 0 (.rows true p11)), some (.row 0 0 (.ints .i64 p12)), some (.row 0 0 (.ints .i64 p13))])) k v10 v11 v12 v13 v14 v15 v16 v17 v18 v19 v20 v21 v22 v23
def tab {R : Type} (k : Nat) : LTab R := fun id K vs hs => bif id == 2 then h2.tell vs hs (T2 k K) else none
theorem fit2 {R : Type} (k : Nat) : Fit (R := R) (G k) live (tab k) (bl Tryz.f23 0) := h2.fit (key := 2) (by kernel_rfl) (T2 k) (fun _ _ _ => rfl) fun K r v0 v1 v2 v5 v6 v7 v8 v9 v10 v11 v12 v13 v14 v15 v16 v17 v18 v19 v20 v21 v22 v23 h => fit_mk h (fun a => h2.mk' v0 v1 v2 v5 v6 v7 v8 v9 a.1 a.2.1 (t2 a).1 (t3 a).1 (t4 a).1 (t5 a).1 (t6 a).1 (t7 a).1 (t8 a).1 (t9 a).1 (t9 a.2).1 (t9 (t2 a)).1 (t9 (t3 a)).1 (t9 (t4 a))) (fun _ _ _ _ _ _ _ _ v10 v11 v12 v13 v14 v15 v16 v17 v18 v19 v20 v21 v22 v23 => some (v10, v11, v12, v13, v14, v15, v16, v17, v18, v19, v20, v21, v22, v23)) (by kernel_rfl) (fun _ => by kernel_rfl) fun Lp a => by kernel_rfl
theorem con (k : Nat) : Con Tryz.prog S (f k) := con_fn (nt := 25) (live := live) (Λ := tab k) tok (all_cons (ok_con (impl_IsGame.con k)) (all_cons (ok_con (impl_Game_copied.con k)) (all_cons (ok_con (impl_IsEnded.con k)) (all_cons (ok_con (impl_kindAt.con k)) (all_cons (ok_con (impl_AutoMove.con k)) all_nil))))) mixed Tryz.func23 (by kernel_rfl) (all_cons (fit2 k) all_nil) fun x => by kernel_rfl
end impl_PlayOut

namespace strings_IndexByte
def S : Sp := ⟨100, ⟨[9, 5], [3], [.bor, .bor], .own⟩, [.l .lent .str, .l .lent (.int .u8)], [.O]⟩
theorem con (k : Nat) : Con Tryz.prog S (f k) := ⟨⟨Tryz.f100, Tryz.func100, by kernel_rfl, by kernel_rfl⟩, fun ⟨a, g, _⟩ r h => by
 have h : some _ = some r := h
 cases h
 exact indexByte_contract (g := indexB) (fun s c w => Tryz.strings_IndexByte s c w) a g⟩
end strings_IndexByte

namespace impl_ParseCard
def S : Sp := ⟨59, ⟨[9], [3], [.bor], .own⟩, [.l .lent .str], [.O]⟩
theorem con (k : Nat) : Con Tryz.prog S (f k) := con_fn (nt := 24) (live := []) (Λ := noL) tok (all_cons (ok_con (strings_IndexByte.con k)) all_nil) mixed Tryz.func59 (by kernel_rfl) all_nil fun x => by kernel_rfl
end impl_ParseCard

namespace impl_ParseRecord
def S : Sp := ⟨24, ⟨[9], [32, 4], [.bor], .own⟩, [.l .lent .str], [.l .own (.ints .i64), .B]⟩
def live : List (Nat × List Nat) := [(5, [0, 4, 5]), (100005, [2, 3, 4])]
def G {R : Type} (k : Nat) : Glob R := mkG tt [impl_ParseCard.S.ent (impl_ParseCard.f k)] 49
def h5 : Hd := ⟨[.l (.s), .l (.own 0), .I], [.V]⟩
def T5 {R : Type} (k : Nat) (K : X → St → Option R) : h5.Fn (Option R) := fun v0 v1 v2 => l5 k v0 (fun p0 p1 => K .ret (stOf [2, 3, 4] [.one (.l (.own 0)), .one (.l (.b false)), .one (.l (.own 1))] [some (.row 0 0 (.ints .i64 p0)), some (.row 0 0 (.ints .i64 p1))])) (fun p0 => K (.exit 0) (stOf [2, 3, 4] [.one (.l (.any)), .one (.l (.any)), .one (.l (.own 0))] [some (.row 0 0 (.ints .i64 p0))])) k v1 v2
def tab {R : Type} (k : Nat) : LTab R := fun id K vs hs => bif id == 5 then h5.tell vs hs (T5 k K) else none
theorem fit5 {R : Type} (k : Nat) : Fit (R := R) (G k) live (tab k) (bl Tryz.f24 0) := h5.fit (key := 5) (by kernel_rfl) (T5 k) (fun _ _ _ => rfl) fun K r v0 v1 v2 h => fit_mk h (fun a => h5.mk' v0 a.1 a.2) (fun _ v1 v2 => some (v1, v2)) (by kernel_rfl) (fun _ => by kernel_rfl) fun Lp a => by kernel_rfl
theorem con (k : Nat) : Con Tryz.prog S (f k) := con_fn (nt := 49) (live := live) (Λ := tab k) tok (all_cons (ok_con (impl_ParseCard.con k)) all_nil) mixed Tryz.func24 (by kernel_rfl) (all_cons (fit5 k) all_nil) fun x => by kernel_rfl
end impl_ParseRecord

namespace impl_CardText
def S : Sp := ⟨101, ⟨[3], [9], [.bor], .own⟩, [.I], [.l .own .str]⟩
theorem con (k : Nat) : Con Tryz.prog S (f k) := con_fn (nt := 19) (live := []) (Λ := noL) tok (all_cons (ok_con (impl_IsCard.con k)) all_nil) mixed Tryz.func101 (by kernel_rfl) all_nil fun x => by kernel_rfl
end impl_CardText

namespace impl_listText
def S : Sp := ⟨60, ⟨[32, 3, 9], [9], [.bor, .bor, .bor], .own⟩, [.V, .I, .l .lent .str], [.l .own .str]⟩
def live : List (Nat × List Nat) := [(5, [1, 2, 7, 13, 14, 15]), (100005, [6, 7])]
def G {R : Type} (k : Nat) : Glob R := mkG tt [impl_IsCard.S.ent (impl_IsCard.f k), impl_CardText.S.ent (impl_CardText.f k)] 37
def h5 : Hd := ⟨[.I, .l (.s), .l (.s), .V, .I, .I], []⟩
def T5 {R : Type} (k : Nat) (K : X → St → Option R) : h5.Fn (Option R) := fun v0 v1 v2 v3 v4 v5 => l5 k v0 v1 v3 v4 (fun p0 => K (.exit 0) (stOf [6, 7] [.one (.l (.any)), .one (.l (.s p0))] [])) k v2 v5
def tab {R : Type} (k : Nat) : LTab R := fun id K vs hs => bif id == 5 then h5.tell vs hs (T5 k K) else none
theorem fit5 {R : Type} (k : Nat) : Fit (R := R) (G k) live (tab k) (bl Tryz.f60 0) := h5.fit (key := 5) (by kernel_rfl) (T5 k) (fun _ _ _ => rfl) fun K r v0 v1 v2 v3 v4 v5 h => fit_mk h (fun a => h5.mk' v0 v1 a.1 v3 v4 a.2) (fun _ _ v2 _ _ v5 => some (v2, v5)) (by kernel_rfl) (fun _ => by kernel_rfl) fun Lp a => by kernel_rfl
theorem con (k : Nat) : Con Tryz.prog S (f k) := con_fn (nt := 37) (live := live) (Λ := tab k) tok (all_cons (ok_con (impl_IsCard.con k)) (all_cons (ok_con (impl_CardText.con k)) all_nil)) mixed Tryz.func60 (by kernel_rfl) (all_cons (fit5 k) all_nil) fun x => by kernel_rfl
end impl_listText

namespace impl_RecordText
def S : Sp := ⟨25, ⟨[32], [9], [.bor], .own⟩, [.V], [.l .own .str]⟩
theorem con (k : Nat) : Con Tryz.prog S (f k) := con_fn (nt := 5) (live := []) (Λ := noL) tok (all_cons (ok_con (impl_listText.con k)) all_nil) mixed Tryz.func25 (by kernel_rfl) all_nil fun x => by kernel_rfl
end impl_RecordText

namespace laws_sameInts
def S : Sp := ⟨26, ⟨[32, 32], [4], [.bor, .bor], .own⟩, [.V, .V], [.B]⟩
def live : List (Nat × List Nat) := [(4, [0, 1, 5]), (100004, [4])]
def G {R : Type} (k : Nat) : Glob R := mkG tt [] 26
def h4 : Hd := ⟨[.V, .V, .I], []⟩
def T4 {R : Type} (k : Nat) (K : X → St → Option R) : h4.Fn (Option R) := fun v0 v1 v2 => l4 k v0 v1 (K .ret (stOf [4] [.one (.l (.b false))] [])) (K (.exit 0) (stOf [4] [.one (.l (.any))] [])) k v2
def tab {R : Type} (k : Nat) : LTab R := fun id K vs hs => bif id == 4 then h4.tell vs hs (T4 k K) else none
theorem fit4 {R : Type} (k : Nat) : Fit (R := R) (G k) live (tab k) (bl Tryz.f26 0) := h4.fit (key := 4) (by kernel_rfl) (T4 k) (fun _ _ _ => rfl) fun K r v0 v1 v2 h => fit_mk h (fun a => h4.mk' v0 v1 a) (fun _ _ v2 => some v2) (by kernel_rfl) (fun _ => by kernel_rfl) fun Lp a => by kernel_rfl
theorem con (k : Nat) : Con Tryz.prog S (f k) := con_fn (nt := 26) (live := live) (Λ := tab k) tok all_nil mixed Tryz.func26 (by kernel_rfl) (all_cons (fit4 k) all_nil) fun x => by kernel_rfl
end laws_sameInts

namespace spec_SuitCounts
def S : Sp := ⟨145, ⟨[32], [32], [.bor], .own⟩, [.V], [.l .own (.ints .i64)]⟩
def live : List (Nat × List Nat) := [(3, [0, 3, 4]), (100003, [2, 3])]
def G {R : Type} (k : Nat) : Glob R := mkG tt [spec_SuitOf.S.ent (spec_SuitOf.f k)] 29
def h3 : Hd := ⟨[.V, .l (.own 0), .I], [.V]⟩
def T3 {R : Type} (k : Nat) (K : X → St → Option R) : h3.Fn (Option R) := fun v0 v1 v2 => l3 k v0 (fun p0 => K (.exit 0) (stOf [2, 3] [.one (.l (.any)), .one (.l (.own 0))] [some (.row 0 0 (.ints .i64 p0))])) k v1 v2
def tab {R : Type} (k : Nat) : LTab R := fun id K vs hs => bif id == 3 then h3.tell vs hs (T3 k K) else none
theorem fit3 {R : Type} (k : Nat) : Fit (R := R) (G k) live (tab k) (bl Tryz.f145 0) := h3.fit (key := 3) (by kernel_rfl) (T3 k) (fun _ _ _ => rfl) fun K r v0 v1 v2 h => fit_mk h (fun a => h3.mk' v0 a.1 a.2) (fun _ v1 v2 => some (v1, v2)) (by kernel_rfl) (fun _ => by kernel_rfl) fun Lp a => by kernel_rfl
theorem con (k : Nat) : Con Tryz.prog S (f k) := con_fn (nt := 29) (live := live) (Λ := tab k) tok (all_cons (ok_con (spec_SuitOf.con k)) all_nil) mixed Tryz.func145 (by kernel_rfl) (all_cons (fit3 k) all_nil) fun x => by kernel_rfl
end spec_SuitCounts

namespace spec_MostOf
def S : Sp := ⟨146, ⟨[32], [3], [.bor], .own⟩, [.V], [.O]⟩
def live : List (Nat × List Nat) := [(3, [0, 3, 4]), (100003, [2, 3])]
def G {R : Type} (k : Nat) : Glob R := mkG tt [] 26
def h3 : Hd := ⟨[.V, .I, .I], []⟩
def T3 {R : Type} (k : Nat) (K : X → St → Option R) : h3.Fn (Option R) := fun v0 v1 v2 => l3 k v0 (fun p0 => K (.exit 0) (stOf [2, 3] [.one (.l (.any)), .one (.l (.i .i64 p0))] [])) k v1 v2
def tab {R : Type} (k : Nat) : LTab R := fun id K vs hs => bif id == 3 then h3.tell vs hs (T3 k K) else none
theorem fit3 {R : Type} (k : Nat) : Fit (R := R) (G k) live (tab k) (bl Tryz.f146 0) := h3.fit (key := 3) (by kernel_rfl) (T3 k) (fun _ _ _ => rfl) fun K r v0 v1 v2 h => fit_mk h (fun a => h3.mk' v0 a.1 a.2) (fun _ v1 v2 => some (v1, v2)) (by kernel_rfl) (fun _ => by kernel_rfl) fun Lp a => by kernel_rfl
theorem con (k : Nat) : Con Tryz.prog S (f k) := con_fn (nt := 26) (live := live) (Λ := tab k) tok all_nil mixed Tryz.func146 (by kernel_rfl) (all_cons (fit3 k) all_nil) fun x => by kernel_rfl
end spec_MostOf

namespace spec_ChoiceOf
def S : Sp := ⟨109, ⟨[44, 3], [3], [.bor, .bor], .own⟩, [.agg .lent kd44, .I], [.O]⟩
def live : List (Nat × List Nat) := [(13, [5, 6, 7, 8]), (100013, [4, 5, 7])]
def G {R : Type} (k : Nat) : Glob R := mkG tt [spec_SuitOf.S.ent (spec_SuitOf.f k), spec_Playable.S.ent (spec_Playable.f k), spec_SuitCounts.S.ent (spec_SuitCounts.f k), spec_MostOf.S.ent (spec_MostOf.f k)] 60
def h13 : Hd := ⟨[.l (.own 0), .l (.own 1), .l (.own 2), .I], [.V, .V, .V]⟩
def T13 {R : Type} (k : Nat) (K : X → St → Option R) : h13.Fn (Option R) := fun v0 v1 v2 v3 => l13 k v1 v2 (fun p0 => K (.exit 1) (stOf [4, 5, 7] [.one (.l (.any)), .one (.l (.own 0)), .one (.l (.own 1))] [some (.row 0 0 (.ints .i64 v1)), some (.row 0 0 (.ints .i64 p0))])) k v0 v3
def tab {R : Type} (k : Nat) : LTab R := fun id K vs hs => bif id == 13 then h13.tell vs hs (T13 k K) else none
theorem fit13 {R : Type} (k : Nat) : Fit (R := R) (G k) live (tab k) (bl Tryz.f109 0) := h13.fit (key := 13) (by kernel_rfl) (T13 k) (fun _ _ _ => rfl) fun K r v0 v1 v2 v3 h => fit_mk h (fun a => h13.mk' a.1 v1 v2 a.2) (fun v0 _ _ v3 => some (v0, v3)) (by kernel_rfl) (fun _ => by kernel_rfl) fun Lp a => by kernel_rfl
theorem con (k : Nat) : Con Tryz.prog S (f k) := con_fn (nt := 60) (live := live) (Λ := tab k) tok (all_cons (ok_con (spec_SuitOf.con k)) (all_cons (ok_con (spec_Playable.con k)) (all_cons (ok_con (spec_SuitCounts.con k)) (all_cons (ok_con (spec_MostOf.con k)) all_nil)))) mixed Tryz.func109 (by kernel_rfl) (all_cons (fit13 k) all_nil) fun x => by kernel_rfl
end spec_ChoiceOf

namespace spec_AutoMove
def S : Sp := ⟨110, ⟨[44, 3], [44, 4], [.bor, .bor], .own⟩, [.agg .lent kd44, .I], [.agg .own kd44, .B]⟩
theorem con (k : Nat) : Con Tryz.prog S (f k) := con_fn (nt := 21) (live := []) (Λ := noL) tok (all_cons (ok_con (spec_ChoiceOf.con k)) (all_cons (ok_con (spec_PlayOn.con k)) (all_cons (ok_con (spec_TakeCards.con k)) all_nil))) mixed Tryz.func110 (by kernel_rfl) all_nil fun x => by kernel_rfl
end spec_AutoMove

namespace spec_RecordOut
def S : Sp := ⟨63, ⟨[44, 32], [32], [.bor, .bor], .own⟩, [.agg .lent kd44, .V], [.l .own (.ints .i64)]⟩
def live : List (Nat × List Nat) := [(2, [1, 2, 5]), (100002, [4, 5]), (200002, [2])]
def G {R : Type} (k : Nat) : Glob R := mkG tt [spec_IsGame.S.ent (spec_IsGame.f k), spec_l24Over.S.ent (spec_l24Over.f k), spec_ChoiceOf.S.ent (spec_ChoiceOf.f k), spec_AutoMove.S.ent (spec_AutoMove.f k)] 41
def h2 : Hd := ⟨[.V, .l (.ptr 0 0), .l (.own 1)], [.box [.I, .I, .b, .b, .V, .V, .I, .I, .W, .V, .V, .I, .I, .I], .V]⟩
def T2 {R : Type} (k : Nat) (K : X → St → Option R) : h2.Fn (Option R) := fun v0 v1 v2 v3 v4 v5 v6 v7 v8 v9 v10 v11 v12 v13 v14 v15 => l2 k v0 (fun p0 => K (.exit 0) (stOf [4, 5] [.one (.l (.any)), .one (.l (.own 0))] [some (.row 0 0 (.ints .i64 p0))])) k v1 v2 v3 v4 v5 v6 v7 v8 v9 v10 v11 v12 v13 v14 v15
def tab {R : Type} (k : Nat) : LTab R := fun id K vs hs => bif id == 2 then h2.tell vs hs (T2 k K) else none
theorem fit2 {R : Type} (k : Nat) : Fit (R := R) (G k) live (tab k) (bl Tryz.f63 0) := h2.fit (key := 2) (by kernel_rfl) (T2 k) (fun _ _ _ => rfl) fun K r v0 v1 v2 v3 v4 v5 v6 v7 v8 v9 v10 v11 v12 v13 v14 v15 h => fit_mk h (fun a => h2.mk' v0 a.1 a.2.1 (t2 a).1 (t3 a).1 (t4 a).1 (t5 a).1 (t6 a).1 (t7 a).1 (t8 a).1 (t9 a).1 (t9 a.2).1 (t9 (t2 a)).1 (t9 (t3 a)).1 (t9 (t4 a)).1 (t9 (t5 a))) (fun _ v1 v2 v3 v4 v5 v6 v7 v8 v9 v10 v11 v12 v13 v14 v15 => some (v1, v2, v3, v4, v5, v6, v7, v8, v9, v10, v11, v12, v13, v14, v15)) (by kernel_rfl) (fun _ => by kernel_rfl) fun Lp a => by kernel_rfl
theorem con (k : Nat) : Con Tryz.prog S (f k) := con_fn (nt := 41) (live := live) (Λ := tab k) tok (all_cons (ok_con (spec_IsGame.con k)) (all_cons (ok_con (spec_l24Over.con k)) (all_cons (ok_con (spec_ChoiceOf.con k)) (all_cons (ok_con (spec_AutoMove.con k)) all_nil)))) mixed Tryz.func63 (by kernel_rfl) (all_cons (fit2 k) all_nil) fun x => by kernel_rfl
end spec_RecordOut

namespace spec_DrawReplayed
def S : Sp := ⟨27, ⟨[22], [44, 32], [.frz], .own⟩, [.l .frz (.ints .u8)], [.agg .own kd44, .l .own (.ints .i64)]⟩
theorem con (k : Nat) : Con Tryz.prog S (f k) := con_fn (nt := 32) (live := []) (Λ := noL) tok (all_cons (ok_con (spec_l1New.con k)) (all_cons (ok_con (spec_l24Start.con k)) (all_cons (ok_con (spec_RecordOut.con k)) (all_cons (ok_con (spec_l26Kinds.con k)) (all_cons (ok_con (spec_l1Once.con k)) (all_cons (ok_con (spec_l4Card.con k)) (all_cons (ok_con (spec_l1Below.con k)) all_nil))))))) mixed Tryz.func27 (by kernel_rfl) all_nil fun x => by kernel_rfl
end spec_DrawReplayed

namespace spec_CardText
def S : Sp := ⟨113, ⟨[3], [9], [.bor], .own⟩, [.I], [.l .own .str]⟩
theorem con (k : Nat) : Con Tryz.prog S (f k) := con_fn (nt := 21) (live := []) (Λ := noL) tok (all_cons (ok_con (spec_SuitOf.con k)) (all_cons (ok_con (spec_IsCard.con k)) (all_cons (ok_con (spec_RankOf.con k)) all_nil))) mixed Tryz.func113 (by kernel_rfl) all_nil fun x => by kernel_rfl
end spec_CardText

namespace spec_RecordText
def S : Sp := ⟨69, ⟨[32], [9], [.bor], .own⟩, [.V], [.l .own .str]⟩
def live : List (Nat × List Nat) := [(3, [0, 3, 4]), (100003, [0, 2, 3])]
def G {R : Type} (k : Nat) : Glob R := mkG tt [spec_IsCard.S.ent (spec_IsCard.f k), spec_CardText.S.ent (spec_CardText.f k)] 38
def h3 : Hd := ⟨[.V, .l (.s), .I], []⟩
def T3 {R : Type} (k : Nat) (K : X → St → Option R) : h3.Fn (Option R) := fun v0 v1 v2 => l3 k v0 (fun p0 => K (.exit 0) (stOf [0, 2, 3] [.one (.l (.val false (.ints .i64 v0))), .one (.l (.any)), .one (.l (.s p0))] [])) k v1 v2
def tab {R : Type} (k : Nat) : LTab R := fun id K vs hs => bif id == 3 then h3.tell vs hs (T3 k K) else none
theorem fit3 {R : Type} (k : Nat) : Fit (R := R) (G k) live (tab k) (bl Tryz.f69 0) := h3.fit (key := 3) (by kernel_rfl) (T3 k) (fun _ _ _ => rfl) fun K r v0 v1 v2 h => fit_mk h (fun a => h3.mk' v0 a.1 a.2) (fun _ v1 v2 => some (v1, v2)) (by kernel_rfl) (fun _ => by kernel_rfl) fun Lp a => by kernel_rfl
theorem con (k : Nat) : Con Tryz.prog S (f k) := con_fn (nt := 38) (live := live) (Λ := tab k) tok (all_cons (ok_con (spec_IsCard.con k)) (all_cons (ok_con (spec_CardText.con k)) all_nil)) mixed Tryz.func69 (by kernel_rfl) (all_cons (fit3 k) all_nil) fun x => by kernel_rfl
end spec_RecordText

namespace spec_l1Str
def S : Sp := ⟨70, ⟨[78, 87], [9], [.io, .bor], .own⟩, [.ptr kd108, .l .lent .strs], [.l .own .str, .ptr kd108]⟩
theorem con (k : Nat) : Con Tryz.prog S (f k) := con_fn (nt := 12) (live := []) (Λ := noL) tok (all_cons (ok_con (spec_l1Below.con k)) all_nil) mixed Tryz.func70 (by kernel_rfl) all_nil fun x => by kernel_rfl
end spec_l1Str

namespace spec_DrawParseRecord
def S : Sp := ⟨28, ⟨[22], [9], [.frz], .own⟩, [.l .frz (.ints .u8)], [.l .own .str]⟩
def live : List (Nat × List Nat) := [(4, [3, 4, 5]), (100004, [2, 3, 4])]
def G {R : Type} (k : Nat) : Glob R := mkG tt [spec_l1New.S.ent (spec_l1New.f k), spec_l1Below.S.ent (spec_l1Below.f k), spec_l1Int.S.ent (spec_l1Int.f k), spec_RecordText.S.ent (spec_RecordText.f k), spec_l1Str.S.ent (spec_l1Str.f k)] 34
def h4 : Hd := ⟨[.l (.ptr 0 0), .l (.own 1), .I], [.box [.val true false (.ints .u8), .I, .I], .V]⟩
def T4 {R : Type} (k : Nat) (K : X → St → Option R) : h4.Fn (Option R) := fun v0 v1 v2 v3 v4 => l4 k (fun p0 p1 p2 p3 => K (.exit 0) (stOf [2, 3, 4] [.one (.l (.any)), .one (.l (.bptr 0 0)), .one (.l (.own 1))] [some (.box 0 [.val true (.ints .u8 p0), .i .i64 p1, .i .i64 p2]), some (.row 0 0 (.ints .i64 p3))])) k v0 v1 v2 v3 v4
def tab {R : Type} (k : Nat) : LTab R := fun id K vs hs => bif id == 4 then h4.tell vs hs (T4 k K) else none
theorem fit4 {R : Type} (k : Nat) : Fit (R := R) (G k) live (tab k) (bl Tryz.f28 0) := h4.fit (key := 4) (by kernel_rfl) (T4 k) (fun _ _ _ => rfl) fun K r v0 v1 v2 v3 v4 h => fit_mk h (fun a => h4.mk' a.1 a.2.1 (t2 a).1 (t3 a).1 (t4 a)) (fun v0 v1 v2 v3 v4 => some (v0, v1, v2, v3, v4)) (by kernel_rfl) (fun _ => by kernel_rfl) fun Lp a => by kernel_rfl
theorem con (k : Nat) : Con Tryz.prog S (f k) := con_fn (nt := 34) (live := live) (Λ := tab k) tok (all_cons (ok_con (spec_l1New.con k)) (all_cons (ok_con (spec_l1Below.con k)) (all_cons (ok_con (spec_l1Int.con k)) (all_cons (ok_con (spec_RecordText.con k)) (all_cons (ok_con (spec_l1Str.con k)) all_nil))))) mixed Tryz.func28 (by kernel_rfl) (all_cons (fit4 k) all_nil) fun x => by kernel_rfl
end spec_DrawParseRecord

namespace laws_FnRecords
def S : Sp := ⟨4, ⟨[22], [4], [.frz], .own⟩, [.l .frz (.ints .u8)], [.B]⟩
theorem con (k : Nat) : Con Tryz.prog S (f k) := con_fn (nt := 113) (live := []) (Λ := noL) tok (all_cons (ok_con (laws_big.con k)) (all_cons (ok_con (spec_DrawRecordOut.con k)) (all_cons (ok_con (impl_RecordOut.con k)) (all_cons (ok_con (impl_Replayed.con k)) (all_cons (ok_con (impl_EqualGames.con k)) (all_cons (ok_con (impl_PlayOut.con k)) (all_cons (ok_con (impl_ParseRecord.con k)) (all_cons (ok_con (impl_RecordText.con k)) (all_cons (ok_con (laws_sameInts.con k)) (all_cons (ok_con (spec_DrawReplayed.con k)) (all_cons (ok_con (spec_DrawParseRecord.con k)) (all_cons (ok_con (impl_IsGame.con k)) all_nil)))))))))))) mixed Tryz.func4 (by kernel_rfl) all_nil fun x => by kernel_rfl
end laws_FnRecords
end Go.Proofs.YtfbafmeeejmgoaaGreat
