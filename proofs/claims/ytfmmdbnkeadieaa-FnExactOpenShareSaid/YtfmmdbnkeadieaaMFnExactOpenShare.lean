/- That the Go functions come to the answers of the plain ones. Printed by a program. -/
import Derived.Test.YtfmmdbnkeadieaaT
import Derived.Test.YtfmmdbnkeadieaaMFnExactRecordOut
import Derived.Test.YtfmmdbnkeadieaaFFnExactOpenShare
set_option linter.unusedVariables false
set_option maxRecDepth 100000
set_option maxHeartbeats 20000000
namespace Go.Proofs.Ytfmmdbnkeadieaa
open Go Go.Proofs.Ytfmmdbnkeadieaa.V Go.Proofs.Ytfmmdbnkeadieaa.M

namespace laws_szPile
def S : Sp := ⟨126, ⟨[117, 3], [3], [.bor, .bor], .own⟩, [.agg .lent kd95, .I], [.O]⟩
theorem con (k : Nat) : Con Try.prog S (f k) := con_fn (nt := 12) (live := []) (Λ := noL) tok (all_cons (ok_con (laws_szIntS.con k)) all_nil) mixed Try.func126 (by kernel_rfl) all_nil fun x => by kernel_rfl
end laws_szPile

namespace laws_szPileS
def S : Sp := ⟨74, ⟨[44, 3], [3], [.bor, .bor], .own⟩, [.l .lent (.recs [true, false]), .I], [.O]⟩
def live : List (Nat × List Nat) := [(5, [0, 1, 5]), (100005, [1, 4])]
def G {R : Type} (k : Nat) : Glob R := mkG tt [laws_szPile.S.ent (laws_szPile.f k)] 27
def h5 : Hd := ⟨[.l (.val false false (.recs [true, false])), .I, .I], []⟩
def T5 {R : Type} (k : Nat) (K : X → St → Option R) : h5.Fn (Option R) := fun v0 v1 v2 => l5 k v0 (fun p0 => K .ret (stOf [1, 4] [.one (.l (.i .i64 p0)), .one (.l (.i .i64 (-1)))] [])) (fun p0 => K (.exit 0) (stOf [1, 4] [.one (.l (.i .i64 p0)), .one (.l (.any))] [])) k v1 v2
def tab {R : Type} (k : Nat) : LTab R := fun id K vs hs => bif id == 5 then h5.tell vs hs (T5 k K) else none
theorem fit5 {R : Type} (k : Nat) : Fit (R := R) (G k) live (tab k) (bl Try.f74 0) := h5.fit (key := 5) (by kernel_rfl) (T5 k) (fun _ _ _ => rfl) fun K r v0 v1 v2 h => fit_mk h (fun a => h5.mk' v0 a.1 a.2) (fun _ v1 v2 => some (v1, v2)) (by kernel_rfl) (fun _ => by kernel_rfl) fun Lp a => by kernel_rfl
theorem con (k : Nat) : Con Try.prog S (f k) := con_fn (nt := 27) (live := live) (Λ := tab k) tok (all_cons (ok_con (laws_szPile.con k)) all_nil) mixed Try.func74 (by kernel_rfl) (all_cons (fit5 k) all_nil) fun x => by kernel_rfl
end laws_szPileS

namespace laws_szPatience
def S : Sp := ⟨20, ⟨[46, 3], [3], [.bor, .bor], .own⟩, [.agg .lent kd46, .I], [.O]⟩
theorem con (k : Nat) : Con Try.prog S (f k) := con_fn (nt := 30) (live := []) (Λ := noL) tok (all_cons (ok_con (laws_szIntS.con k)) (all_cons (ok_con (laws_szPileS.con k)) all_nil)) mixed Try.func20 (by kernel_rfl) all_nil fun x => by kernel_rfl
end laws_szPatience

namespace spec_IsBase
def S : Sp := ⟨128, ⟨[22], [4], [.bor], .own⟩, [.V], [.B]⟩
def live : List (Nat × List Nat) := [(2, [0, 3]), (100002, [0, 2])]
def G {R : Type} (k : Nat) : Glob R := mkG tt [spec_l1In.S.ent (spec_l1In.f k)] 19
def h2 : Hd := ⟨[.V, .I], []⟩
def T2 {R : Type} (k : Nat) (K : X → St → Option R) : h2.Fn (Option R) := fun v0 v1 => l2 k v0 (K .ret (stOf [0, 2] [.one (.l (.val false (.ints .i64 v0))), .one (.l (.b false))] [])) (K (.exit 0) (stOf [0, 2] [.one (.l (.val false (.ints .i64 v0))), .one (.l (.any))] [])) k v1
def tab {R : Type} (k : Nat) : LTab R := fun id K vs hs => bif id == 2 then h2.tell vs hs (T2 k K) else none
theorem fit2 {R : Type} (k : Nat) : Fit (R := R) (G k) live (tab k) (bl Try.f128 0) := h2.fit (key := 2) (by kernel_rfl) (T2 k) (fun _ _ _ => rfl) fun K r v0 v1 h => fit_mk h (fun a => h2.mk' v0 a) (fun _ v1 => some v1) (by kernel_rfl) (fun _ => by kernel_rfl) fun Lp a => by kernel_rfl
theorem con (k : Nat) : Con Try.prog S (f k) := con_fn (nt := 19) (live := live) (Λ := tab k) tok (all_cons (ok_con (spec_l1In.con k)) all_nil) mixed Try.func128 (by kernel_rfl) (all_cons (fit2 k) all_nil) fun x => by kernel_rfl
end spec_IsBase

namespace spec_StepOf
def S : Sp := ⟨130, ⟨[3], [3], [.bor], .own⟩, [.I], [.O]⟩
theorem con (k : Nat) : Con Try.prog S (f k) := con_fn (nt := 11) (live := []) (Λ := noL) tok (all_cons (ok_con (spec_IsCard.con k)) (all_cons (ok_con (spec_RankOf.con k)) all_nil)) mixed Try.func130 (by kernel_rfl) all_nil fun x => by kernel_rfl
end spec_StepOf

namespace spec_BaseCards
def S : Sp := ⟨76, ⟨[22], [22], [.bor], .own⟩, [.V], [.l .own (.ints .i64)]⟩
def live : List (Nat × List Nat) := [(3, [0, 3, 4]), (100003, [2, 3])]
def G {R : Type} (k : Nat) : Glob R := mkG tt [spec_SuitOf.S.ent (spec_SuitOf.f k), spec_IsBase.S.ent (spec_IsBase.f k), spec_StepOf.S.ent (spec_StepOf.f k)] 27
def h3 : Hd := ⟨[.V, .l (.own 0), .I], [.V]⟩
def T3 {R : Type} (k : Nat) (K : X → St → Option R) : h3.Fn (Option R) := fun v0 v1 v2 => l3 k v0 (fun p0 => K (.exit 0) (stOf [2, 3] [.one (.l (.any)), .one (.l (.own 0))] [some (.row 0 0 (.ints .i64 p0))])) k v1 v2
def tab {R : Type} (k : Nat) : LTab R := fun id K vs hs => bif id == 3 then h3.tell vs hs (T3 k K) else none
theorem fit3 {R : Type} (k : Nat) : Fit (R := R) (G k) live (tab k) (bl Try.f76 0) := h3.fit (key := 3) (by kernel_rfl) (T3 k) (fun _ _ _ => rfl) fun K r v0 v1 v2 h => fit_mk h (fun a => h3.mk' v0 a.1 a.2) (fun _ v1 v2 => some (v1, v2)) (by kernel_rfl) (fun _ => by kernel_rfl) fun Lp a => by kernel_rfl
theorem con (k : Nat) : Con Try.prog S (f k) := con_fn (nt := 27) (live := live) (Λ := tab k) tok (all_cons (ok_con (spec_SuitOf.con k)) (all_cons (ok_con (spec_IsBase.con k)) (all_cons (ok_con (spec_StepOf.con k)) all_nil))) mixed Try.func76 (by kernel_rfl) (all_cons (fit3 k) all_nil) fun x => by kernel_rfl
end spec_BaseCards

namespace spec_l16Step
def S : Sp := ⟨165, ⟨[3, 3], [4], [.bor, .bor], .own⟩, [.I, .I], [.B]⟩
theorem con (k : Nat) : Con Try.prog S (f k) := con_fn (nt := 18) (live := []) (Λ := noL) tok (all_cons (ok_con (spec_RankOf.con k)) (all_cons (ok_con (spec_IsRed.con k)) all_nil)) mixed Try.func165 (by kernel_rfl) all_nil fun x => by kernel_rfl
end spec_l16Step

namespace spec_IsPile
def S : Sp := ⟨129, ⟨[95], [4], [.bor], .own⟩, [.agg .lent kd95], [.B]⟩
def live : List (Nat × List Nat) := [(4, [1, 3]), (100004, [2])]
def G {R : Type} (k : Nat) : Glob R := mkG tt [spec_IsHand.S.ent (spec_IsHand.f k), spec_l1In.S.ent (spec_l1In.f k), spec_l16Step.S.ent (spec_l16Step.f k)] 40
def h4 : Hd := ⟨[.l (.ptr 0 0), .I], [.box [.V, .I]]⟩
def T4 {R : Type} (k : Nat) (K : X → St → Option R) : h4.Fn (Option R) := fun v0 v1 _ => l4 k v1 (K .ret (stOf [2] [.one (.l (.b false))] [])) (K (.exit 0) (stOf [2] [.one (.l (.any))] [])) k v0
def tab {R : Type} (k : Nat) : LTab R := fun id K vs hs => bif id == 4 then h4.tell vs hs (T4 k K) else none
theorem fit4 {R : Type} (k : Nat) : Fit (R := R) (G k) live (tab k) (bl Try.f129 0) := h4.fit (key := 4) (by kernel_rfl) (T4 k) (fun _ _ _ => rfl) fun K r v0 v1 v2 h => fit_mk h (fun a => h4.mk' a v1 v2) (fun v0 _ _ => some v0) (by kernel_rfl) (fun _ => by kernel_rfl) fun Lp a => by kernel_rfl
theorem con (k : Nat) : Con Try.prog S (f k) := con_fn (nt := 40) (live := live) (Λ := tab k) tok (all_cons (ok_con (spec_IsHand.con k)) (all_cons (ok_con (spec_l1In.con k)) (all_cons (ok_con (spec_l16Step.con k)) all_nil))) mixed Try.func129 (by kernel_rfl) (all_cons (fit4 k) all_nil) fun x => by kernel_rfl
end spec_IsPile

namespace spec_IsPatience
def S : Sp := ⟨75, ⟨[51], [4], [.bor], .own⟩, [.agg .lent kd51], [.B]⟩
def live : List (Nat × List Nat) := [(5, [1, 3, 4]), (100005, [2, 3])]
def G {R : Type} (k : Nat) : Glob R := mkG tt [spec_IsHand.S.ent (spec_IsHand.f k), spec_BaseCards.S.ent (spec_BaseCards.f k), spec_l1In.S.ent (spec_l1In.f k), spec_IsBase.S.ent (spec_IsBase.f k), spec_IsPile.S.ent (spec_IsPile.f k)] 66
def h5 : Hd := ⟨[.l (.ptr 0 0), .l (.own 1), .I], [.box [.val false false (.recs [true, false]), .V, .V, .V], .V]⟩
def T5 {R : Type} (k : Nat) (K : X → St → Option R) : h5.Fn (Option R) := fun v0 v1 _ _ _ v5 => l5 k v1 (fun p0 => K .ret (stOf [2, 3] [.one (.l (.b false)), .one (.l (.own 0))] [some (.row 0 0 (.ints .i64 p0))])) (fun p0 => K (.exit 0) (stOf [2, 3] [.one (.l (.any)), .one (.l (.own 0))] [some (.row 0 0 (.ints .i64 p0))])) k v0 v5
def tab {R : Type} (k : Nat) : LTab R := fun id K vs hs => bif id == 5 then h5.tell vs hs (T5 k K) else none
theorem fit5 {R : Type} (k : Nat) : Fit (R := R) (G k) live (tab k) (bl Try.f75 0) := h5.fit (key := 5) (by kernel_rfl) (T5 k) (fun _ _ _ => rfl) fun K r v0 v1 v2 v3 v4 v5 h => fit_mk h (fun a => h5.mk' a.1 v1 v2 v3 v4 a.2) (fun v0 _ _ _ _ v5 => some (v0, v5)) (by kernel_rfl) (fun _ => by kernel_rfl) fun Lp a => by kernel_rfl
theorem con (k : Nat) : Con Try.prog S (f k) := con_fn (nt := 66) (live := live) (Λ := tab k) tok (all_cons (ok_con (spec_IsHand.con k)) (all_cons (ok_con (spec_BaseCards.con k)) (all_cons (ok_con (spec_l1In.con k)) (all_cons (ok_con (spec_IsBase.con k)) (all_cons (ok_con (spec_IsPile.con k)) all_nil))))) mixed Try.func75 (by kernel_rfl) (all_cons (fit5 k) all_nil) fun x => by kernel_rfl
end spec_IsPatience

namespace spec_OpenCards
def S : Sp := ⟨77, ⟨[95], [3], [.bor], .own⟩, [.agg .lent kd95], [.O]⟩
theorem con (k : Nat) : Con Try.prog S (f k) := con_fn (nt := 12) (live := []) (Λ := noL) tok (all_cons (ok_con (spec_IsPile.con k)) all_nil) mixed Try.func77 (by kernel_rfl) all_nil fun x => by kernel_rfl
end spec_OpenCards

namespace spec_OpenShare
def S : Sp := ⟨21, ⟨[51], [3], [.bor], .own⟩, [.agg .lent kd51], [.O]⟩
def live : List (Nat × List Nat) := [(5, [1, 3, 4]), (100005, [2, 3])]
def G {R : Type} (k : Nat) : Glob R := mkG tt [spec_IsPatience.S.ent (spec_IsPatience.f k), spec_BaseCards.S.ent (spec_BaseCards.f k), spec_OpenCards.S.ent (spec_OpenCards.f k)] 34
def h5 : Hd := ⟨[.l (.ptr 0 0), .I, .I], [.box [.val false false (.recs [true, false]), .V, .V, .V]]⟩
def T5 {R : Type} (k : Nat) (K : X → St → Option R) : h5.Fn (Option R) := fun v0 v1 v2 _ _ _ => l5 k v2 (fun p0 => K (.exit 0) (stOf [2, 3] [.one (.l (.any)), .one (.l (.i .i64 p0))] [])) k v0 v1
def tab {R : Type} (k : Nat) : LTab R := fun id K vs hs => bif id == 5 then h5.tell vs hs (T5 k K) else none
theorem fit5 {R : Type} (k : Nat) : Fit (R := R) (G k) live (tab k) (bl Try.f21 0) := h5.fit (key := 5) (by kernel_rfl) (T5 k) (fun _ _ _ => rfl) fun K r v0 v1 v2 v3 v4 v5 h => fit_mk h (fun a => h5.mk' a.1 a.2 v2 v3 v4 v5) (fun v0 v1 _ _ _ _ => some (v0, v1)) (by kernel_rfl) (fun _ => by kernel_rfl) fun Lp a => by kernel_rfl
theorem con (k : Nat) : Con Try.prog S (f k) := con_fn (nt := 34) (live := live) (Λ := tab k) tok (all_cons (ok_con (spec_IsPatience.con k)) (all_cons (ok_con (spec_BaseCards.con k)) (all_cons (ok_con (spec_OpenCards.con k)) all_nil))) mixed Try.func21 (by kernel_rfl) (all_cons (fit5 k) all_nil) fun x => by kernel_rfl
end spec_OpenShare

namespace laws_toPile
def S : Sp := ⟨131, ⟨[117], [95], [.bor], .own⟩, [.agg .lent kd95], [.agg .own kd95]⟩
theorem con (k : Nat) : Con Try.prog S (f k) := con_fn (nt := 12) (live := []) (Λ := noL) tok (all_cons (ok_con (laws_toIntS.con k)) all_nil) mixed Try.func131 (by kernel_rfl) all_nil fun x => by kernel_rfl
end laws_toPile

namespace laws_toPileS
def S : Sp := ⟨78, ⟨[44], [49], [.bor], .own⟩, [.l .lent (.recs [true, false])], [.l .own (.recs [true, false])]⟩
def live : List (Nat × List Nat) := [(3, [0, 3, 4]), (100003, [2, 3])]
def G {R : Type} (k : Nat) : Glob R := mkG tt [laws_toPile.S.ent (laws_toPile.f k)] 23
def h3 : Hd := ⟨[.l (.val false false (.recs [true, false])), .l (.own 0), .I], [.row true (.recs [true, false])]⟩
def T3 {R : Type} (k : Nat) (K : X → St → Option R) : h3.Fn (Option R) := fun v0 v1 v2 => l3 k v0 (fun p0 => K (.exit 0) (stOf [2, 3] [.one (.l (.any)), .one (.l (.own 0))] [some (.row 0 0 (.recs [true, false] true p0))])) k v1 v2
def tab {R : Type} (k : Nat) : LTab R := fun id K vs hs => bif id == 3 then h3.tell vs hs (T3 k K) else none
theorem fit3 {R : Type} (k : Nat) : Fit (R := R) (G k) live (tab k) (bl Try.f78 0) := h3.fit (key := 3) (by kernel_rfl) (T3 k) (fun _ _ _ => rfl) fun K r v0 v1 v2 h => fit_mk h (fun a => h3.mk' v0 a.1 a.2) (fun _ v1 v2 => some (v1, v2)) (by kernel_rfl) (fun _ => by kernel_rfl) fun Lp a => by kernel_rfl
theorem con (k : Nat) : Con Try.prog S (f k) := con_fn (nt := 23) (live := live) (Λ := tab k) tok (all_cons (ok_con (laws_toPile.con k)) all_nil) mixed Try.func78 (by kernel_rfl) (all_cons (fit3 k) all_nil) fun x => by kernel_rfl
end laws_toPileS

namespace laws_toPatience
def S : Sp := ⟨22, ⟨[46], [51], [.bor], .own⟩, [.agg .lent kd46], [.agg .own kd51]⟩
theorem con (k : Nat) : Con Try.prog S (f k) := con_fn (nt := 21) (live := []) (Λ := noL) tok (all_cons (ok_con (laws_toIntS.con k)) (all_cons (ok_con (laws_toPileS.con k)) all_nil)) mixed Try.func22 (by kernel_rfl) all_nil fun x => by kernel_rfl
end laws_toPatience

namespace impl_allIn
def S : Sp := ⟨167, ⟨[22, 3, 3], [4], [.bor, .bor, .bor], .own⟩, [.V, .I, .I], [.B]⟩
def live : List (Nat × List Nat) := [(2, [1, 2, 9, 10, 11]), (100002, [6])]
def G {R : Type} (k : Nat) : Glob R := mkG tt [impl_InRange.S.ent (impl_InRange.f k)] 21
def h2 : Hd := ⟨[.I, .I, .V, .I, .I], []⟩
def T2 {R : Type} (k : Nat) (K : X → St → Option R) : h2.Fn (Option R) := fun v0 v1 v2 v3 v4 => l2 k v0 v1 v2 v3 (K .ret (stOf [6] [.one (.l (.b false))] [])) (K (.exit 0) (stOf [6] [.one (.l (.any))] [])) k v4
def tab {R : Type} (k : Nat) : LTab R := fun id K vs hs => bif id == 2 then h2.tell vs hs (T2 k K) else none
theorem fit2 {R : Type} (k : Nat) : Fit (R := R) (G k) live (tab k) (bl Try.f167 0) := h2.fit (key := 2) (by kernel_rfl) (T2 k) (fun _ _ _ => rfl) fun K r v0 v1 v2 v3 v4 h => fit_mk h (fun a => h2.mk' v0 v1 v2 v3 a) (fun _ _ _ _ v4 => some v4) (by kernel_rfl) (fun _ => by kernel_rfl) fun Lp a => by kernel_rfl
theorem con (k : Nat) : Con Try.prog S (f k) := con_fn (nt := 21) (live := live) (Λ := tab k) tok (all_cons (ok_con (impl_InRange.con k)) all_nil) mixed Try.func167 (by kernel_rfl) (all_cons (fit2 k) all_nil) fun x => by kernel_rfl
end impl_allIn

namespace impl_IsBase
def S : Sp := ⟨132, ⟨[22], [4], [.bor], .own⟩, [.V], [.B]⟩
theorem con (k : Nat) : Con Try.prog S (f k) := con_fn (nt := 10) (live := []) (Λ := noL) tok (all_cons (ok_con (impl_allIn.con k)) all_nil) mixed Try.func132 (by kernel_rfl) all_nil fun x => by kernel_rfl
end impl_IsBase

namespace impl_StepOf
def S : Sp := ⟨134, ⟨[3], [3], [.bor], .own⟩, [.I], [.O]⟩
theorem con (k : Nat) : Con Try.prog S (f k) := con_fn (nt := 13) (live := []) (Λ := noL) tok (all_cons (ok_con (impl_RankOf.con k)) all_nil) mixed Try.func134 (by kernel_rfl) all_nil fun x => by kernel_rfl
end impl_StepOf

namespace impl_BaseCards
def S : Sp := ⟨80, ⟨[22], [22], [.bor], .own⟩, [.V], [.l .own (.ints .i64)]⟩
def live : List (Nat × List Nat) := [(5, [0, 3, 9]), (100005, [2, 3])]
def G {R : Type} (k : Nat) : Glob R := mkG tt [impl_SuitOf.S.ent (impl_SuitOf.f k), impl_IsBase.S.ent (impl_IsBase.f k), impl_StepOf.S.ent (impl_StepOf.f k)] 26
def h5 : Hd := ⟨[.V, .l (.own 0), .I], [.V]⟩
def T5 {R : Type} (k : Nat) (K : X → St → Option R) : h5.Fn (Option R) := fun v0 v1 v2 => l5 k v0 (fun p0 => K (.exit 0) (stOf [2, 3] [.one (.l (.any)), .one (.l (.own 0))] [some (.row 0 0 (.ints .i64 p0))])) k v1 v2
def tab {R : Type} (k : Nat) : LTab R := fun id K vs hs => bif id == 5 then h5.tell vs hs (T5 k K) else none
theorem fit5 {R : Type} (k : Nat) : Fit (R := R) (G k) live (tab k) (bl Try.f80 0) := h5.fit (key := 5) (by kernel_rfl) (T5 k) (fun _ _ _ => rfl) fun K r v0 v1 v2 h => fit_mk h (fun a => h5.mk' v0 a.1 a.2) (fun _ v1 v2 => some (v1, v2)) (by kernel_rfl) (fun _ => by kernel_rfl) fun Lp a => by kernel_rfl
theorem con (k : Nat) : Con Try.prog S (f k) := con_fn (nt := 26) (live := live) (Λ := tab k) tok (all_cons (ok_con (impl_SuitOf.con k)) (all_cons (ok_con (impl_IsBase.con k)) (all_cons (ok_con (impl_StepOf.con k)) all_nil))) mixed Try.func80 (by kernel_rfl) (all_cons (fit5 k) all_nil) fun x => by kernel_rfl
end impl_BaseCards

namespace impl_goesOn
def S : Sp := ⟨168, ⟨[3, 3], [4], [.bor, .bor], .own⟩, [.I, .I], [.B]⟩
theorem con (k : Nat) : Con Try.prog S (f k) := con_fn (nt := 18) (live := []) (Λ := noL) tok (all_cons (ok_con (impl_RankOf.con k)) (all_cons (ok_con (impl_IsRed.con k)) all_nil)) mixed Try.func168 (by kernel_rfl) all_nil fun x => by kernel_rfl
end impl_goesOn

namespace impl_IsPile
def S : Sp := ⟨133, ⟨[95], [4], [.bor], .own⟩, [.agg .lent kd95], [.B]⟩
def live : List (Nat × List Nat) := [(4, [1, 3]), (100004, [2])]
def G {R : Type} (k : Nat) : Glob R := mkG tt [impl_IsHand.S.ent (impl_IsHand.f k), impl_InRange.S.ent (impl_InRange.f k), impl_goesOn.S.ent (impl_goesOn.f k)] 40
def h4 : Hd := ⟨[.l (.ptr 0 0), .I], [.box [.V, .I]]⟩
def T4 {R : Type} (k : Nat) (K : X → St → Option R) : h4.Fn (Option R) := fun v0 v1 _ => l4 k v1 (K .ret (stOf [2] [.one (.l (.b false))] [])) (K (.exit 0) (stOf [2] [.one (.l (.any))] [])) k v0
def tab {R : Type} (k : Nat) : LTab R := fun id K vs hs => bif id == 4 then h4.tell vs hs (T4 k K) else none
theorem fit4 {R : Type} (k : Nat) : Fit (R := R) (G k) live (tab k) (bl Try.f133 0) := h4.fit (key := 4) (by kernel_rfl) (T4 k) (fun _ _ _ => rfl) fun K r v0 v1 v2 h => fit_mk h (fun a => h4.mk' a v1 v2) (fun v0 _ _ => some v0) (by kernel_rfl) (fun _ => by kernel_rfl) fun Lp a => by kernel_rfl
theorem con (k : Nat) : Con Try.prog S (f k) := con_fn (nt := 40) (live := live) (Λ := tab k) tok (all_cons (ok_con (impl_IsHand.con k)) (all_cons (ok_con (impl_InRange.con k)) (all_cons (ok_con (impl_goesOn.con k)) all_nil))) mixed Try.func133 (by kernel_rfl) (all_cons (fit4 k) all_nil) fun x => by kernel_rfl
end impl_IsPile

namespace impl_OpenCards
def S : Sp := ⟨81, ⟨[95], [3], [.bor], .own⟩, [.agg .lent kd95], [.O]⟩
theorem con (k : Nat) : Con Try.prog S (f k) := con_fn (nt := 12) (live := []) (Λ := noL) tok (all_cons (ok_con (impl_IsPile.con k)) all_nil) mixed Try.func81 (by kernel_rfl) all_nil fun x => by kernel_rfl
end impl_OpenCards

namespace impl_IsPatience
def S : Sp := ⟨79, ⟨[51], [4], [.bor], .own⟩, [.agg .lent kd51], [.B]⟩
def live : List (Nat × List Nat) := [(5, [3, 26, 27, 28]), (100005, [2, 3])]
def G {R : Type} (k : Nat) : Glob R := mkG tt [impl_isWhole.S.ent (impl_isWhole.f k), impl_BaseCards.S.ent (impl_BaseCards.f k), impl_OpenCards.S.ent (impl_OpenCards.f k), impl_InRange.S.ent (impl_InRange.f k), impl_IsBase.S.ent (impl_IsBase.f k), impl_IsPile.S.ent (impl_IsPile.f k)] 54
def h5 : Hd := ⟨[.l (.own 0), .l (.val false false (.recs [true, false])), .I, .I], [.row false .rows]⟩
def T5 {R : Type} (k : Nat) (K : X → St → Option R) : h5.Fn (Option R) := fun v0 v1 v2 v3 => l5 k v0 v1 (fun p0 => K .ret (stOf [2, 3] [.one (.l (.b false)), .one (.l (.own 0))] [some (.row 0 0 (.rows false p0))])) (fun p0 => K (.exit 0) (stOf [2, 3] [.one (.l (.any)), .one (.l (.own 0))] [some (.row 0 0 (.rows false p0))])) k v2 v3
def tab {R : Type} (k : Nat) : LTab R := fun id K vs hs => bif id == 5 then h5.tell vs hs (T5 k K) else none
theorem fit5 {R : Type} (k : Nat) : Fit (R := R) (G k) live (tab k) (bl Try.f79 0) := h5.fit (key := 5) (by kernel_rfl) (T5 k) (fun _ _ _ => rfl) fun K r v0 v1 v2 v3 h => fit_mk h (fun a => h5.mk' v0 v1 a.1 a.2) (fun _ _ v2 v3 => some (v2, v3)) (by kernel_rfl) (fun _ => by kernel_rfl) fun Lp a => by kernel_rfl
theorem con (k : Nat) : Con Try.prog S (f k) := con_fn (nt := 54) (live := live) (Λ := tab k) tok (all_cons (ok_con (impl_isWhole.con k)) (all_cons (ok_con (impl_BaseCards.con k)) (all_cons (ok_con (impl_OpenCards.con k)) (all_cons (ok_con (impl_InRange.con k)) (all_cons (ok_con (impl_IsBase.con k)) (all_cons (ok_con (impl_IsPile.con k)) all_nil)))))) mixed Try.func79 (by kernel_rfl) (all_cons (fit5 k) all_nil) fun x => by kernel_rfl
end impl_IsPatience

namespace impl_OpenShare
def S : Sp := ⟨23, ⟨[51], [3], [.bor], .own⟩, [.agg .lent kd51], [.O]⟩
def live : List (Nat × List Nat) := [(5, [3, 18, 19, 20]), (100005, [2, 3])]
def G {R : Type} (k : Nat) : Glob R := mkG tt [impl_IsPatience.S.ent (impl_IsPatience.f k), impl_BaseCards.S.ent (impl_BaseCards.f k), impl_OpenCards.S.ent (impl_OpenCards.f k)] 32
def h5 : Hd := ⟨[.I, .l (.val false false (.recs [true, false])), .I, .I], []⟩
def T5 {R : Type} (k : Nat) (K : X → St → Option R) : h5.Fn (Option R) := fun v0 v1 v2 v3 => l5 k v1 v2 (fun p0 => K (.exit 0) (stOf [2, 3] [.one (.l (.any)), .one (.l (.i .i64 p0))] [])) k v0 v3
def tab {R : Type} (k : Nat) : LTab R := fun id K vs hs => bif id == 5 then h5.tell vs hs (T5 k K) else none
theorem fit5 {R : Type} (k : Nat) : Fit (R := R) (G k) live (tab k) (bl Try.f23 0) := h5.fit (key := 5) (by kernel_rfl) (T5 k) (fun _ _ _ => rfl) fun K r v0 v1 v2 v3 h => fit_mk h (fun a => h5.mk' a.1 v1 v2 a.2) (fun v0 _ _ v3 => some (v0, v3)) (by kernel_rfl) (fun _ => by kernel_rfl) fun Lp a => by kernel_rfl
theorem con (k : Nat) : Con Try.prog S (f k) := con_fn (nt := 32) (live := live) (Λ := tab k) tok (all_cons (ok_con (impl_IsPatience.con k)) (all_cons (ok_con (impl_BaseCards.con k)) (all_cons (ok_con (impl_OpenCards.con k)) all_nil))) mixed Try.func23 (by kernel_rfl) (all_cons (fit5 k) all_nil) fun x => by kernel_rfl
end impl_OpenShare

namespace laws_eqPile
def S : Sp := ⟨135, ⟨[95, 95], [4], [.bor, .bor], .own⟩, [.agg .lent kd95, .agg .lent kd95], [.B]⟩
theorem con (k : Nat) : Con Try.prog S (f k) := con_fn (nt := 16) (live := []) (Λ := noL) tok (all_cons (ok_con (laws_eqIntS.con k)) all_nil) mixed Try.func135 (by kernel_rfl) all_nil fun x => by kernel_rfl
end laws_eqPile

namespace laws_eqPileS
def S : Sp := ⟨82, ⟨[49, 49], [4], [.bor, .bor], .own⟩, [.l .lent (.recs [true, false]), .l .lent (.recs [true, false])], [.B]⟩
def live : List (Nat × List Nat) := [(4, [0, 1, 5]), (100004, [4])]
def G {R : Type} (k : Nat) : Glob R := mkG tt [laws_eqPile.S.ent (laws_eqPile.f k)] 27
def h4 : Hd := ⟨[.l (.val false false (.recs [true, false])), .l (.val false false (.recs [true, false])), .I], []⟩
def T4 {R : Type} (k : Nat) (K : X → St → Option R) : h4.Fn (Option R) := fun v0 v1 v2 => l4 k v0 v1 (K .ret (stOf [4] [.one (.l (.b false))] [])) (K (.exit 0) (stOf [4] [.one (.l (.any))] [])) k v2
def tab {R : Type} (k : Nat) : LTab R := fun id K vs hs => bif id == 4 then h4.tell vs hs (T4 k K) else none
theorem fit4 {R : Type} (k : Nat) : Fit (R := R) (G k) live (tab k) (bl Try.f82 0) := h4.fit (key := 4) (by kernel_rfl) (T4 k) (fun _ _ _ => rfl) fun K r v0 v1 v2 h => fit_mk h (fun a => h4.mk' v0 v1 a) (fun _ _ v2 => some v2) (by kernel_rfl) (fun _ => by kernel_rfl) fun Lp a => by kernel_rfl
theorem con (k : Nat) : Con Try.prog S (f k) := con_fn (nt := 27) (live := live) (Λ := tab k) tok (all_cons (ok_con (laws_eqPile.con k)) all_nil) mixed Try.func82 (by kernel_rfl) (all_cons (fit4 k) all_nil) fun x => by kernel_rfl
end laws_eqPileS

namespace laws_eqPatience
def S : Sp := ⟨24, ⟨[51, 51], [4], [.bor, .bor], .own⟩, [.agg .lent kd51, .agg .lent kd51], [.B]⟩
theorem con (k : Nat) : Con Try.prog S (f k) := con_fn (nt := 29) (live := []) (Λ := noL) tok (all_cons (ok_con (laws_eqIntS.con k)) (all_cons (ok_con (laws_eqPileS.con k)) all_nil)) mixed Try.func24 (by kernel_rfl) all_nil fun x => by kernel_rfl
end laws_eqPatience

namespace laws_FnExactOpenShare
def S : Sp := ⟨5, ⟨[46], [4], [.bor], .own⟩, [.agg .lent kd46], [.B]⟩
theorem con (k : Nat) : Con Try.prog S (f k) := con_fn (nt := 27) (live := []) (Λ := noL) tok (all_cons (ok_con (laws_szPatience.con k)) (all_cons (ok_con (spec_OpenShare.con k)) (all_cons (ok_con (laws_toPatience.con k)) (all_cons (ok_con (impl_OpenShare.con k)) (all_cons (ok_con (laws_eqPatience.con k)) all_nil))))) mixed Try.func5 (by kernel_rfl) all_nil fun x => by kernel_rfl
end laws_FnExactOpenShare
end Go.Proofs.Ytfmmdbnkeadieaa
