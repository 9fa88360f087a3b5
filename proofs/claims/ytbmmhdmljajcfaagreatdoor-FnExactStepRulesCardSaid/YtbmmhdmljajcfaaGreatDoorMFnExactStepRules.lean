/- That the Go functions come to the answers of the plain ones. Printed by a program. -/
import Derived.Test.YtbmmhdmljajcfaaGreatDoorT
import Derived.Test.YtbmmhdmljajcfaaGreatDoorFFnExactStepRules
import Derived.Test.YtbmmhdmljajcfaaGreatDoorParse
import Derived.Test.YtbmmhdmljajcfaaGreatDoorShelf
set_option linter.unusedVariables false
set_option maxRecDepth 100000
set_option maxHeartbeats 20000000
namespace Go.Proofs.YtbmmhdmljajcfaaGreatDoor
open Go Go.Proofs.YtbmmhdmljajcfaaGreatDoor.V Go.Proofs.YtbmmhdmljajcfaaGreatDoor.M
namespace laws_szIntS
def S:Sp:=⟨40,⟨[22,3],[3],[.bor,.bor],.own⟩,[.V,.I],[.O]⟩
theorem con (k:Nat):Con Tryz.prog S (f k):=con_fn (nt:=12) (live:=[]) (Λ:=noL) tok all_nil mixed Tryz.func40 (by kernel_rfl) all_nil fun x=>by kernel_rfl
end laws_szIntS
namespace laws_szRules
def S:Sp:=⟨39,⟨[24,3],[3],[.bor,.bor],.own⟩,[.agg .lent kd24,.I],[.O]⟩
theorem con (k:Nat):Con Tryz.prog S (f k):=con_fn (nt:=18) (live:=[]) (Λ:=noL) tok (all_cons (ok_con (laws_szIntS.con k)) all_nil) mixed Tryz.func39 (by kernel_rfl) all_nil fun x=>by kernel_rfl
end laws_szRules
namespace laws_szIntSS
def S:Sp:=⟨42,⟨[25,3],[3],[.bor,.bor],.own⟩,[.l .lent .rows,.I],[.O]⟩
def live:List (Nat×List Nat):=[(5,[0,1,5]),(100005,[1,4])]
def G {R:Type} (k:Nat):Glob R:=mkG tt [laws_szIntS.S.ent (laws_szIntS.f k)] 27
def h5:Hd:=⟨[.W,.I,.I],[]⟩
def T5 {R:Type} (k:Nat) (K:X->St->Option R):h5.Fn (Option R):=fun v0 v1 v2=>l5 k v0 (fun p0=>K .ret (stOf [1,4] [.one (.l (.i .i64 p0)),.one (.l (.i .i64 (-1)))] [])) (fun p0=>K (.exit 0) (stOf [1,4] [.one (.l (.i .i64 p0)),.one (.l (.any))] [])) k v1 v2
def tab {R:Type} (k:Nat):LTab R:=fun id K vs hs=>bif id==5 then h5.tell vs hs (T5 k K) else none
theorem fit5 {R:Type} (k:Nat):Fit (R:=R) (G k) live (tab k) (bl Tryz.f42 0):=h5.fit (key:=5) (by kernel_rfl) (T5 k) (fun _ _ _=>rfl) fun K r v0 v1 v2 h=>fit_mk h (fun a=>h5.mk' v0 a.1 a.2) (fun _ v1 v2=>some (v1,v2)) (by kernel_rfl) (fun _=>by kernel_rfl) fun Lp a=>by kernel_rfl
theorem con (k:Nat):Con Tryz.prog S (f k):=con_fn (nt:=27) (live:=live) (Λ:=tab k) tok (all_cons (ok_con (laws_szIntS.con k)) all_nil) mixed Tryz.func42 (by kernel_rfl) (all_cons (fit5 k) all_nil) fun x=>by kernel_rfl
end laws_szIntSS
namespace laws_szGame
def S:Sp:=⟨41,⟨[27,3],[3],[.bor,.bor],.own⟩,[.agg .lent kd27,.I],[.O]⟩
theorem con (k:Nat):Con Tryz.prog S (f k):=con_fn (nt:=30) (live:=[]) (Λ:=noL) tok (all_cons (ok_con (laws_szRules.con k)) (all_cons (ok_con (laws_szIntS.con k)) (all_cons (ok_con (laws_szIntSS.con k)) all_nil))) mixed Tryz.func41 (by kernel_rfl) all_nil fun x=>by kernel_rfl
end laws_szGame
namespace laws_szTable
def S:Sp:=⟨8,⟨[29,3],[3],[.bor,.bor],.own⟩,[.agg .lent kd29,.I],[.O]⟩
theorem con (k:Nat):Con Tryz.prog S (f k):=con_fn (nt:=42) (live:=[]) (Λ:=noL) tok (all_cons (ok_con (laws_szRules.con k)) (all_cons (ok_con (laws_szIntS.con k)) (all_cons (ok_con (laws_szGame.con k)) (all_cons (ok_con (laws_szIntSS.con k)) all_nil)))) mixed Tryz.func8 (by kernel_rfl) all_nil fun x=>by kernel_rfl
end laws_szTable
namespace spec_l22Copy
def S:Sp:=⟨117,⟨[31],[31],[.bor],.own⟩,[.agg .lent kd24],[.agg .own kd24]⟩
theorem con (k:Nat):Con Tryz.prog S (f k):=con_fn (nt:=14) (live:=[]) (Λ:=noL) tok all_nil mixed Tryz.func117 (by kernel_rfl) all_nil fun x=>by kernel_rfl
end spec_l22Copy
namespace spec_l15Copy
def S:Sp:=⟨119,⟨[25],[25],[.bor],.own⟩,[.l .lent .rows],[.l .own .rows]⟩
def live:List (Nat×List Nat):=[(3,[0,3,4]),(100003,[2,3])]
def G {R:Type} (k:Nat):Glob R:=mkG tt [] 22
def h3:Hd:=⟨[.W,.l (.own 0),.I],[.W]⟩
def T3 {R:Type} (k:Nat) (K:X->St->Option R):h3.Fn (Option R):=fun v0 v1 v2=>l3 k v0 (fun p0=>K (.exit 0) (stOf [2,3] [.one (.l (.any)),.one (.l (.own 0))] [some (.row 0 0 (.rows true p0))])) k v1 v2
def tab {R:Type} (k:Nat):LTab R:=fun id K vs hs=>bif id==3 then h3.tell vs hs (T3 k K) else none
theorem fit3 {R:Type} (k:Nat):Fit (R:=R) (G k) live (tab k) (bl Tryz.f119 0):=h3.fit (key:=3) (by kernel_rfl) (T3 k) (fun _ _ _=>rfl) fun K r v0 v1 v2 h=>fit_mk h (fun a=>h3.mk' v0 a.1 a.2) (fun _ v1 v2=>some (v1,v2)) (by kernel_rfl) (fun _=>by kernel_rfl) fun Lp a=>by kernel_rfl
theorem con (k:Nat):Con Tryz.prog S (f k):=con_fn (nt:=22) (live:=live) (Λ:=tab k) tok all_nil mixed Tryz.func119 (by kernel_rfl) (all_cons (fit3 k) all_nil) fun x=>by kernel_rfl
end spec_l15Copy
namespace spec_l24Copy
def S:Sp:=⟨118,⟨[33],[33],[.bor],.own⟩,[.agg .lent kd27],[.agg .own kd27]⟩
theorem con (k:Nat):Con Tryz.prog S (f k):=con_fn (nt:=24) (live:=[]) (Λ:=noL) tok (all_cons (ok_con (spec_l22Copy.con k)) (all_cons (ok_con (spec_l15Copy.con k)) all_nil)) mixed Tryz.func118 (by kernel_rfl) all_nil fun x=>by kernel_rfl
end spec_l24Copy
namespace spec_l33Copy
def S:Sp:=⟨43,⟨[35],[35],[.bor],.own⟩,[.agg .lent kd29],[.agg .own kd29]⟩
theorem con (k:Nat):Con Tryz.prog S (f k):=con_fn (nt:=27) (live:=[]) (Λ:=noL) tok (all_cons (ok_con (spec_l22Copy.con k)) (all_cons (ok_con (spec_l24Copy.con k)) (all_cons (ok_con (spec_l15Copy.con k)) all_nil))) mixed Tryz.func43 (by kernel_rfl) all_nil fun x=>by kernel_rfl
end spec_l33Copy
namespace spec_l1In
def S:Sp:=⟨213,⟨[3,3,3],[4],[.bor,.bor,.bor],.own⟩,[.I,.I,.I],[.B]⟩
theorem con (k:Nat):Con Tryz.prog S (f k):=con_fn (nt:=15) (live:=[]) (Λ:=noL) tok all_nil mixed Tryz.func213 (by kernel_rfl) all_nil fun x=>by kernel_rfl
end spec_l1In
namespace spec_l8Leaf
def S:Sp:=⟨328,⟨[3],[4],[.bor],.own⟩,[.I],[.B]⟩
theorem con (k:Nat):Con Tryz.prog S (f k):=con_fn (nt:=17) (live:=[]) (Λ:=noL) tok (all_cons (ok_con (spec_l1In.con k)) all_nil) mixed Tryz.func328 (by kernel_rfl) all_nil fun x=>by kernel_rfl
end spec_l8Leaf
namespace spec_IsPattern
def S:Sp:=⟨290,⟨[22],[4],[.bor],.own⟩,[.V],[.B]⟩
def live:List (Nat×List Nat):=[(3,[0,3,4]),(100003,[0,2,3])]
def G {R:Type} (k:Nat):Glob R:=mkG tt [spec_l8Leaf.S.ent (spec_l8Leaf.f k)] 55
def h3:Hd:=⟨[.V,.I,.I],[]⟩
def T3 {R:Type} (k:Nat) (K:X->St->Option R):h3.Fn (Option R):=fun v0 v1 v2=>l3 k v0 (fun p0=>K .ret (stOf [0,2,3] [.one (.l (.val false (.ints .i64 v0))),.one (.l (.b false)),.one (.l (.i .i64 p0))] [])) (fun p0=>K (.exit 0) (stOf [0,2,3] [.one (.l (.val false (.ints .i64 v0))),.one (.l (.any)),.one (.l (.i .i64 p0))] [])) k v1 v2
def tab {R:Type} (k:Nat):LTab R:=fun id K vs hs=>bif id==3 then h3.tell vs hs (T3 k K) else none
theorem fit3 {R:Type} (k:Nat):Fit (R:=R) (G k) live (tab k) (bl Tryz.f290 0):=h3.fit (key:=3) (by kernel_rfl) (T3 k) (fun _ _ _=>rfl) fun K r v0 v1 v2 h=>fit_mk h (fun a=>h3.mk' v0 a.1 a.2) (fun _ v1 v2=>some (v1,v2)) (by kernel_rfl) (fun _=>by kernel_rfl) fun Lp a=>by kernel_rfl
theorem con (k:Nat):Con Tryz.prog S (f k):=con_fn (nt:=55) (live:=live) (Λ:=tab k) tok (all_cons (ok_con (spec_l8Leaf.con k)) all_nil) mixed Tryz.func290 (by kernel_rfl) (all_cons (fit3 k) all_nil) fun x=>by kernel_rfl
end spec_IsPattern
namespace spec_l22Pattern
def S:Sp:=⟨224,⟨[22],[4],[.bor],.own⟩,[.V],[.B]⟩
theorem con (k:Nat):Con Tryz.prog S (f k):=con_fn (nt:=10) (live:=[]) (Λ:=noL) tok (all_cons (ok_con (spec_IsPattern.con k)) all_nil) mixed Tryz.func224 (by kernel_rfl) all_nil fun x=>by kernel_rfl
end spec_l22Pattern
namespace spec_IsRules
def S:Sp:=⟨135,⟨[31],[4],[.bor],.own⟩,[.agg .lent kd24],[.B]⟩
theorem con (k:Nat):Con Tryz.prog S (f k):=con_fn (nt:=39) (live:=[]) (Λ:=noL) tok (all_cons (ok_con (spec_l1In.con k)) (all_cons (ok_con (spec_l22Pattern.con k)) all_nil)) mixed Tryz.func135 (by kernel_rfl) all_nil fun x=>by kernel_rfl
end spec_IsRules
namespace spec_FormatInt
def S:Sp:=⟨154,⟨[3],[9],[.bor],.own⟩,[.I],[.l .own .str]⟩
def live:List (Nat×List Nat):=[(5,[0,3,4]),(100005,[0,2,3])]
def G {R:Type} (k:Nat):Glob R:=mkG tt [] 31
def h5:Hd:=⟨[.I,.l (.s),.I],[]⟩
def T5 {R:Type} (k:Nat) (K:X->St->Option R):h5.Fn (Option R):=fun v0 v1 v2=>l5 k (fun p0=>K (.exit 0) (stOf [0,2,3] [.one (.l (.i .i64 v0)),.one (.l (.any)),.one (.l (.s p0))] [])) k v1 v2
def tab {R:Type} (k:Nat):LTab R:=fun id K vs hs=>bif id==5 then h5.tell vs hs (T5 k K) else none
theorem fit5 {R:Type} (k:Nat):Fit (R:=R) (G k) live (tab k) (bl Tryz.f154 0):=h5.fit (key:=5) (by kernel_rfl) (T5 k) (fun _ _ _=>rfl) fun K r v0 v1 v2 h=>fit_mk h (fun a=>h5.mk' v0 a.1 a.2) (fun _ v1 v2=>some (v1,v2)) (by kernel_rfl) (fun _=>by kernel_rfl) fun Lp a=>by kernel_rfl
theorem con (k:Nat):Con Tryz.prog S (f k):=con_fn (nt:=31) (live:=live) (Λ:=tab k) tok all_nil mixed Tryz.func154 (by kernel_rfl) (all_cons (fit5 k) all_nil) fun x=>by kernel_rfl
end spec_FormatInt
namespace spec_RulesWord
def S:Sp:=⟨155,⟨[31],[9],[.bor],.own⟩,[.agg .lent kd24],[.l .own .str]⟩
theorem con (k:Nat):Con Tryz.prog S (f k):=con_fn (nt:=16) (live:=[]) (Λ:=noL) tok all_nil mixed Tryz.func155 (by kernel_rfl) all_nil fun x=>by kernel_rfl
end spec_RulesWord
namespace spec_l9Rank
def S:Sp:=⟨329,⟨[3],[9],[.bor],.own⟩,[.I],[.l .own .str]⟩
theorem con (k:Nat):Con Tryz.prog S (f k):=con_fn (nt:=7) (live:=[]) (Λ:=noL) tok all_nil mixed Tryz.func329 (by kernel_rfl) all_nil fun x=>by kernel_rfl
end spec_l9Rank
namespace spec_l9Leaf
def S:Sp:=⟨291,⟨[3],[9],[.bor],.own⟩,[.I],[.l .own .str]⟩
theorem con (k:Nat):Con Tryz.prog S (f k):=con_fn (nt:=25) (live:=[]) (Λ:=noL) tok (all_cons (ok_con (spec_l9Rank.con k)) all_nil) mixed Tryz.func291 (by kernel_rfl) all_nil fun x=>by kernel_rfl
end spec_l9Leaf
namespace spec_PatternText
def S:Sp:=⟨215,⟨[22],[9],[.bor],.own⟩,[.V],[.l .own .str]⟩
def live:List (Nat×List Nat):=[(5,[0,3,4]),(100005,[2,3])]
def G {R:Type} (k:Nat):Glob R:=mkG tt [spec_IsPattern.S.ent (spec_IsPattern.f k),spec_l9Leaf.S.ent (spec_l9Leaf.f k)] 89
def h5:Hd:=⟨[.V,.l (.own 0),.I],[.row false .strs]⟩
def T5 {R:Type} (k:Nat) (K:X->St->Option R):h5.Fn (Option R):=fun v0 v1 v2=>l5 k v0 (fun p0=>K (.exit 0) (stOf [2,3] [.one (.l (.any)),.one (.l (.own 0))] [some (.row 0 0 (.strs p0))])) k v1 v2
def tab {R:Type} (k:Nat):LTab R:=fun id K vs hs=>bif id==5 then h5.tell vs hs (T5 k K) else none
theorem fit5 {R:Type} (k:Nat):Fit (R:=R) (G k) live (tab k) (bl Tryz.f215 0):=h5.fit (key:=5) (by kernel_rfl) (T5 k) (fun _ _ _=>rfl) fun K r v0 v1 v2 h=>fit_mk h (fun a=>h5.mk' v0 a.1 a.2) (fun _ v1 v2=>some (v1,v2)) (by kernel_rfl) (fun _=>by kernel_rfl) fun Lp a=>by kernel_rfl
theorem con (k:Nat):Con Tryz.prog S (f k):=con_fn (nt:=89) (live:=live) (Λ:=tab k) tok (all_cons (ok_con (spec_IsPattern.con k)) (all_cons (ok_con (spec_l9Leaf.con k)) all_nil)) mixed Tryz.func215 (by kernel_rfl) (all_cons (fit5 k) all_nil) fun x=>by kernel_rfl
end spec_PatternText
namespace spec_l23Pattern
def S:Sp:=⟨156,⟨[22],[9],[.bor],.own⟩,[.V],[.l .own .str]⟩
theorem con (k:Nat):Con Tryz.prog S (f k):=con_fn (nt:=8) (live:=[]) (Λ:=noL) tok (all_cons (ok_con (spec_PatternText.con k)) all_nil) mixed Tryz.func156 (by kernel_rfl) all_nil fun x=>by kernel_rfl
end spec_l23Pattern
namespace spec_RulesText
def S:Sp:=⟨83,⟨[31],[9],[.bor],.own⟩,[.agg .lent kd24],[.l .own .str]⟩
theorem con (k:Nat):Con Tryz.prog S (f k):=con_fn (nt:=39) (live:=[]) (Λ:=noL) tok (all_cons (ok_con (spec_IsRules.con k)) (all_cons (ok_con (spec_FormatInt.con k)) (all_cons (ok_con (spec_RulesWord.con k)) (all_cons (ok_con (spec_l23Pattern.con k)) all_nil)))) mixed Tryz.func83 (by kernel_rfl) all_nil fun x=>by kernel_rfl
end spec_RulesText
namespace spec_SplitWords
def S:Sp:=⟨120,⟨[9,5],[57],[.bor,.bor],.own⟩,[.l .lent .str,.l .lent (.int .u8)],[.l .own .strs]⟩
def live:List (Nat×List Nat):=[(4,[0,1,5,6,7]),(100004,[4,5])]
def G {R:Type} (k:Nat):Glob R:=mkG tt [] 36
def h4:Hd:=⟨[.l (.s),.l (.i .u8),.l (.own 0),.I,.I],[.row false .strs]⟩
def T4 {R:Type} (k:Nat) (K:X->St->Option R):h4.Fn (Option R):=fun v0 v1 v2 v3 v4=>l4 k v0 v1 (fun p0=>K (.exit 0) (stOf [4,5] [.one (.l (.any)),.one (.l (.own 0))] [some (.row 0 0 (.strs p0))])) k v2 v3 v4
def tab {R:Type} (k:Nat):LTab R:=fun id K vs hs=>bif id==4 then h4.tell vs hs (T4 k K) else none
theorem fit4 {R:Type} (k:Nat):Fit (R:=R) (G k) live (tab k) (bl Tryz.f120 0):=h4.fit (key:=4) (by kernel_rfl) (T4 k) (fun _ _ _=>rfl) fun K r v0 v1 v2 v3 v4 h=>fit_mk h (fun a=>h4.mk' v0 v1 a.1 a.2.1 (t2 a)) (fun _ _ v2 v3 v4=>some (v2,v3,v4)) (by kernel_rfl) (fun _=>by kernel_rfl) fun Lp a=>by kernel_rfl
theorem con (k:Nat):Con Tryz.prog S (f k):=con_fn (nt:=36) (live:=live) (Λ:=tab k) tok all_nil mixed Tryz.func120 (by kernel_rfl) (all_cons (fit4 k) all_nil) fun x=>by kernel_rfl
end spec_SplitWords
namespace spec_ValueAfter
def S:Sp:=⟨121,⟨[9,9],[9,4],[.bor,.bor],.own⟩,[.l .lent .str,.l .lent .str],[.l .own .str,.B]⟩
theorem con (k:Nat):Con Tryz.prog S (f k):=con_fn (nt:=30) (live:=[]) (Λ:=noL) tok all_nil mixed Tryz.func121 (by kernel_rfl) all_nil fun x=>by kernel_rfl
end spec_ValueAfter
namespace spec_ParseInt
def S:Sp:=⟨122,⟨[9],[3,4],[.bor],.own⟩,[.l .lent .str],[.O,.B]⟩
def live:List (Nat×List Nat):=[(5,[0,4,5]),(100005,[0,2,3,4])]
def G {R:Type} (k:Nat):Glob R:=mkG tt [spec_FormatInt.S.ent (spec_FormatInt.f k),spec_l1In.S.ent (spec_l1In.f k)] 39
def h5:Hd:=⟨[.l (.s),.I,.I],[]⟩
def T5 {R:Type} (k:Nat) (K:X->St->Option R):h5.Fn (Option R):=fun v0 v1 v2=>l5 k v0 (fun p0=>K .ret (stOf [0,2,3,4] [.one (.l (.s v0)),.one (.l (.i .i64 0)),.one (.l (.b false)),.one (.l (.i .i64 p0))] [])) (fun p0=>K (.exit 0) (stOf [0,2,3,4] [.one (.l (.s v0)),.one (.l (.any)),.one (.l (.any)),.one (.l (.i .i64 p0))] [])) k v1 v2
def tab {R:Type} (k:Nat):LTab R:=fun id K vs hs=>bif id==5 then h5.tell vs hs (T5 k K) else none
theorem fit5 {R:Type} (k:Nat):Fit (R:=R) (G k) live (tab k) (bl Tryz.f122 0):=h5.fit (key:=5) (by kernel_rfl) (T5 k) (fun _ _ _=>rfl) fun K r v0 v1 v2 h=>fit_mk h (fun a=>h5.mk' v0 a.1 a.2) (fun _ v1 v2=>some (v1,v2)) (by kernel_rfl) (fun _=>by kernel_rfl) fun Lp a=>by kernel_rfl
theorem con (k:Nat):Con Tryz.prog S (f k):=con_fn (nt:=39) (live:=live) (Λ:=tab k) tok (all_cons (ok_con (spec_FormatInt.con k)) (all_cons (ok_con (spec_l1In.con k)) all_nil)) mixed Tryz.func122 (by kernel_rfl) (all_cons (fit5 k) all_nil) fun x=>by kernel_rfl
end spec_ParseInt
namespace spec_l9At
def S:Sp:=⟨289,⟨[9,5],[3],[.bor,.bor],.own⟩,[.l .lent .str,.l .lent (.int .u8)],[.O]⟩
def live:List (Nat×List Nat):=[(2,[0,1,5]),(100002,[4])]
def G {R:Type} (k:Nat):Glob R:=mkG tt [] 18
def h2:Hd:=⟨[.l (.s),.l (.i .u8),.I],[]⟩
def T2 {R:Type} (k:Nat) (K:X->St->Option R):h2.Fn (Option R):=fun v0 v1 v2=>l2 k v0 v1 (fun p0=>K .ret (stOf [4] [.one (.l (.i .i64 p0))] [])) (K (.exit 0) (stOf [4] [.one (.l (.any))] [])) k v2
def tab {R:Type} (k:Nat):LTab R:=fun id K vs hs=>bif id==2 then h2.tell vs hs (T2 k K) else none
theorem fit2 {R:Type} (k:Nat):Fit (R:=R) (G k) live (tab k) (bl Tryz.f289 0):=h2.fit (key:=2) (by kernel_rfl) (T2 k) (fun _ _ _=>rfl) fun K r v0 v1 v2 h=>fit_mk h (fun a=>h2.mk' v0 v1 a) (fun _ _ v2=>some v2) (by kernel_rfl) (fun _=>by kernel_rfl) fun Lp a=>by kernel_rfl
theorem con (k:Nat):Con Tryz.prog S (f k):=con_fn (nt:=18) (live:=live) (Λ:=tab k) tok all_nil mixed Tryz.func289 (by kernel_rfl) (all_cons (fit2 k) all_nil) fun x=>by kernel_rfl
end spec_l9At
namespace spec_l9Read
def S:Sp:=⟨214,⟨[9,3],[22,3],[.bor,.bor],.own⟩,[.l .lent .str,.I],[.l .own (.ints .i64),.O]⟩
theorem step (k:Nat) (self:ByteArray->Int->Option (LI×Int)) (hself:Con Tryz.prog S self):Con Tryz.prog S (b k self):=con_fn (nt:=146) (live:=[]) (Λ:=noL) tok (all_cons (ok_con hself) (all_cons (ok_con (spec_l9At.con k)) all_nil)) mixed Tryz.func214 (by kernel_rfl) all_nil fun x=>by kernel_rfl
theorem con (k:Nat):Con Tryz.prog S (f k):=con_rec (S:=S) (b:=b k) (g:=g k) ⟨Tryz.f214,Tryz.func214,by kernel_rfl,by kernel_rfl⟩ (fun _=>rfl) (fun _=>rfl) (step k) k
end spec_l9Read
namespace spec_ParsePattern
def S:Sp:=⟨123,⟨[9],[22,4],[.bor],.own⟩,[.l .lent .str],[.l .own (.ints .i64),.B]⟩
theorem con (k:Nat):Con Tryz.prog S (f k):=con_fn (nt:=31) (live:=[]) (Λ:=noL) tok (all_cons (ok_con (spec_l9Read.con k)) (all_cons (ok_con (spec_PatternText.con k)) all_nil)) mixed Tryz.func123 (by kernel_rfl) all_nil fun x=>by kernel_rfl
end spec_ParsePattern
namespace spec_ParseRules
def S:Sp:=⟨44,⟨[9],[31,4],[.bor],.own⟩,[.l .lent .str],[.agg .own kd24,.B]⟩
def live:List (Nat×List Nat):=[(8,[0,2,4,5,6,7,8]),(100008,[0,2,3,6,7])]
def G {R:Type} (k:Nat):Glob R:=mkG tt [spec_RulesText.S.ent (spec_RulesText.f k),spec_SplitWords.S.ent (spec_SplitWords.f k),spec_ValueAfter.S.ent (spec_ValueAfter.f k),spec_ParseInt.S.ent (spec_ParseInt.f k),spec_ParsePattern.S.ent (spec_ParsePattern.f k)] 115
def h8:Hd:=⟨[.l (.s),.l (.ptr 0 0),.l (.own 1),.l (.own 2),.l (.own 3),.l (.own 4),.I],[.box [.I,.I,.bc false,.bc false,.nil,.nil,.I,.I],.row false .strs,.row false .strs,.row false .strs,.V]⟩
def T8 {R:Type} (k:Nat) (K:X->St->Option R):h8.Fn (Option R):=fun v0 v1 v2 v3 v6 v7 v8 v9 v10 v11=>l8 k v8 v9 (fun p0 p1=>K (.exit 0) (stOf [0,2,3,6,7] [.one (.l (.s v0)),.one (.l (.bptr 0 0)),.one (.l (.any)),.one (.l (.own 1)),.one (.l (.own 2))] [some (.box 0 [.i .i64 v2,.i .i64 v3,.b false,.b false,.nil,.nil,.i .i64 v6,.i .i64 v7]),some (.row 0 0 (.strs p0)),some (.row 0 0 (.ints .i64 p1))])) k v1 v10 v11
def tab {R:Type} (k:Nat):LTab R:=fun id K vs hs=>bif id==8 then h8.tell vs hs (T8 k K) else none
theorem fit8 {R:Type} (k:Nat):Fit (R:=R) (G k) live (tab k) (bl Tryz.f44 0):=h8.fit (key:=8) (by kernel_rfl) (T8 k) (fun _ _ _=>rfl) fun K r v0 v1 v2 v3 v6 v7 v8 v9 v10 v11 h=>fit_mk h (fun a=>h8.mk' v0 a.1 v2 v3 v6 v7 v8 v9 a.2.1 (t2 a)) (fun _ v1 _ _ _ _ _ _ v10 v11=>some (v1,v10,v11)) (by kernel_rfl) (fun _=>by kernel_rfl) fun Lp a=>by kernel_rfl
theorem con (k:Nat):Con Tryz.prog S (f k):=con_fn (nt:=115) (live:=live) (Λ:=tab k) tok (all_cons (ok_con (spec_RulesText.con k)) (all_cons (ok_con (spec_SplitWords.con k)) (all_cons (ok_con (spec_ValueAfter.con k)) (all_cons (ok_con (spec_ParseInt.con k)) (all_cons (ok_con (spec_ParsePattern.con k)) all_nil))))) mixed Tryz.func44 (by kernel_rfl) (all_cons (fit8 k) all_nil) fun x=>by kernel_rfl
end spec_ParseRules
namespace spec_IsRound
def S:Sp:=⟨292,⟨[3,22],[4],[.bor,.bor],.own⟩,[.I,.V],[.B]⟩
def live:List (Nat×List Nat):=[(3,[0,1,5,6]),(100003,[0,1,4,5])]
def G {R:Type} (k:Nat):Glob R:=mkG tt [spec_l1In.S.ent (spec_l1In.f k)] 37
def h3:Hd:=⟨[.I,.V,.I,.I],[]⟩
def T3 {R:Type} (k:Nat) (K:X->St->Option R):h3.Fn (Option R):=fun v0 v1 v2 v3=>l3 k v1 (fun p0=>K .ret (stOf [0,1,4,5] [.one (.l (.i .i64 v0)),.one (.l (.val false (.ints .i64 v1))),.one (.l (.b false)),.one (.l (.i .i64 p0))] [])) (fun p0=>K (.exit 0) (stOf [0,1,4,5] [.one (.l (.i .i64 v0)),.one (.l (.val false (.ints .i64 v1))),.one (.l (.any)),.one (.l (.i .i64 p0))] [])) k v2 v3
def tab {R:Type} (k:Nat):LTab R:=fun id K vs hs=>bif id==3 then h3.tell vs hs (T3 k K) else none
theorem fit3 {R:Type} (k:Nat):Fit (R:=R) (G k) live (tab k) (bl Tryz.f292 0):=h3.fit (key:=3) (by kernel_rfl) (T3 k) (fun _ _ _=>rfl) fun K r v0 v1 v2 v3 h=>fit_mk h (fun a=>h3.mk' v0 v1 a.1 a.2) (fun _ _ v2 v3=>some (v2,v3)) (by kernel_rfl) (fun _=>by kernel_rfl) fun Lp a=>by kernel_rfl
theorem con (k:Nat):Con Tryz.prog S (f k):=con_fn (nt:=37) (live:=live) (Λ:=tab k) tok (all_cons (ok_con (spec_l1In.con k)) all_nil) mixed Tryz.func292 (by kernel_rfl) (all_cons (fit3 k) all_nil) fun x=>by kernel_rfl
end spec_IsRound
namespace spec_IsSheet
def S:Sp:=⟨216,⟨[3,25],[4],[.bor,.bor],.own⟩,[.I,.l .lent .rows],[.B]⟩
def live:List (Nat×List Nat):=[(2,[0,1,5]),(100002,[0,1,4])]
def G {R:Type} (k:Nat):Glob R:=mkG tt [spec_l1In.S.ent (spec_l1In.f k),spec_IsRound.S.ent (spec_IsRound.f k)] 26
def h2:Hd:=⟨[.I,.W,.I],[]⟩
def T2 {R:Type} (k:Nat) (K:X->St->Option R):h2.Fn (Option R):=fun v0 v1 v2=>l2 k v0 v1 (K .ret (stOf [0,1,4] [.one (.l (.i .i64 v0)),.one (.l (.val false (.rows false v1))),.one (.l (.b false))] [])) (K (.exit 0) (stOf [0,1,4] [.one (.l (.i .i64 v0)),.one (.l (.val false (.rows false v1))),.one (.l (.any))] [])) k v2
def tab {R:Type} (k:Nat):LTab R:=fun id K vs hs=>bif id==2 then h2.tell vs hs (T2 k K) else none
theorem fit2 {R:Type} (k:Nat):Fit (R:=R) (G k) live (tab k) (bl Tryz.f216 0):=h2.fit (key:=2) (by kernel_rfl) (T2 k) (fun _ _ _=>rfl) fun K r v0 v1 v2 h=>fit_mk h (fun a=>h2.mk' v0 v1 a) (fun _ _ v2=>some v2) (by kernel_rfl) (fun _=>by kernel_rfl) fun Lp a=>by kernel_rfl
theorem con (k:Nat):Con Tryz.prog S (f k):=con_fn (nt:=26) (live:=live) (Λ:=tab k) tok (all_cons (ok_con (spec_l1In.con k)) (all_cons (ok_con (spec_IsRound.con k)) all_nil)) mixed Tryz.func216 (by kernel_rfl) (all_cons (fit2 k) all_nil) fun x=>by kernel_rfl
end spec_IsSheet
namespace spec_EqualInts
def S:Sp:=⟨293,⟨[22,22],[4],[.bor,.bor],.own⟩,[.V,.V],[.B]⟩
def live:List (Nat×List Nat):=[(4,[0,1,5]),(100004,[4])]
def G {R:Type} (k:Nat):Glob R:=mkG tt [] 26
def h4:Hd:=⟨[.V,.V,.I],[]⟩
def T4 {R:Type} (k:Nat) (K:X->St->Option R):h4.Fn (Option R):=fun v0 v1 v2=>l4 k v0 v1 (K .ret (stOf [4] [.one (.l (.b false))] [])) (K (.exit 0) (stOf [4] [.one (.l (.any))] [])) k v2
def tab {R:Type} (k:Nat):LTab R:=fun id K vs hs=>bif id==4 then h4.tell vs hs (T4 k K) else none
theorem fit4 {R:Type} (k:Nat):Fit (R:=R) (G k) live (tab k) (bl Tryz.f293 0):=h4.fit (key:=4) (by kernel_rfl) (T4 k) (fun _ _ _=>rfl) fun K r v0 v1 v2 h=>fit_mk h (fun a=>h4.mk' v0 v1 a) (fun _ _ v2=>some v2) (by kernel_rfl) (fun _=>by kernel_rfl) fun Lp a=>by kernel_rfl
theorem con (k:Nat):Con Tryz.prog S (f k):=con_fn (nt:=26) (live:=live) (Λ:=tab k) tok all_nil mixed Tryz.func293 (by kernel_rfl) (all_cons (fit4 k) all_nil) fun x=>by kernel_rfl
end spec_EqualInts
namespace spec_EqualRules
def S:Sp:=⟨294,⟨[31,31],[4],[.bor,.bor],.own⟩,[.agg .lent kd24,.agg .lent kd24],[.B]⟩
theorem con (k:Nat):Con Tryz.prog S (f k):=con_fn (nt:=59) (live:=[]) (Λ:=noL) tok (all_cons (ok_con (spec_EqualInts.con k)) all_nil) mixed Tryz.func294 (by kernel_rfl) all_nil fun x=>by kernel_rfl
end spec_EqualRules
namespace spec_EqualGames
def S:Sp:=⟨217,⟨[33,33],[4],[.bor,.bor],.own⟩,[.agg .lent kd27,.agg .lent kd27],[.B]⟩
def live:List (Nat×List Nat):=[(4,[2,3,5]),(100004,[2,3,4])]
def G {R:Type} (k:Nat):Glob R:=mkG tt [spec_EqualInts.S.ent (spec_EqualInts.f k),spec_EqualRules.S.ent (spec_EqualRules.f k)] 72
def h4:Hd:=⟨[.l (.ptr 0 0),.l (.ptr 1 0),.I],[.box [.I,.I,.b,.b,.V,.V,.I,.I,.W,.V,.V,.I,.I,.I],.box [.I,.I,.b,.b,.V,.V,.I,.I,.W,.V,.V,.I,.I,.I]]⟩
def T4 {R:Type} (k:Nat) (K:X->St->Option R):h4.Fn (Option R):=fun v0 v1 v2 v3 v4 v5 v6 v7 v8 v9 v10 v11 v12 v13 v14 v15 v16 v17 v18 v19 v20 v21 v22 v23 v24 v25 v26 v27 v28=>l4 k v9 v23 (K .ret (stOf [2,3,4] [.one (.l (.bptr 0 0)),.one (.l (.bptr 1 0)),.one (.l (.b false))] [some (.box 0 [.i .i64 v1,.i .i64 v2,.b v3,.b v4,.val false (.ints .i64 v5),.val false (.ints .i64 v6),.i .i64 v7,.i .i64 v8,.val false (.rows false v9),.val false (.ints .i64 v10),.val false (.ints .i64 v11),.i .i64 v12,.i .i64 v13,.i .i64 v14]),some (.box 0 [.i .i64 v15,.i .i64 v16,.b v17,.b v18,.val false (.ints .i64 v19),.val false (.ints .i64 v20),.i .i64 v21,.i .i64 v22,.val false (.rows false v23),.val false (.ints .i64 v24),.val false (.ints .i64 v25),.i .i64 v26,.i .i64 v27,.i .i64 v28])])) (K (.exit 0) (stOf [2,3,4] [.one (.l (.bptr 0 0)),.one (.l (.bptr 1 0)),.one (.l (.any))] [some (.box 0 [.i .i64 v1,.i .i64 v2,.b v3,.b v4,.val false (.ints .i64 v5),.val false (.ints .i64 v6),.i .i64 v7,.i .i64 v8,.val false (.rows false v9),.val false (.ints .i64 v10),.val false (.ints .i64 v11),.i .i64 v12,.i .i64 v13,.i .i64 v14]),some (.box 0 [.i .i64 v15,.i .i64 v16,.b v17,.b v18,.val false (.ints .i64 v19),.val false (.ints .i64 v20),.i .i64 v21,.i .i64 v22,.val false (.rows false v23),.val false (.ints .i64 v24),.val false (.ints .i64 v25),.i .i64 v26,.i .i64 v27,.i .i64 v28])])) k v0
def tab {R:Type} (k:Nat):LTab R:=fun id K vs hs=>bif id==4 then h4.tell vs hs (T4 k K) else none
theorem fit4 {R:Type} (k:Nat):Fit (R:=R) (G k) live (tab k) (bl Tryz.f217 0):=h4.fit (key:=4) (by kernel_rfl) (T4 k) (fun _ _ _=>rfl) fun K r v0 v1 v2 v3 v4 v5 v6 v7 v8 v9 v10 v11 v12 v13 v14 v15 v16 v17 v18 v19 v20 v21 v22 v23 v24 v25 v26 v27 v28 h=>fit_mk h (fun a=>h4.mk' a v1 v2 v3 v4 v5 v6 v7 v8 v9 v10 v11 v12 v13 v14 v15 v16 v17 v18 v19 v20 v21 v22 v23 v24 v25 v26 v27 v28) (fun v0 _ _ _ _ _ _ _ _ _ _ _ _ _ _ _ _ _ _ _ _ _ _ _ _ _ _ _ _=>some v0) (by kernel_rfl) (fun _=>by kernel_rfl) fun Lp a=>by kernel_rfl
theorem con (k:Nat):Con Tryz.prog S (f k):=con_fn (nt:=72) (live:=live) (Λ:=tab k) tok (all_cons (ok_con (spec_EqualInts.con k)) (all_cons (ok_con (spec_EqualRules.con k)) all_nil)) mixed Tryz.func217 (by kernel_rfl) (all_cons (fit4 k) all_nil) fun x=>by kernel_rfl
end spec_EqualGames
namespace spec_IsCard
def S:Sp:=⟨190,⟨[3],[4],[.bor],.own⟩,[.I],[.B]⟩
theorem con (k:Nat):Con Tryz.prog S (f k):=con_fn (nt:=5) (live:=[]) (Λ:=noL) tok (all_cons (ok_con (spec_l1In.con k)) all_nil) mixed Tryz.func190 (by kernel_rfl) all_nil fun x=>by kernel_rfl
end spec_IsCard
namespace spec_HasCard
def S:Sp:=⟨272,⟨[22,3],[4],[.bor,.bor],.own⟩,[.V,.I],[.B]⟩
def live:List (Nat×List Nat):=[(2,[0,1,5]),(100002,[4])]
def G {R:Type} (k:Nat):Glob R:=mkG tt [] 18
def h2:Hd:=⟨[.V,.I,.I],[]⟩
def T2 {R:Type} (k:Nat) (K:X->St->Option R):h2.Fn (Option R):=fun v0 v1 v2=>l2 k v0 v1 (K .ret (stOf [4] [.one (.l (.b true))] [])) (K (.exit 0) (stOf [4] [.one (.l (.any))] [])) k v2
def tab {R:Type} (k:Nat):LTab R:=fun id K vs hs=>bif id==2 then h2.tell vs hs (T2 k K) else none
theorem fit2 {R:Type} (k:Nat):Fit (R:=R) (G k) live (tab k) (bl Tryz.f272 0):=h2.fit (key:=2) (by kernel_rfl) (T2 k) (fun _ _ _=>rfl) fun K r v0 v1 v2 h=>fit_mk h (fun a=>h2.mk' v0 v1 a) (fun _ _ v2=>some v2) (by kernel_rfl) (fun _=>by kernel_rfl) fun Lp a=>by kernel_rfl
theorem con (k:Nat):Con Tryz.prog S (f k):=con_fn (nt:=18) (live:=live) (Λ:=tab k) tok all_nil mixed Tryz.func272 (by kernel_rfl) (all_cons (fit2 k) all_nil) fun x=>by kernel_rfl
end spec_HasCard
namespace spec_IsHand
def S:Sp:=⟨231,⟨[22],[4],[.bor],.own⟩,[.V],[.B]⟩
def live:List (Nat×List Nat):=[(2,[0,3]),(100002,[2])]
def G {R:Type} (k:Nat):Glob R:=mkG tt [spec_IsCard.S.ent (spec_IsCard.f k),spec_HasCard.S.ent (spec_HasCard.f k)] 26
def h2:Hd:=⟨[.V,.I],[]⟩
def T2 {R:Type} (k:Nat) (K:X->St->Option R):h2.Fn (Option R):=fun v0 v1=>l2 k v0 (K .ret (stOf [2] [.one (.l (.b false))] [])) (K (.exit 0) (stOf [2] [.one (.l (.any))] [])) k v1
def tab {R:Type} (k:Nat):LTab R:=fun id K vs hs=>bif id==2 then h2.tell vs hs (T2 k K) else none
theorem fit2 {R:Type} (k:Nat):Fit (R:=R) (G k) live (tab k) (bl Tryz.f231 0):=h2.fit (key:=2) (by kernel_rfl) (T2 k) (fun _ _ _=>rfl) fun K r v0 v1 h=>fit_mk h (fun a=>h2.mk' v0 a) (fun _ v1=>some v1) (by kernel_rfl) (fun _=>by kernel_rfl) fun Lp a=>by kernel_rfl
theorem con (k:Nat):Con Tryz.prog S (f k):=con_fn (nt:=26) (live:=live) (Λ:=tab k) tok (all_cons (ok_con (spec_IsCard.con k)) (all_cons (ok_con (spec_HasCard.con k)) all_nil)) mixed Tryz.func231 (by kernel_rfl) (all_cons (fit2 k) all_nil) fun x=>by kernel_rfl
end spec_IsHand
namespace spec_Dealt
def S:Sp:=⟨295,⟨[22,3,3],[25,22,4],[.bor,.bor,.bor],.own⟩,[.V,.I,.I],[.l .own .rows,.l .own (.ints .i64),.B]⟩
def live:List (Nat×List Nat):=[(9,[0,1,2,9,10,11,12]),(100009,[0,1,2,6,7,8,9,10,11]),(5,[0,1,2,9,10]),(100005,[0,1,2,6,7,8,9])]
def G {R:Type} (k:Nat):Glob R:=mkG tt [spec_l1In.S.ent (spec_l1In.f k),spec_IsHand.S.ent (spec_IsHand.f k)] 73
def h9:Hd:=⟨[.V,.I,.I,.l (.own 0),.I,.l (.own 1),.I],[.W,.V]⟩
def T9 {R:Type} (k:Nat) (K:X->St->Option R):h9.Fn (Option R):=fun v0 v1 v2 v3 v4 v5 v6=>l9 k v0 v1 v2 v3 (fun p0=>K (.exit 2) (stOf [0,1,2,6,7,8,9,10,11] [.one (.l (.val false (.ints .i64 v0))),.one (.l (.i .i64 v1)),.one (.l (.i .i64 v2)),.one (.l (.any)),.one (.l (.any)),.one (.l (.any)),.one (.l (.own 0)),.one (.l (.i .i64 v3)),.one (.l (.own 1))] [some (.row 0 0 (.rows true v5)),some (.row 0 0 (.ints .i64 p0))])) k v4 v6
def h5:Hd:=⟨[.V,.I,.I,.l (.own 0),.I],[.W]⟩
def T5 {R:Type} (k:Nat) (K:X->St->Option R):h5.Fn (Option R):=fun v0 v1 v2 v3 v4=>l5 k v0 v1 v2 (fun p0=>K (.exit 0) (stOf [0,1,2,6,7,8,9] [.one (.l (.val false (.ints .i64 v0))),.one (.l (.i .i64 v1)),.one (.l (.i .i64 v2)),.one (.l (.any)),.one (.l (.any)),.one (.l (.any)),.one (.l (.own 0))] [some (.row 0 0 (.rows true p0))])) k v3 v4
def tab {R:Type} (k:Nat):LTab R:=fun id K vs hs=>bif id==9 then h9.tell vs hs (T9 k K) else bif id==5 then h5.tell vs hs (T5 k K) else none
theorem fit5 {R:Type} (k:Nat):Fit (R:=R) (G k) live (tab k) (bl Tryz.f295 0):=h5.fit (key:=5) (by kernel_rfl) (T5 k) (fun _ _ _=>rfl) fun K r v0 v1 v2 v3 v4 h=>fit_mk h (fun a=>h5.mk' v0 v1 v2 a.1 a.2) (fun _ _ _ v3 v4=>some (v3,v4)) (by kernel_rfl) (fun _=>by kernel_rfl) fun Lp a=>by kernel_rfl
theorem fit9 {R:Type} (k:Nat):Fit (R:=R) (G k) live (tab k) (bl Tryz.f295 1):=h9.fit (key:=9) (by kernel_rfl) (T9 k) (fun _ _ _=>rfl) fun K r v0 v1 v2 v3 v4 v5 v6 h=>fit_mk h (fun a=>h9.mk' v0 v1 v2 v3 a.1 v5 a.2) (fun _ _ _ _ v4 _ v6=>some (v4,v6)) (by kernel_rfl) (fun _=>by kernel_rfl) fun Lp a=>by kernel_rfl
theorem con (k:Nat):Con Tryz.prog S (f k):=con_fn (nt:=73) (live:=live) (Λ:=tab k) tok (all_cons (ok_con (spec_l1In.con k)) (all_cons (ok_con (spec_IsHand.con k)) all_nil)) mixed Tryz.func295 (by kernel_rfl) (all_cons (fit5 k) (all_cons (fit9 k) all_nil)) fun x=>by kernel_rfl
end spec_Dealt
namespace spec_NewGame
def S:Sp:=⟨218,⟨[31,22],[33,4],[.bor,.bor],.own⟩,[.agg .lent kd24,.V],[.agg .own kd27,.B]⟩
theorem con (k:Nat):Con Tryz.prog S (f k):=con_fn (nt:=45) (live:=[]) (Λ:=noL) tok (all_cons (ok_con (spec_l22Copy.con k)) (all_cons (ok_con (spec_IsRules.con k)) (all_cons (ok_con (spec_IsHand.con k)) (all_cons (ok_con (spec_Dealt.con k)) all_nil)))) mixed Tryz.func218 (by kernel_rfl) all_nil fun x=>by kernel_rfl
end spec_NewGame
namespace spec_IsGame
def S:Sp:=⟨144,⟨[33],[4],[.bor],.own⟩,[.agg .lent kd27],[.B]⟩
def live:List (Nat×List Nat):=[(5,[1,3,4]),(100005,[2,3])]
def G {R:Type} (k:Nat):Glob R:=mkG tt [spec_IsRules.S.ent (spec_IsRules.f k),spec_l1In.S.ent (spec_l1In.f k),spec_IsHand.S.ent (spec_IsHand.f k)] 79
def h5:Hd:=⟨[.l (.ptr 0 0),.l (.own 1),.I],[.box [.I,.I,.b,.b,.V,.V,.I,.I,.W,.V,.V,.I,.I,.I],.V]⟩
def T5 {R:Type} (k:Nat) (K:X->St->Option R):h5.Fn (Option R):=fun v0 _ _ _ _ _ _ _ _ v9 _ _ _ _ _ v15=>l5 k v9 (fun p0=>K (.exit 0) (stOf [2,3] [.one (.l (.any)),.one (.l (.own 0))] [some (.row 0 0 (.ints .i64 p0))])) k v0 v15
def tab {R:Type} (k:Nat):LTab R:=fun id K vs hs=>bif id==5 then h5.tell vs hs (T5 k K) else none
theorem fit5 {R:Type} (k:Nat):Fit (R:=R) (G k) live (tab k) (bl Tryz.f144 0):=h5.fit (key:=5) (by kernel_rfl) (T5 k) (fun _ _ _=>rfl) fun K r v0 v1 v2 v3 v4 v5 v6 v7 v8 v9 v10 v11 v12 v13 v14 v15 h=>fit_mk h (fun a=>h5.mk' a.1 v1 v2 v3 v4 v5 v6 v7 v8 v9 v10 v11 v12 v13 v14 a.2) (fun v0 _ _ _ _ _ _ _ _ _ _ _ _ _ _ v15=>some (v0,v15)) (by kernel_rfl) (fun _=>by kernel_rfl) fun Lp a=>by kernel_rfl
theorem con (k:Nat):Con Tryz.prog S (f k):=con_fn (nt:=79) (live:=live) (Λ:=tab k) tok (all_cons (ok_con (spec_IsRules.con k)) (all_cons (ok_con (spec_l1In.con k)) (all_cons (ok_con (spec_IsHand.con k)) all_nil))) mixed Tryz.func144 (by kernel_rfl) (all_cons (fit5 k) all_nil) fun x=>by kernel_rfl
end spec_IsGame
namespace spec_l24First
def S:Sp:=⟨232,⟨[33],[3],[.bor],.own⟩,[.agg .lent kd27],[.O]⟩
def live:List (Nat×List Nat):=[(2,[1,3]),(100002,[2])]
def G {R:Type} (k:Nat):Glob R:=mkG tt [] 19
def h2:Hd:=⟨[.l (.ptr 0 0),.I],[.box [.I,.I,.b,.b,.V,.V,.I,.I,.W,.V,.V,.I,.I,.I]]⟩
def T2 {R:Type} (k:Nat) (K:X->St->Option R):h2.Fn (Option R):=fun v0 _ _ _ _ _ _ _ _ v9 _ _ _ _ _=>l2 k v9 (fun p0=>K .ret (stOf [2] [.one (.l (.i .i64 p0))] [])) (K (.exit 0) (stOf [2] [.one (.l (.any))] [])) k v0
def tab {R:Type} (k:Nat):LTab R:=fun id K vs hs=>bif id==2 then h2.tell vs hs (T2 k K) else none
theorem fit2 {R:Type} (k:Nat):Fit (R:=R) (G k) live (tab k) (bl Tryz.f232 0):=h2.fit (key:=2) (by kernel_rfl) (T2 k) (fun _ _ _=>rfl) fun K r v0 v1 v2 v3 v4 v5 v6 v7 v8 v9 v10 v11 v12 v13 v14 h=>fit_mk h (fun a=>h2.mk' a v1 v2 v3 v4 v5 v6 v7 v8 v9 v10 v11 v12 v13 v14) (fun v0 _ _ _ _ _ _ _ _ _ _ _ _ _ _=>some v0) (by kernel_rfl) (fun _=>by kernel_rfl) fun Lp a=>by kernel_rfl
theorem con (k:Nat):Con Tryz.prog S (f k):=con_fn (nt:=19) (live:=live) (Λ:=tab k) tok all_nil mixed Tryz.func232 (by kernel_rfl) (all_cons (fit2 k) all_nil) fun x=>by kernel_rfl
end spec_l24First
namespace spec_l24Over
def S:Sp:=⟨145,⟨[33],[4],[.bor],.own⟩,[.agg .lent kd27],[.B]⟩
theorem con (k:Nat):Con Tryz.prog S (f k):=con_fn (nt:=22) (live:=[]) (Λ:=noL) tok (all_cons (ok_con (spec_l24First.con k)) all_nil) mixed Tryz.func145 (by kernel_rfl) all_nil fun x=>by kernel_rfl
end spec_l24Over
namespace spec_TakeCards
def S:Sp:=⟨319,⟨[33],[33,4],[.bor],.own⟩,[.agg .lent kd27],[.agg .own kd27,.B]⟩
def live:List (Nat×List Nat):=[(6,[1,2,4,5,6]),(100006,[1,2,3,4,5])]
def G {R:Type} (k:Nat):Glob R:=mkG tt [spec_l24Copy.S.ent (spec_l24Copy.f k),spec_IsGame.S.ent (spec_IsGame.f k),spec_l24Over.S.ent (spec_l24Over.f k)] 97
def h6:Hd:=⟨[.l (.ptr 0 0),.l (.ptr 1 0),.l (.ptr 2 0),.I,.I],[.box [.I,.I,.b,.b,.V,.V,.I,.I,.W,.V,.V,.I,.I,.I],.box [.I,.I,.bc false,.bc false,.nil,.nil,.I,.I,.nil,.nil,.nil,.I,.I,.I],.box [.I,.I,.b,.b,.own 3,.own 4,.I,.I,.own 5,.own 6,.own 7,.I,.I,.I],.V,.V,.W,.V,.V]⟩
def T6 {R:Type} (k:Nat) (K:X->St->Option R):h6.Fn (Option R):=fun v0 v1 v2 v3 v4 v5 v6 v7 v8 v9 v10 v11 v12 v13 v14 v15 v16 v17 v20 v21 v22 v23 v24 v25 v26 v27 v28 v29 v30 v31 v32 v33 v34 v35 v36 v37 v38=>l6 k v8 v13 (fun p0 p1 p2 p3=>K (.exit 0) (stOf [1,2,3,4,5] [.one (.l (.bptr 0 0)),.one (.l (.bptr 1 0)),.one (.l (.any)),.one (.l (.bptr 2 0)),.one (.l (.i .i64 p0))] [some (.box 0 [.i .i64 v2,.i .i64 v3,.b v4,.b v5,.val false (.ints .i64 v6),.val false (.ints .i64 v7),.i .i64 v8,.i .i64 v9,.val false (.rows false v10),.val false (.ints .i64 v11),.val false (.ints .i64 v12),.i .i64 v13,.i .i64 v14,.i .i64 v15]),some (.box 0 [.i .i64 v16,.i .i64 v17,.b false,.b false,.nil,.nil,.i .i64 v20,.i .i64 v21,.nil,.nil,.nil,.i .i64 v22,.i .i64 v23,.i .i64 v24]),some (.box 0 [.i .i64 v25,.i .i64 v26,.b v27,.b v28,.own 3,.own 4,.i .i64 v29,.i .i64 v30,.own 5,.own 6,.own 7,.i .i64 v31,.i .i64 v32,.i .i64 v33]),some (.row 0 0 (.ints .i64 v34)),some (.row 0 0 (.ints .i64 v35)),some (.row 0 0 (.rows true p1)),some (.row 0 0 (.ints .i64 p2)),some (.row 0 0 (.ints .i64 p3))])) k v0 v1 v36 v37 v38
def tab {R:Type} (k:Nat):LTab R:=fun id K vs hs=>bif id==6 then h6.tell vs hs (T6 k K) else none
theorem fit6 {R:Type} (k:Nat):Fit (R:=R) (G k) live (tab k) (bl Tryz.f319 0):=h6.fit (key:=6) (by kernel_rfl) (T6 k) (fun _ _ _=>rfl) fun K r v0 v1 v2 v3 v4 v5 v6 v7 v8 v9 v10 v11 v12 v13 v14 v15 v16 v17 v20 v21 v22 v23 v24 v25 v26 v27 v28 v29 v30 v31 v32 v33 v34 v35 v36 v37 v38 h=>fit_mk h (fun a=>h6.mk' a.1 a.2.1 v2 v3 v4 v5 v6 v7 v8 v9 v10 v11 v12 v13 v14 v15 v16 v17 v20 v21 v22 v23 v24 v25 v26 v27 v28 v29 v30 v31 v32 v33 v34 v35 (t2 a).1 (t3 a).1 (t4 a)) (fun v0 v1 _ _ _ _ _ _ _ _ _ _ _ _ _ _ _ _ _ _ _ _ _ _ _ _ _ _ _ _ _ _ _ _ v36 v37 v38=>some (v0,v1,v36,v37,v38)) (by kernel_rfl) (fun _=>by kernel_rfl) fun Lp a=>by kernel_rfl
theorem con (k:Nat):Con Tryz.prog S (f k):=con_fn (nt:=97) (live:=live) (Λ:=tab k) tok (all_cons (ok_con (spec_l24Copy.con k)) (all_cons (ok_con (spec_IsGame.con k)) (all_cons (ok_con (spec_l24Over.con k)) all_nil))) mixed Tryz.func319 (by kernel_rfl) (all_cons (fit6 k) all_nil) fun x=>by kernel_rfl
end spec_TakeCards
namespace spec_Sorted
def S:Sp:=⟨146,⟨[22],[22],[.bor],.own⟩,[.V],[.l .own (.ints .i64)]⟩
def live:List (Nat×List Nat):=[(6,[0,3,4,5]),(100006,[0,2,3,4,5]),(3,[0,3,4]),(100003,[2,3])]
def G {R:Type} (k:Nat):Glob R:=mkG tt [] 47
def h6:Hd:=⟨[.V,.l (.own 0),.I,.I],[.V]⟩
def T6 {R:Type} (k:Nat) (K:X->St->Option R):h6.Fn (Option R):=fun v0 v1 v2 v3=>l6 k v0 v1 v3 (fun p0=>K (.exit 2) (stOf [0,2,3,4,5] [.one (.l (.val false (.ints .i64 v0))),.one (.l (.any)),.one (.l (.own 0)),.one (.l (.i .i64 v1)),.one (.l (.i .i64 p0))] [some (.row 0 0 (.ints .i64 v3))])) k v2
def h3:Hd:=⟨[.V,.l (.own 0),.I],[.V]⟩
def T3 {R:Type} (k:Nat) (K:X->St->Option R):h3.Fn (Option R):=fun v0 v1 v2=>l3 k v0 (fun p0=>K (.exit 0) (stOf [2,3] [.one (.l (.any)),.one (.l (.own 0))] [some (.row 0 0 (.ints .i64 p0))])) k v1 v2
def tab {R:Type} (k:Nat):LTab R:=fun id K vs hs=>bif id==6 then h6.tell vs hs (T6 k K) else bif id==3 then h3.tell vs hs (T3 k K) else none
theorem fit3 {R:Type} (k:Nat):Fit (R:=R) (G k) live (tab k) (bl Tryz.f146 0):=h3.fit (key:=3) (by kernel_rfl) (T3 k) (fun _ _ _=>rfl) fun K r v0 v1 v2 h=>fit_mk h (fun a=>h3.mk' v0 a.1 a.2) (fun _ v1 v2=>some (v1,v2)) (by kernel_rfl) (fun _=>by kernel_rfl) fun Lp a=>by kernel_rfl
theorem fit6 {R:Type} (k:Nat):Fit (R:=R) (G k) live (tab k) (bl Tryz.f146 1):=h6.fit (key:=6) (by kernel_rfl) (T6 k) (fun _ _ _=>rfl) fun K r v0 v1 v2 v3 h=>fit_mk h (fun a=>h6.mk' v0 v1 a v3) (fun _ _ v2 _=>some v2) (by kernel_rfl) (fun _=>by kernel_rfl) fun Lp a=>by kernel_rfl
theorem con (k:Nat):Con Tryz.prog S (f k):=con_fn (nt:=47) (live:=live) (Λ:=tab k) tok all_nil mixed Tryz.func146 (by kernel_rfl) (all_cons (fit3 k) (all_cons (fit6 k) all_nil)) fun x=>by kernel_rfl
end spec_Sorted
namespace spec_SuitOf
def S:Sp:=⟨233,⟨[3],[3],[.bor],.own⟩,[.I],[.O]⟩
theorem con (k:Nat):Con Tryz.prog S (f k):=con_fn (nt:=8) (live:=[]) (Λ:=noL) tok (all_cons (ok_con (spec_IsCard.con k)) all_nil) mixed Tryz.func233 (by kernel_rfl) all_nil fun x=>by kernel_rfl
end spec_SuitOf
namespace spec_RankOf
def S:Sp:=⟨234,⟨[3],[3],[.bor],.own⟩,[.I],[.O]⟩
theorem con (k:Nat):Con Tryz.prog S (f k):=con_fn (nt:=8) (live:=[]) (Λ:=noL) tok (all_cons (ok_con (spec_IsCard.con k)) all_nil) mixed Tryz.func234 (by kernel_rfl) all_nil fun x=>by kernel_rfl
end spec_RankOf
namespace spec_IsRed
def S:Sp:=⟨340,⟨[3],[4],[.bor],.own⟩,[.I],[.B]⟩
theorem con (k:Nat):Con Tryz.prog S (f k):=con_fn (nt:=6) (live:=[]) (Λ:=noL) tok (all_cons (ok_con (spec_l1In.con k)) (all_cons (ok_con (spec_SuitOf.con k)) all_nil)) mixed Tryz.func340 (by kernel_rfl) all_nil fun x=>by kernel_rfl
end spec_IsRed
namespace spec_l8Value
def S:Sp:=⟨303,⟨[3,3],[4],[.bor,.bor],.own⟩,[.I,.I],[.B]⟩
theorem con (k:Nat):Con Tryz.prog S (f k):=con_fn (nt:=31) (live:=[]) (Λ:=noL) tok (all_cons (ok_con (spec_SuitOf.con k)) (all_cons (ok_con (spec_RankOf.con k)) (all_cons (ok_con (spec_IsRed.con k)) all_nil))) mixed Tryz.func303 (by kernel_rfl) all_nil fun x=>by kernel_rfl
end spec_l8Value
namespace spec_Matches
def S:Sp:=⟨235,⟨[22,3],[4],[.bor,.bor],.own⟩,[.V,.I],[.B]⟩
def live:List (Nat×List Nat):=[(5,[0,1,5,6]),(100005,[4,5])]
def G {R:Type} (k:Nat):Glob R:=mkG tt [spec_IsCard.S.ent (spec_IsCard.f k),spec_IsPattern.S.ent (spec_IsPattern.f k),spec_l8Value.S.ent (spec_l8Value.f k)] 93
def h5:Hd:=⟨[.V,.I,.l (.own 0),.I],[.row false .bools]⟩
def T5 {R:Type} (k:Nat) (K:X->St->Option R):h5.Fn (Option R):=fun v0 v1 v2 v3=>l5 k v0 v1 (fun p0=>K (.exit 0) (stOf [4,5] [.one (.l (.any)),.one (.l (.own 0))] [some (.row 0 0 (.bools p0))])) k v2 v3
def tab {R:Type} (k:Nat):LTab R:=fun id K vs hs=>bif id==5 then h5.tell vs hs (T5 k K) else none
theorem fit5 {R:Type} (k:Nat):Fit (R:=R) (G k) live (tab k) (bl Tryz.f235 0):=h5.fit (key:=5) (by kernel_rfl) (T5 k) (fun _ _ _=>rfl) fun K r v0 v1 v2 v3 h=>fit_mk h (fun a=>h5.mk' v0 v1 a.1 a.2) (fun _ _ v2 v3=>some (v2,v3)) (by kernel_rfl) (fun _=>by kernel_rfl) fun Lp a=>by kernel_rfl
theorem con (k:Nat):Con Tryz.prog S (f k):=con_fn (nt:=93) (live:=live) (Λ:=tab k) tok (all_cons (ok_con (spec_IsCard.con k)) (all_cons (ok_con (spec_IsPattern.con k)) (all_cons (ok_con (spec_l8Value.con k)) all_nil))) mixed Tryz.func235 (by kernel_rfl) (all_cons (fit5 k) all_nil) fun x=>by kernel_rfl
end spec_Matches
namespace spec_FitsOn
def S:Sp:=⟨147,⟨[31,3,3],[4],[.bor,.bor,.bor],.own⟩,[.agg .lent kd24,.I,.I],[.B]⟩
theorem con (k:Nat):Con Tryz.prog S (f k):=con_fn (nt:=46) (live:=[]) (Λ:=noL) tok (all_cons (ok_con (spec_IsRules.con k)) (all_cons (ok_con (spec_IsCard.con k)) (all_cons (ok_con (spec_SuitOf.con k)) (all_cons (ok_con (spec_RankOf.con k)) (all_cons (ok_con (spec_Matches.con k)) all_nil))))) mixed Tryz.func147 (by kernel_rfl) all_nil fun x=>by kernel_rfl
end spec_FitsOn
namespace spec_Playable
def S:Sp:=⟨77,⟨[33],[22],[.bor],.own⟩,[.agg .lent kd27],[.l .own (.ints .i64)]⟩
def live:List (Nat×List Nat):=[(6,[1,3,4,5]),(100006,[2,3])]
def G {R:Type} (k:Nat):Glob R:=mkG tt [spec_IsGame.S.ent (spec_IsGame.f k),spec_l24Over.S.ent (spec_l24Over.f k),spec_Sorted.S.ent (spec_Sorted.f k),spec_FitsOn.S.ent (spec_FitsOn.f k)] 51
def h6:Hd:=⟨[.l (.ptr 0 0),.l (.own 1),.l (.own 2),.I],[.box [.I,.I,.b,.b,.V,.V,.I,.I,.W,.V,.V,.I,.I,.I],.V,.V]⟩
def T6 {R:Type} (k:Nat) (K:X->St->Option R):h6.Fn (Option R):=fun v0 v1 v2 v3 v4 v5 v6 v7 v8 _ _ v11 _ _ _ v15 v16=>l6 k v1 v2 v3 v4 v5 v6 v7 v8 v11 v16 (fun p0=>K (.exit 0) (stOf [2,3] [.one (.l (.any)),.one (.l (.own 0))] [some (.row 0 0 (.ints .i64 p0))])) k v0 v15
def tab {R:Type} (k:Nat):LTab R:=fun id K vs hs=>bif id==6 then h6.tell vs hs (T6 k K) else none
theorem fit6 {R:Type} (k:Nat):Fit (R:=R) (G k) live (tab k) (bl Tryz.f77 0):=h6.fit (key:=6) (by kernel_rfl) (T6 k) (fun _ _ _=>rfl) fun K r v0 v1 v2 v3 v4 v5 v6 v7 v8 v9 v10 v11 v12 v13 v14 v15 v16 h=>fit_mk h (fun a=>h6.mk' a.1 v1 v2 v3 v4 v5 v6 v7 v8 v9 v10 v11 v12 v13 v14 a.2 v16) (fun v0 _ _ _ _ _ _ _ _ _ _ _ _ _ _ v15 _=>some (v0,v15)) (by kernel_rfl) (fun _=>by kernel_rfl) fun Lp a=>by kernel_rfl
theorem con (k:Nat):Con Tryz.prog S (f k):=con_fn (nt:=51) (live:=live) (Λ:=tab k) tok (all_cons (ok_con (spec_IsGame.con k)) (all_cons (ok_con (spec_l24Over.con k)) (all_cons (ok_con (spec_Sorted.con k)) (all_cons (ok_con (spec_FitsOn.con k)) all_nil)))) mixed Tryz.func77 (by kernel_rfl) (all_cons (fit6 k) all_nil) fun x=>by kernel_rfl
end spec_Playable
namespace spec_Without
def S:Sp:=⟨274,⟨[22,3],[22],[.bor,.bor],.own⟩,[.V,.I],[.l .own (.ints .i64)]⟩
def live:List (Nat×List Nat):=[(3,[0,1,5,6]),(100003,[4,5])]
def G {R:Type} (k:Nat):Glob R:=mkG tt [] 28
def h3:Hd:=⟨[.V,.I,.l (.own 0),.I],[.V]⟩
def T3 {R:Type} (k:Nat) (K:X->St->Option R):h3.Fn (Option R):=fun v0 v1 v2 v3=>l3 k v0 v1 (fun p0=>K (.exit 0) (stOf [4,5] [.one (.l (.any)),.one (.l (.own 0))] [some (.row 0 0 (.ints .i64 p0))])) k v2 v3
def tab {R:Type} (k:Nat):LTab R:=fun id K vs hs=>bif id==3 then h3.tell vs hs (T3 k K) else none
theorem fit3 {R:Type} (k:Nat):Fit (R:=R) (G k) live (tab k) (bl Tryz.f274 0):=h3.fit (key:=3) (by kernel_rfl) (T3 k) (fun _ _ _=>rfl) fun K r v0 v1 v2 v3 h=>fit_mk h (fun a=>h3.mk' v0 v1 a.1 a.2) (fun _ _ v2 v3=>some (v2,v3)) (by kernel_rfl) (fun _=>by kernel_rfl) fun Lp a=>by kernel_rfl
theorem con (k:Nat):Con Tryz.prog S (f k):=con_fn (nt:=28) (live:=live) (Λ:=tab k) tok all_nil mixed Tryz.func274 (by kernel_rfl) (all_cons (fit3 k) all_nil) fun x=>by kernel_rfl
end spec_Without
namespace spec_DoesSkip
def S:Sp:=⟨347,⟨[31,3],[4],[.bor,.bor],.own⟩,[.agg .lent kd24,.I],[.B]⟩
theorem con (k:Nat):Con Tryz.prog S (f k):=con_fn (nt:=13) (live:=[]) (Λ:=noL) tok (all_cons (ok_con (spec_IsRules.con k)) (all_cons (ok_con (spec_Matches.con k)) all_nil)) mixed Tryz.func347 (by kernel_rfl) all_nil fun x=>by kernel_rfl
end spec_DoesSkip
namespace spec_PlayOn
def S:Sp:=⟨320,⟨[33,3],[33,4],[.bor,.bor],.own⟩,[.agg .lent kd27,.I],[.agg .own kd27,.B]⟩
theorem con (k:Nat):Con Tryz.prog S (f k):=con_fn (nt:=54) (live:=[]) (Λ:=noL) tok (all_cons (ok_con (spec_Playable.con k)) (all_cons (ok_con (spec_l24Copy.con k)) (all_cons (ok_con (spec_HasCard.con k)) (all_cons (ok_con (spec_Without.con k)) (all_cons (ok_con (spec_DoesSkip.con k)) all_nil))))) mixed Tryz.func320 (by kernel_rfl) all_nil fun x=>by kernel_rfl
end spec_PlayOn
namespace spec_ReplayMove
def S:Sp:=⟨269,⟨[33,3],[33,4],[.bor,.bor],.own⟩,[.agg .lent kd27,.I],[.agg .own kd27,.B]⟩
theorem con (k:Nat):Con Tryz.prog S (f k):=con_fn (nt:=17) (live:=[]) (Λ:=noL) tok (all_cons (ok_con (spec_TakeCards.con k)) (all_cons (ok_con (spec_PlayOn.con k)) all_nil)) mixed Tryz.func269 (by kernel_rfl) all_nil fun x=>by kernel_rfl
end spec_ReplayMove
namespace spec_Replayed
def S:Sp:=⟨219,⟨[33,22],[33,3],[.bor,.bor],.own⟩,[.agg .lent kd27,.V],[.agg .own kd27,.O]⟩
def live:List (Nat×List Nat):=[(3,[1,4,6,7]),(100003,[1,4,5,6])]
def G {R:Type} (k:Nat):Glob R:=mkG tt [spec_l24Copy.S.ent (spec_l24Copy.f k),spec_ReplayMove.S.ent (spec_ReplayMove.f k)] 35
def h3:Hd:=⟨[.V,.l (.ptr 0 0),.l (.ptr 1 0),.I],[.box [.I,.I,.bc false,.bc false,.nil,.nil,.I,.I,.nil,.nil,.nil,.I,.I,.I],.box [.I,.I,.b,.b,.own 2,.own 3,.I,.I,.own 4,.own 5,.own 6,.I,.I,.I],.V,.V,.W,.V,.V]⟩
def T3 {R:Type} (k:Nat) (K:X->St->Option R):h3.Fn (Option R):=fun v0 v1 v2 v3 v6 v7 v8 v9 v10 v11 v12 v13 v14 v15 v16 v17 v18 v19 v20 v21 v22 v23 v24=>l3 k v0 (fun p0 p1 p2 p3 p4 p5 p6 p7 p8 p9 p10 p11 p12 p13 p14=>K .ret (stOf [1,4,5,6] [.one (.l (.val false (.ints .i64 v0))),.one (.l (.bptr 0 0)),.one (.l (.i .i64 p0)),.one (.l (.bptr 6 0))] [some (.box 0 [.i .i64 p1,.i .i64 p2,.b p3,.b p4,.own 1,.own 2,.i .i64 p5,.i .i64 p6,.own 3,.own 4,.own 5,.i .i64 p7,.i .i64 p8,.i .i64 p9]),some (.row 0 0 (.ints .i64 p10)),some (.row 0 0 (.ints .i64 p11)),some (.row 0 0 (.rows true p12)),some (.row 0 0 (.ints .i64 p13)),some (.row 0 0 (.ints .i64 p14)),some (.box 0 [.i .i64 p1,.i .i64 p2,.b p3,.b p4,.own 1,.own 2,.i .i64 p5,.i .i64 p6,.own 3,.own 4,.own 5,.i .i64 p7,.i .i64 p8,.i .i64 p9])])) (fun p0 p1 p2 p3 p4 p5 p6 p7 p8 p9 p10 p11 p12 p13=>K (.exit 0) (stOf [1,4,5,6] [.one (.l (.val false (.ints .i64 v0))),.one (.l (.bptr 0 0)),.one (.l (.any)),.one (.l (.bptr 1 0))] [some (.box 0 [.i .i64 v2,.i .i64 v3,.b false,.b false,.nil,.nil,.i .i64 v6,.i .i64 v7,.nil,.nil,.nil,.i .i64 v8,.i .i64 v9,.i .i64 v10]),some (.box 0 [.i .i64 p0,.i .i64 p1,.b p2,.b p3,.own 2,.own 3,.i .i64 p4,.i .i64 p5,.own 4,.own 5,.own 6,.i .i64 p6,.i .i64 p7,.i .i64 p8]),some (.row 0 0 (.ints .i64 p9)),some (.row 0 0 (.ints .i64 p10)),some (.row 0 0 (.rows true p11)),some (.row 0 0 (.ints .i64 p12)),some (.row 0 0 (.ints .i64 p13))])) k v1 v11 v12 v13 v14 v15 v16 v17 v18 v19 v20 v21 v22 v23 v24
def tab {R:Type} (k:Nat):LTab R:=fun id K vs hs=>bif id==3 then h3.tell vs hs (T3 k K) else none
theorem fit3 {R:Type} (k:Nat):Fit (R:=R) (G k) live (tab k) (bl Tryz.f219 0):=h3.fit (key:=3) (by kernel_rfl) (T3 k) (fun _ _ _=>rfl) fun K r v0 v1 v2 v3 v6 v7 v8 v9 v10 v11 v12 v13 v14 v15 v16 v17 v18 v19 v20 v21 v22 v23 v24 h=>fit_mk h (fun a=>h3.mk' v0 a.1 v2 v3 v6 v7 v8 v9 v10 a.2.1 (t2 a).1 (t3 a).1 (t4 a).1 (t5 a).1 (t6 a).1 (t7 a).1 (t8 a).1 (t9 a).1 (t9 a.2).1 (t9 (t2 a)).1 (t9 (t3 a)).1 (t9 (t4 a)).1 (t9 (t5 a))) (fun _ v1 _ _ _ _ _ _ _ v11 v12 v13 v14 v15 v16 v17 v18 v19 v20 v21 v22 v23 v24=>some (v1,v11,v12,v13,v14,v15,v16,v17,v18,v19,v20,v21,v22,v23,v24)) (by kernel_rfl) (fun _=>by kernel_rfl) fun Lp a=>by kernel_rfl
theorem con (k:Nat):Con Tryz.prog S (f k):=con_fn (nt:=35) (live:=live) (Λ:=tab k) tok (all_cons (ok_con (spec_l24Copy.con k)) (all_cons (ok_con (spec_ReplayMove.con k)) all_nil)) mixed Tryz.func219 (by kernel_rfl) (all_cons (fit3 k) all_nil) fun x=>by kernel_rfl
end spec_Replayed
namespace spec_IsTable
def S:Sp:=⟨124,⟨[35],[4],[.bor],.own⟩,[.agg .lent kd29],[.B]⟩
theorem con (k:Nat):Con Tryz.prog S (f k):=con_fn (nt:=86) (live:=[]) (Λ:=noL) tok (all_cons (ok_con (spec_IsRules.con k)) (all_cons (ok_con (spec_IsSheet.con k)) (all_cons (ok_con (spec_EqualGames.con k)) (all_cons (ok_con (spec_NewGame.con k)) (all_cons (ok_con (spec_Replayed.con k)) all_nil))))) mixed Tryz.func124 (by kernel_rfl) all_nil fun x=>by kernel_rfl
end spec_IsTable
namespace spec_l34Done
def S:Sp:=⟨45,⟨[35,35,4],[35,4],[.bor,.mov,.bor],.own⟩,[.agg .lent kd29,.agg .own kd29,.l .lent .bool],[.agg .own kd29,.B]⟩
theorem con (k:Nat):Con Tryz.prog S (f k):=con_fn (nt:=23) (live:=[]) (Λ:=noL) tok (all_cons (ok_con (spec_l33Copy.con k)) (all_cons (ok_con (spec_IsTable.con k)) all_nil)) mixed Tryz.func45 (by kernel_rfl) all_nil fun x=>by kernel_rfl
end spec_l34Done
namespace spec_StepRules
def S:Sp:=⟨9,⟨[35,9],[35,4],[.bor,.bor],.own⟩,[.agg .lent kd29,.l .lent .str],[.agg .own kd29,.B]⟩
theorem con (k:Nat):Con Tryz.prog S (f k):=con_fn (nt:=37) (live:=[]) (Λ:=noL) tok (all_cons (ok_con (spec_l33Copy.con k)) (all_cons (ok_con (spec_ParseRules.con k)) (all_cons (ok_con (spec_l34Done.con k)) all_nil))) mixed Tryz.func9 (by kernel_rfl) all_nil fun x=>by kernel_rfl
end spec_StepRules
namespace laws_toIntS
def S:Sp:=⟨47,⟨[22],[22],[.bor],.own⟩,[.V],[.l .own (.ints .i64)]⟩
def live:List (Nat×List Nat):=[(3,[0,3,4]),(100003,[2,3])]
def G {R:Type} (k:Nat):Glob R:=mkG tt [] 22
def h3:Hd:=⟨[.V,.l (.own 0),.I],[.V]⟩
def T3 {R:Type} (k:Nat) (K:X->St->Option R):h3.Fn (Option R):=fun v0 v1 v2=>l3 k v0 (fun p0=>K (.exit 0) (stOf [2,3] [.one (.l (.any)),.one (.l (.own 0))] [some (.row 0 0 (.ints .i64 p0))])) k v1 v2
def tab {R:Type} (k:Nat):LTab R:=fun id K vs hs=>bif id==3 then h3.tell vs hs (T3 k K) else none
theorem fit3 {R:Type} (k:Nat):Fit (R:=R) (G k) live (tab k) (bl Tryz.f47 0):=h3.fit (key:=3) (by kernel_rfl) (T3 k) (fun _ _ _=>rfl) fun K r v0 v1 v2 h=>fit_mk h (fun a=>h3.mk' v0 a.1 a.2) (fun _ v1 v2=>some (v1,v2)) (by kernel_rfl) (fun _=>by kernel_rfl) fun Lp a=>by kernel_rfl
theorem con (k:Nat):Con Tryz.prog S (f k):=con_fn (nt:=22) (live:=live) (Λ:=tab k) tok all_nil mixed Tryz.func47 (by kernel_rfl) (all_cons (fit3 k) all_nil) fun x=>by kernel_rfl
end laws_toIntS
namespace laws_toRules
def S:Sp:=⟨46,⟨[24],[31],[.bor],.own⟩,[.agg .lent kd24],[.agg .own kd24]⟩
theorem con (k:Nat):Con Tryz.prog S (f k):=con_fn (nt:=31) (live:=[]) (Λ:=noL) tok (all_cons (ok_con (laws_toIntS.con k)) all_nil) mixed Tryz.func46 (by kernel_rfl) all_nil fun x=>by kernel_rfl
end laws_toRules
namespace laws_toIntSS
def S:Sp:=⟨49,⟨[25],[25],[.bor],.own⟩,[.l .lent .rows],[.l .own .rows]⟩
def live:List (Nat×List Nat):=[(3,[0,3,4]),(100003,[2,3])]
def G {R:Type} (k:Nat):Glob R:=mkG tt [laws_toIntS.S.ent (laws_toIntS.f k)] 23
def h3:Hd:=⟨[.W,.l (.own 0),.I],[.W]⟩
def T3 {R:Type} (k:Nat) (K:X->St->Option R):h3.Fn (Option R):=fun v0 v1 v2=>l3 k v0 (fun p0=>K (.exit 0) (stOf [2,3] [.one (.l (.any)),.one (.l (.own 0))] [some (.row 0 0 (.rows true p0))])) k v1 v2
def tab {R:Type} (k:Nat):LTab R:=fun id K vs hs=>bif id==3 then h3.tell vs hs (T3 k K) else none
theorem fit3 {R:Type} (k:Nat):Fit (R:=R) (G k) live (tab k) (bl Tryz.f49 0):=h3.fit (key:=3) (by kernel_rfl) (T3 k) (fun _ _ _=>rfl) fun K r v0 v1 v2 h=>fit_mk h (fun a=>h3.mk' v0 a.1 a.2) (fun _ v1 v2=>some (v1,v2)) (by kernel_rfl) (fun _=>by kernel_rfl) fun Lp a=>by kernel_rfl
theorem con (k:Nat):Con Tryz.prog S (f k):=con_fn (nt:=23) (live:=live) (Λ:=tab k) tok (all_cons (ok_con (laws_toIntS.con k)) all_nil) mixed Tryz.func49 (by kernel_rfl) (all_cons (fit3 k) all_nil) fun x=>by kernel_rfl
end laws_toIntSS
namespace laws_toGame
def S:Sp:=⟨48,⟨[27],[33],[.bor],.own⟩,[.agg .lent kd27],[.agg .own kd27]⟩
theorem con (k:Nat):Con Tryz.prog S (f k):=con_fn (nt:=30) (live:=[]) (Λ:=noL) tok (all_cons (ok_con (laws_toRules.con k)) (all_cons (ok_con (laws_toIntS.con k)) (all_cons (ok_con (laws_toIntSS.con k)) all_nil))) mixed Tryz.func48 (by kernel_rfl) all_nil fun x=>by kernel_rfl
end laws_toGame
namespace laws_toTable
def S:Sp:=⟨10,⟨[29],[35],[.bor],.own⟩,[.agg .lent kd29],[.agg .own kd29]⟩
theorem con (k:Nat):Con Tryz.prog S (f k):=con_fn (nt:=32) (live:=[]) (Λ:=noL) tok (all_cons (ok_con (laws_toRules.con k)) (all_cons (ok_con (laws_toIntS.con k)) (all_cons (ok_con (laws_toGame.con k)) (all_cons (ok_con (laws_toIntSS.con k)) all_nil)))) mixed Tryz.func10 (by kernel_rfl) all_nil fun x=>by kernel_rfl
end laws_toTable
namespace impl_copyOf
def S:Sp:=⟨126,⟨[22],[22],[.bor],.own⟩,[.V],[.l .own (.ints .i64)]⟩
theorem con (k:Nat):Con Tryz.prog S (f k):=con_fn (nt:=6) (live:=[]) (Λ:=noL) tok all_nil mixed Tryz.func126 (by kernel_rfl) all_nil fun x=>by kernel_rfl
end impl_copyOf
namespace impl_Rules_copied
def S:Sp:=⟨125,⟨[31],[31],[.bor],.own⟩,[.agg .lent kd24],[.agg .own kd24]⟩
theorem con (k:Nat):Con Tryz.prog S (f k):=con_fn (nt:=12) (live:=[]) (Λ:=noL) tok (all_cons (ok_con (impl_copyOf.con k)) all_nil) mixed Tryz.func125 (by kernel_rfl) all_nil fun x=>by kernel_rfl
end impl_Rules_copied
namespace impl_copyRows
def S:Sp:=⟨128,⟨[25],[25],[.bor],.own⟩,[.l .lent .rows],[.l .own .rows]⟩
def live:List (Nat×List Nat):=[(3,[3,7,8,9]),(100003,[2,3])]
def G {R:Type} (k:Nat):Glob R:=mkG tt [impl_copyOf.S.ent (impl_copyOf.f k)] 20
def h3:Hd:=⟨[.l (.own 0),.W,.I,.I],[.W]⟩
def T3 {R:Type} (k:Nat) (K:X->St->Option R):h3.Fn (Option R):=fun v0 v1 v2 v3=>l3 k v0 v1 (fun p0=>K (.exit 0) (stOf [2,3] [.one (.l (.any)),.one (.l (.own 0))] [some (.row 0 0 (.rows true p0))])) k v2 v3
def tab {R:Type} (k:Nat):LTab R:=fun id K vs hs=>bif id==3 then h3.tell vs hs (T3 k K) else none
theorem fit3 {R:Type} (k:Nat):Fit (R:=R) (G k) live (tab k) (bl Tryz.f128 0):=h3.fit (key:=3) (by kernel_rfl) (T3 k) (fun _ _ _=>rfl) fun K r v0 v1 v2 v3 h=>fit_mk h (fun a=>h3.mk' v0 v1 a.1 a.2) (fun _ _ v2 v3=>some (v2,v3)) (by kernel_rfl) (fun _=>by kernel_rfl) fun Lp a=>by kernel_rfl
theorem con (k:Nat):Con Tryz.prog S (f k):=con_fn (nt:=20) (live:=live) (Λ:=tab k) tok (all_cons (ok_con (impl_copyOf.con k)) all_nil) mixed Tryz.func128 (by kernel_rfl) (all_cons (fit3 k) all_nil) fun x=>by kernel_rfl
end impl_copyRows
namespace impl_Game_copied
def S:Sp:=⟨127,⟨[33],[33],[.bor],.own⟩,[.agg .lent kd27],[.agg .own kd27]⟩
theorem con (k:Nat):Con Tryz.prog S (f k):=con_fn (nt:=22) (live:=[]) (Λ:=noL) tok (all_cons (ok_con (impl_Rules_copied.con k)) (all_cons (ok_con (impl_copyOf.con k)) (all_cons (ok_con (impl_copyRows.con k)) all_nil))) mixed Tryz.func127 (by kernel_rfl) all_nil fun x=>by kernel_rfl
end impl_Game_copied
namespace impl_Table_copied
def S:Sp:=⟨50,⟨[35],[35],[.bor],.own⟩,[.agg .lent kd29],[.agg .own kd29]⟩
theorem con (k:Nat):Con Tryz.prog S (f k):=con_fn (nt:=24) (live:=[]) (Λ:=noL) tok (all_cons (ok_con (impl_Rules_copied.con k)) (all_cons (ok_con (impl_copyOf.con k)) (all_cons (ok_con (impl_Game_copied.con k)) (all_cons (ok_con (impl_copyRows.con k)) all_nil)))) mixed Tryz.func50 (by kernel_rfl) all_nil fun x=>by kernel_rfl
end impl_Table_copied
namespace impl_InRange
def S:Sp:=⟨148,⟨[3,3,3],[4],[.bor,.bor,.bor],.own⟩,[.I,.I,.I],[.B]⟩
theorem con (k:Nat):Con Tryz.prog S (f k):=con_fn (nt:=15) (live:=[]) (Λ:=noL) tok all_nil mixed Tryz.func148 (by kernel_rfl) all_nil fun x=>by kernel_rfl
end impl_InRange
namespace impl_isTest
def S:Sp:=⟨308,⟨[3],[4],[.bor],.own⟩,[.I],[.B]⟩
theorem con (k:Nat):Con Tryz.prog S (f k):=con_fn (nt:=17) (live:=[]) (Λ:=noL) tok (all_cons (ok_con (impl_InRange.con k)) all_nil) mixed Tryz.func308 (by kernel_rfl) all_nil fun x=>by kernel_rfl
end impl_isTest
namespace impl_IsPattern
def S:Sp:=⟨240,⟨[22],[4],[.bor],.own⟩,[.V],[.B]⟩
def live:List (Nat×List Nat):=[(3,[0,3,6,7,8]),(100003,[0,2,3])]
def G {R:Type} (k:Nat):Glob R:=mkG tt [impl_InRange.S.ent (impl_InRange.f k),impl_isTest.S.ent (impl_isTest.f k)] 45
def h3:Hd:=⟨[.V,.I,.V,.I,.I],[]⟩
def T3 {R:Type} (k:Nat) (K:X->St->Option R):h3.Fn (Option R):=fun v0 v1 v2 v3 v4=>l3 k v2 v3 (fun p0=>K .ret (stOf [0,2,3] [.one (.l (.val false (.ints .i64 v0))),.one (.l (.b false)),.one (.l (.i .i64 p0))] [])) (fun p0=>K (.exit 0) (stOf [0,2,3] [.one (.l (.val false (.ints .i64 v0))),.one (.l (.any)),.one (.l (.i .i64 p0))] [])) k v1 v4
def tab {R:Type} (k:Nat):LTab R:=fun id K vs hs=>bif id==3 then h3.tell vs hs (T3 k K) else none
theorem fit3 {R:Type} (k:Nat):Fit (R:=R) (G k) live (tab k) (bl Tryz.f240 0):=h3.fit (key:=3) (by kernel_rfl) (T3 k) (fun _ _ _=>rfl) fun K r v0 v1 v2 v3 v4 h=>fit_mk h (fun a=>h3.mk' v0 a.1 v2 v3 a.2) (fun _ v1 _ _ v4=>some (v1,v4)) (by kernel_rfl) (fun _=>by kernel_rfl) fun Lp a=>by kernel_rfl
theorem con (k:Nat):Con Tryz.prog S (f k):=con_fn (nt:=45) (live:=live) (Λ:=tab k) tok (all_cons (ok_con (impl_InRange.con k)) (all_cons (ok_con (impl_isTest.con k)) all_nil)) mixed Tryz.func240 (by kernel_rfl) (all_cons (fit3 k) all_nil) fun x=>by kernel_rfl
end impl_IsPattern
namespace impl_isMaybe
def S:Sp:=⟨158,⟨[22],[4],[.bor],.own⟩,[.V],[.B]⟩
theorem con (k:Nat):Con Tryz.prog S (f k):=con_fn (nt:=10) (live:=[]) (Λ:=noL) tok (all_cons (ok_con (impl_IsPattern.con k)) all_nil) mixed Tryz.func158 (by kernel_rfl) all_nil fun x=>by kernel_rfl
end impl_isMaybe
namespace impl_IsRules
def S:Sp:=⟨85,⟨[31],[4],[.bor],.own⟩,[.agg .lent kd24],[.B]⟩
theorem con (k:Nat):Con Tryz.prog S (f k):=con_fn (nt:=39) (live:=[]) (Λ:=noL) tok (all_cons (ok_con (impl_InRange.con k)) (all_cons (ok_con (impl_isMaybe.con k)) all_nil)) mixed Tryz.func85 (by kernel_rfl) all_nil fun x=>by kernel_rfl
end impl_IsRules
namespace strings_Join
def S:Sp:=⟨89,⟨[57,9],[9],[.bor,.bor],.own⟩,[.l .lent .strs,.l .lent .str],[.l .own .str]⟩
theorem con (k:Nat):Con Tryz.prog S (f k):=⟨⟨Tryz.f89,Tryz.func89,by kernel_rfl,by kernel_rfl⟩,fun ⟨a,g,_⟩ r h=>by
 obtain ⟨h1,h2⟩:=bif_some h
 obtain ⟨g1,g2⟩:=and_bool h1
 cases h2
 exact join_contract (fun bk o c xs sep w a b c' d e=>Tryz.strings_Join bk o c xs sep w a b c' d e) (fun a c sep w=>Tryz.strings_Join_none a c sep w) (Nat.le_of_ble_eq_true g1) (Nat.le_of_ble_eq_true g2)⟩
end strings_Join
namespace strconv_Itoa
def S:Sp:=⟨163,⟨[3],[9],[.bor],.own⟩,[.I],[.l .own .str]⟩
theorem con (k:Nat):Con Tryz.prog S (f k):=⟨⟨Tryz.f163,Tryz.func163,by kernel_rfl,by kernel_rfl⟩,fun ⟨a,_⟩ r h=>by
 obtain ⟨h1,h2⟩:=bif_some h
 obtain ⟨g1,g2⟩:=and_bool h1
 cases h2
 exact itoa_contract (by kernel_rfl) (fun n a b w t=>Tryz.strconv_Itoa n a b w t) (of_decide_eq_true g1) (of_decide_eq_true g2)⟩
end strconv_Itoa
namespace impl_FormatInt
def S:Sp:=⟨90,⟨[3],[9],[.bor],.own⟩,[.I],[.l .own .str]⟩
theorem con (k:Nat):Con Tryz.prog S (f k):=con_fn (nt:=5) (live:=[]) (Λ:=noL) tok (all_cons (ok_con (strconv_Itoa.con k)) all_nil) mixed Tryz.func90 (by kernel_rfl) all_nil fun x=>by kernel_rfl
end impl_FormatInt
namespace impl_RulesWord
def S:Sp:=⟨91,⟨[31],[9],[.bor],.own⟩,[.agg .lent kd24],[.l .own .str]⟩
theorem con (k:Nat):Con Tryz.prog S (f k):=con_fn (nt:=16) (live:=[]) (Λ:=noL) tok all_nil mixed Tryz.func91 (by kernel_rfl) all_nil fun x=>by kernel_rfl
end impl_RulesWord
namespace impl_signText
def S:Sp:=⟨245,⟨[3],[9],[.bor],.own⟩,[.I],[.l .own .str]⟩
theorem con (k:Nat):Con Tryz.prog S (f k):=con_fn (nt:=31) (live:=[]) (Λ:=noL) tok all_nil mixed Tryz.func245 (by kernel_rfl) all_nil fun x=>by kernel_rfl
end impl_signText
namespace impl_PatternText
def S:Sp:=⟨164,⟨[22],[9],[.bor],.own⟩,[.V],[.l .own .str]⟩
def live:List (Nat×List Nat):=[(5,[3,11,12,13]),(100005,[2,3])]
def G {R:Type} (k:Nat):Glob R:=mkG tt [impl_IsPattern.S.ent (impl_IsPattern.f k),impl_signText.S.ent (impl_signText.f k)] 85
def h5:Hd:=⟨[.l (.own 0),.V,.I,.I],[.row false .strs]⟩
def T5 {R:Type} (k:Nat) (K:X->St->Option R):h5.Fn (Option R):=fun v0 v1 v2 v3=>l5 k v0 v1 (fun p0=>K (.exit 0) (stOf [2,3] [.one (.l (.any)),.one (.l (.own 0))] [some (.row 0 0 (.strs p0))])) k v2 v3
def tab {R:Type} (k:Nat):LTab R:=fun id K vs hs=>bif id==5 then h5.tell vs hs (T5 k K) else none
theorem fit5 {R:Type} (k:Nat):Fit (R:=R) (G k) live (tab k) (bl Tryz.f164 0):=h5.fit (key:=5) (by kernel_rfl) (T5 k) (fun _ _ _=>rfl) fun K r v0 v1 v2 v3 h=>fit_mk h (fun a=>h5.mk' v0 v1 a.1 a.2) (fun _ _ v2 v3=>some (v2,v3)) (by kernel_rfl) (fun _=>by kernel_rfl) fun Lp a=>by kernel_rfl
theorem con (k:Nat):Con Tryz.prog S (f k):=con_fn (nt:=85) (live:=live) (Λ:=tab k) tok (all_cons (ok_con (impl_IsPattern.con k)) (all_cons (ok_con (impl_signText.con k)) all_nil)) mixed Tryz.func164 (by kernel_rfl) (all_cons (fit5 k) all_nil) fun x=>by kernel_rfl
end impl_PatternText
namespace impl_maybeText
def S:Sp:=⟨92,⟨[22],[9],[.bor],.own⟩,[.V],[.l .own .str]⟩
theorem con (k:Nat):Con Tryz.prog S (f k):=con_fn (nt:=8) (live:=[]) (Λ:=noL) tok (all_cons (ok_con (impl_PatternText.con k)) all_nil) mixed Tryz.func92 (by kernel_rfl) all_nil fun x=>by kernel_rfl
end impl_maybeText
namespace impl_RulesText
def S:Sp:=⟨28,⟨[31],[9],[.bor],.own⟩,[.agg .lent kd24],[.l .own .str]⟩
theorem con (k:Nat):Con Tryz.prog S (f k):=con_fn (nt:=35) (live:=[]) (Λ:=noL) tok (all_cons (ok_con (impl_IsRules.con k)) (all_cons (ok_con (strings_Join.con k)) (all_cons (ok_con (impl_FormatInt.con k)) (all_cons (ok_con (impl_RulesWord.con k)) (all_cons (ok_con (impl_maybeText.con k)) all_nil))))) mixed Tryz.func28 (by kernel_rfl) all_nil fun x=>by kernel_rfl
end impl_RulesText
namespace impl_SplitWords
def S:Sp:=⟨103,⟨[9,5],[57],[.bor,.bor],.own⟩,[.l .lent .str,.l .lent (.int .u8)],[.l .own .strs]⟩
def live:List (Nat×List Nat):=[(3,[0,1,5,6,10,11]),(100003,[0,4,5,6])]
def G {R:Type} (k:Nat):Glob R:=mkG tt [] 35
def h3:Hd:=⟨[.l (.s),.l (.i .u8),.l (.own 0),.I,.I,.I],[.row false .strs]⟩
def T3 {R:Type} (k:Nat) (K:X->St->Option R):h3.Fn (Option R):=fun v0 v1 v2 v3 v4 v5=>l3 k v0 v1 v3 (fun p0 p1=>K (.exit 0) (stOf [0,4,5,6] [.one (.l (.s v0)),.one (.l (.any)),.one (.l (.own 0)),.one (.l (.i .i64 p0))] [some (.row 0 0 (.strs p1))])) k v2 v4 v5
def tab {R:Type} (k:Nat):LTab R:=fun id K vs hs=>bif id==3 then h3.tell vs hs (T3 k K) else none
theorem fit3 {R:Type} (k:Nat):Fit (R:=R) (G k) live (tab k) (bl Tryz.f103 0):=h3.fit (key:=3) (by kernel_rfl) (T3 k) (fun _ _ _=>rfl) fun K r v0 v1 v2 v3 v4 v5 h=>fit_mk h (fun a=>h3.mk' v0 v1 a.1 v3 a.2.1 (t2 a)) (fun _ _ v2 _ v4 v5=>some (v2,v4,v5)) (by kernel_rfl) (fun _=>by kernel_rfl) fun Lp a=>by kernel_rfl
theorem con (k:Nat):Con Tryz.prog S (f k):=con_fn (nt:=35) (live:=live) (Λ:=tab k) tok all_nil mixed Tryz.func103 (by kernel_rfl) (all_cons (fit3 k) all_nil) fun x=>by kernel_rfl
end impl_SplitWords
namespace strings_CutPrefix
def S:Sp:=⟨220,⟨[9,9],[9,4],[.bor,.bor],.own⟩,[.l .lent .str,.l .lent .str],[.l .own .str,.B]⟩
theorem con (k:Nat):Con Tryz.prog S (f k):=⟨⟨Tryz.f220,Tryz.func220,by kernel_rfl,by kernel_rfl⟩,fun ⟨a,g,_⟩ r h=>by
 have h:some _=some r:=h
 cases h
 exact cutPrefix_contract (g:=trimPre) (q:=hasPre) (fun s p w=>Tryz.strings_CutPrefix s p w) a g⟩
end strings_CutPrefix
namespace impl_ValueAfter
def S:Sp:=⟨129,⟨[9,9],[9,4],[.bor,.bor],.own⟩,[.l .lent .str,.l .lent .str],[.l .own .str,.B]⟩
theorem con (k:Nat):Con Tryz.prog S (f k):=con_fn (nt:=18) (live:=[]) (Λ:=noL) tok (all_cons (ok_con (strings_CutPrefix.con k)) all_nil) mixed Tryz.func129 (by kernel_rfl) all_nil fun x=>by kernel_rfl
end impl_ValueAfter
namespace strconv_Atoi
def S:Sp:=⟨221,⟨[9],[3,155],[.bor],.own⟩,[.l .lent .str],[.O,.l .own .err]⟩
theorem con (k:Nat):Con Tryz.prog S (f k):=⟨⟨Tryz.f221,Tryz.func221,by kernel_rfl,by kernel_rfl⟩,fun ⟨a,_⟩ r h=>by
 obtain ⟨h1,h2⟩:=bif_some h
 cases h2
 exact atoi_contract (by kernel_rfl) (fun s n a b w=>Tryz.strconv_Atoi s n a b w) (fun s a b tp x w hv=>(Tryz.strconv_Atoi_err_var s a b tp x w hv).mono fun e w' ⟨N,he,_,_,hb⟩=>⟨N,he,hb⟩) (Nat.le_of_ble_eq_true h1)⟩
end strconv_Atoi
namespace impl_ParseInt
def S:Sp:=⟨130,⟨[9],[3,4],[.bor],.own⟩,[.l .lent .str],[.O,.B]⟩
theorem con (k:Nat):Con Tryz.prog S (f k):=con_fn (nt:=28) (live:=[]) (Λ:=noL) tok (all_cons (ok_con (impl_FormatInt.con k)) (all_cons (ok_con (impl_InRange.con k)) (all_cons (ok_con (strconv_Atoi.con k)) all_nil))) mixed Tryz.func130 (by kernel_rfl) all_nil fun x=>by kernel_rfl
end impl_ParseInt
namespace impl_ParsePattern
def S:Sp:=⟨131,⟨[9],[22,4],[.bor],.own⟩,[.l .lent .str],[.l .own (.ints .i64),.B]⟩
theorem con (k:Nat):Con Tryz.prog S (f k):=⟨⟨Tryz.f131,Tryz.func131,by kernel_rfl,by kernel_rfl⟩,fun ⟨a,_⟩ r h=>Note.parse_any (fun l r h=>(impl_PatternText.con k).2 (l,()) r h) h⟩
end impl_ParsePattern
namespace impl_ParseRules
def S:Sp:=⟨51,⟨[9],[31,4],[.bor],.own⟩,[.l .lent .str],[.agg .own kd24,.B]⟩
def live:List (Nat×List Nat):=[(7,[0,2,5,6,22,23,24]),(100007,[0,2,3,6])]
def G {R:Type} (k:Nat):Glob R:=mkG tt [impl_RulesText.S.ent (impl_RulesText.f k),impl_IsRules.S.ent (impl_IsRules.f k),impl_SplitWords.S.ent (impl_SplitWords.f k),impl_ValueAfter.S.ent (impl_ValueAfter.f k),impl_ParseInt.S.ent (impl_ParseInt.f k),impl_ParsePattern.S.ent (impl_ParsePattern.f k)] 114
def h7:Hd:=⟨[.l (.s),.l (.ptr 0 0),.l (.own 1),.l (.own 2),.l (.own 3),.I,.I],[.box [.I,.I,.bc false,.bc false,.nil,.nil,.I,.I],.row false .strs,.row false .strs,.row false .strs]⟩
def T7 {R:Type} (k:Nat) (K:X->St->Option R):h7.Fn (Option R):=fun v0 v1 v2 v3 v4 v7 v8 v9 v10 v11=>l7 k v1 v9 v11 (fun p0=>K .ret (stOf [0,2,3,6] [.one (.l (.s v0)),.one (.l (.bptr 0 0)),.one (.l (.b false)),.one (.l (.own 1))] [some (.box 0 [.i .i64 0,.i .i64 0,.b false,.b false,.nil,.nil,.i .i64 0,.i .i64 0]),some (.row 0 0 (.strs p0))])) (fun p0=>K (.exit 0) (stOf [0,2,3,6] [.one (.l (.s v0)),.one (.l (.bptr 0 0)),.one (.l (.any)),.one (.l (.own 1))] [some (.box 0 [.i .i64 v3,.i .i64 v4,.b false,.b false,.nil,.nil,.i .i64 v7,.i .i64 v8]),some (.row 0 0 (.strs p0))])) k v2 v10
def tab {R:Type} (k:Nat):LTab R:=fun id K vs hs=>bif id==7 then h7.tell vs hs (T7 k K) else none
theorem fit7 {R:Type} (k:Nat):Fit (R:=R) (G k) live (tab k) (bl Tryz.f51 0):=h7.fit (key:=7) (by kernel_rfl) (T7 k) (fun _ _ _=>rfl) fun K r v0 v1 v2 v3 v4 v7 v8 v9 v10 v11 h=>fit_mk h (fun a=>h7.mk' v0 v1 a.1 v3 v4 v7 v8 v9 a.2 v11) (fun _ _ v2 _ _ _ _ _ v10 _=>some (v2,v10)) (by kernel_rfl) (fun _=>by kernel_rfl) fun Lp a=>by kernel_rfl
theorem con (k:Nat):Con Tryz.prog S (f k):=con_fn (nt:=114) (live:=live) (Λ:=tab k) tok (all_cons (ok_con (impl_RulesText.con k)) (all_cons (ok_con (impl_IsRules.con k)) (all_cons (ok_con (impl_SplitWords.con k)) (all_cons (ok_con (impl_ValueAfter.con k)) (all_cons (ok_con (impl_ParseInt.con k)) (all_cons (ok_con (impl_ParsePattern.con k)) all_nil)))))) mixed Tryz.func51 (by kernel_rfl) (all_cons (fit7 k) all_nil) fun x=>by kernel_rfl
end impl_ParseRules
namespace impl_IsCard
def S:Sp:=⟨79,⟨[3],[4],[.bor],.own⟩,[.I],[.B]⟩
theorem con (k:Nat):Con Tryz.prog S (f k):=con_fn (nt:=5) (live:=[]) (Λ:=noL) tok (all_cons (ok_con (impl_InRange.con k)) all_nil) mixed Tryz.func79 (by kernel_rfl) all_nil fun x=>by kernel_rfl
end impl_IsCard
namespace impl_IsHand
def S:Sp:=⟨142,⟨[22],[4],[.bor],.own⟩,[.V],[.B]⟩
def live:List (Nat×List Nat):=[(3,[3,7,8,9]),(100003,[2])]
def G {R:Type} (k:Nat):Glob R:=mkG tt [impl_IsCard.S.ent (impl_IsCard.f k)] 24
def h3:Hd:=⟨[.l (.arr 0 52),.V,.I,.I],[.row false .bools]⟩
def T3 {R:Type} (k:Nat) (K:X->St->Option R):h3.Fn (Option R):=fun v0 v1 v2 v3=>l3 k v0 v1 (K .ret (stOf [2] [.one (.l (.b false))] [])) (K (.exit 0) (stOf [2] [.one (.l (.any))] [])) k v2 v3
def tab {R:Type} (k:Nat):LTab R:=fun id K vs hs=>bif id==3 then h3.tell vs hs (T3 k K) else none
theorem fit3 {R:Type} (k:Nat):Fit (R:=R) (G k) live (tab k) (bl Tryz.f142 0):=h3.fit (key:=3) (by kernel_rfl) (T3 k) (fun _ _ _=>rfl) fun K r v0 v1 v2 v3 h=>fit_mk h (fun a=>h3.mk' v0 v1 a.1 a.2) (fun _ _ v2 v3=>some (v2,v3)) (by kernel_rfl) (fun _=>by kernel_rfl) fun Lp a=>by kernel_rfl
theorem con (k:Nat):Con Tryz.prog S (f k):=con_fn (nt:=24) (live:=live) (Λ:=tab k) tok (all_cons (ok_con (impl_IsCard.con k)) all_nil) mixed Tryz.func142 (by kernel_rfl) (all_cons (fit3 k) all_nil) fun x=>by kernel_rfl
end impl_IsHand
namespace impl_Dealt
def S:Sp:=⟨143,⟨[22,3,3],[25,22,4],[.bor,.bor,.bor],.own⟩,[.V,.I,.I],[.l .own .rows,.l .own (.ints .i64),.B]⟩
def live:List (Nat×List Nat):=[(5,[0,1,2,9,41,42,43]),(100005,[0,1,2,6,7,8,9])]
def G {R:Type} (k:Nat):Glob R:=mkG tt [impl_copyOf.S.ent (impl_copyOf.f k),impl_IsHand.S.ent (impl_IsHand.f k),impl_InRange.S.ent (impl_InRange.f k)] 70
def h5:Hd:=⟨[.V,.I,.I,.l (.own 0),.V,.I,.I],[.W]⟩
def T5 {R:Type} (k:Nat) (K:X->St->Option R):h5.Fn (Option R):=fun v0 v1 v2 v3 v4 v5 v6=>l5 k v1 v3 v4 (fun p0=>K (.exit 0) (stOf [0,1,2,6,7,8,9] [.one (.l (.val false (.ints .i64 v0))),.one (.l (.i .i64 v1)),.one (.l (.i .i64 v2)),.one (.l (.any)),.one (.l (.any)),.one (.l (.any)),.one (.l (.own 0))] [some (.row 0 0 (.rows true p0))])) k v5 v6
def tab {R:Type} (k:Nat):LTab R:=fun id K vs hs=>bif id==5 then h5.tell vs hs (T5 k K) else none
theorem fit5 {R:Type} (k:Nat):Fit (R:=R) (G k) live (tab k) (bl Tryz.f143 0):=h5.fit (key:=5) (by kernel_rfl) (T5 k) (fun _ _ _=>rfl) fun K r v0 v1 v2 v3 v4 v5 v6 h=>fit_mk h (fun a=>h5.mk' v0 v1 v2 v3 v4 a.1 a.2) (fun _ _ _ _ _ v5 v6=>some (v5,v6)) (by kernel_rfl) (fun _=>by kernel_rfl) fun Lp a=>by kernel_rfl
theorem con (k:Nat):Con Tryz.prog S (f k):=con_fn (nt:=70) (live:=live) (Λ:=tab k) tok (all_cons (ok_con (impl_copyOf.con k)) (all_cons (ok_con (impl_IsHand.con k)) (all_cons (ok_con (impl_InRange.con k)) all_nil))) mixed Tryz.func143 (by kernel_rfl) (all_cons (fit5 k) all_nil) fun x=>by kernel_rfl
end impl_Dealt
namespace impl_NewGame
def S:Sp:=⟨75,⟨[31,22],[33,4],[.bor,.bor],.own⟩,[.agg .lent kd24,.V],[.agg .own kd27,.B]⟩
theorem con (k:Nat):Con Tryz.prog S (f k):=con_fn (nt:=44) (live:=[]) (Λ:=noL) tok (all_cons (ok_con (impl_IsRules.con k)) (all_cons (ok_con (impl_Rules_copied.con k)) (all_cons (ok_con (impl_copyOf.con k)) (all_cons (ok_con (impl_IsHand.con k)) (all_cons (ok_con (impl_Dealt.con k)) all_nil))))) mixed Tryz.func75 (by kernel_rfl) all_nil fun x=>by kernel_rfl
end impl_NewGame
namespace impl_sum
def S:Sp:=⟨153,⟨[22],[3],[.bor],.own⟩,[.V],[.O]⟩
def live:List (Nat×List Nat):=[(3,[3,6,7,8]),(100003,[2,3])]
def G {R:Type} (k:Nat):Glob R:=mkG tt [] 17
def h3:Hd:=⟨[.I,.V,.I,.I],[]⟩
def T3 {R:Type} (k:Nat) (K:X->St->Option R):h3.Fn (Option R):=fun v0 v1 v2 v3=>l3 k v1 v2 (fun p0=>K (.exit 0) (stOf [2,3] [.one (.l (.any)),.one (.l (.i .i64 p0))] [])) k v0 v3
def tab {R:Type} (k:Nat):LTab R:=fun id K vs hs=>bif id==3 then h3.tell vs hs (T3 k K) else none
theorem fit3 {R:Type} (k:Nat):Fit (R:=R) (G k) live (tab k) (bl Tryz.f153 0):=h3.fit (key:=3) (by kernel_rfl) (T3 k) (fun _ _ _=>rfl) fun K r v0 v1 v2 v3 h=>fit_mk h (fun a=>h3.mk' a.1 v1 v2 a.2) (fun v0 _ _ v3=>some (v0,v3)) (by kernel_rfl) (fun _=>by kernel_rfl) fun Lp a=>by kernel_rfl
theorem con (k:Nat):Con Tryz.prog S (f k):=con_fn (nt:=17) (live:=live) (Λ:=tab k) tok all_nil mixed Tryz.func153 (by kernel_rfl) (all_cons (fit3 k) all_nil) fun x=>by kernel_rfl
end impl_sum
namespace impl_allIn
def S:Sp:=⟨241,⟨[22,3,3],[4],[.bor,.bor,.bor],.own⟩,[.V,.I,.I],[.B]⟩
def live:List (Nat×List Nat):=[(2,[1,2,9,10,11]),(100002,[6])]
def G {R:Type} (k:Nat):Glob R:=mkG tt [impl_InRange.S.ent (impl_InRange.f k)] 21
def h2:Hd:=⟨[.I,.I,.V,.I,.I],[]⟩
def T2 {R:Type} (k:Nat) (K:X->St->Option R):h2.Fn (Option R):=fun v0 v1 v2 v3 v4=>l2 k v0 v1 v2 v3 (K .ret (stOf [6] [.one (.l (.b false))] [])) (K (.exit 0) (stOf [6] [.one (.l (.any))] [])) k v4
def tab {R:Type} (k:Nat):LTab R:=fun id K vs hs=>bif id==2 then h2.tell vs hs (T2 k K) else none
theorem fit2 {R:Type} (k:Nat):Fit (R:=R) (G k) live (tab k) (bl Tryz.f241 0):=h2.fit (key:=2) (by kernel_rfl) (T2 k) (fun _ _ _=>rfl) fun K r v0 v1 v2 v3 v4 h=>fit_mk h (fun a=>h2.mk' v0 v1 v2 v3 a) (fun _ _ _ _ v4=>some v4) (by kernel_rfl) (fun _=>by kernel_rfl) fun Lp a=>by kernel_rfl
theorem con (k:Nat):Con Tryz.prog S (f k):=con_fn (nt:=21) (live:=live) (Λ:=tab k) tok (all_cons (ok_con (impl_InRange.con k)) all_nil) mixed Tryz.func241 (by kernel_rfl) (all_cons (fit2 k) all_nil) fun x=>by kernel_rfl
end impl_allIn
namespace impl_IsRound
def S:Sp:=⟨159,⟨[3,22],[4],[.bor,.bor],.own⟩,[.I,.V],[.B]⟩
theorem con (k:Nat):Con Tryz.prog S (f k):=con_fn (nt:=22) (live:=[]) (Λ:=noL) tok (all_cons (ok_con (impl_InRange.con k)) (all_cons (ok_con (impl_sum.con k)) (all_cons (ok_con (impl_allIn.con k)) all_nil))) mixed Tryz.func159 (by kernel_rfl) all_nil fun x=>by kernel_rfl
end impl_IsRound
namespace impl_IsSheet
def S:Sp:=⟨86,⟨[3,25],[4],[.bor,.bor],.own⟩,[.I,.l .lent .rows],[.B]⟩
def live:List (Nat×List Nat):=[(2,[0,1,7,8,9]),(100002,[0,1,4])]
def G {R:Type} (k:Nat):Glob R:=mkG tt [impl_InRange.S.ent (impl_InRange.f k),impl_IsRound.S.ent (impl_IsRound.f k)] 25
def h2:Hd:=⟨[.I,.W,.W,.I,.I],[]⟩
def T2 {R:Type} (k:Nat) (K:X->St->Option R):h2.Fn (Option R):=fun v0 v1 v2 v3 v4=>l2 k v0 v2 v3 (K .ret (stOf [0,1,4] [.one (.l (.i .i64 v0)),.one (.l (.val false (.rows false v1))),.one (.l (.b false))] [])) (K (.exit 0) (stOf [0,1,4] [.one (.l (.i .i64 v0)),.one (.l (.val false (.rows false v1))),.one (.l (.any))] [])) k v4
def tab {R:Type} (k:Nat):LTab R:=fun id K vs hs=>bif id==2 then h2.tell vs hs (T2 k K) else none
theorem fit2 {R:Type} (k:Nat):Fit (R:=R) (G k) live (tab k) (bl Tryz.f86 0):=h2.fit (key:=2) (by kernel_rfl) (T2 k) (fun _ _ _=>rfl) fun K r v0 v1 v2 v3 v4 h=>fit_mk h (fun a=>h2.mk' v0 v1 v2 v3 a) (fun _ _ _ _ v4=>some v4) (by kernel_rfl) (fun _=>by kernel_rfl) fun Lp a=>by kernel_rfl
theorem con (k:Nat):Con Tryz.prog S (f k):=con_fn (nt:=25) (live:=live) (Λ:=tab k) tok (all_cons (ok_con (impl_InRange.con k)) (all_cons (ok_con (impl_IsRound.con k)) all_nil)) mixed Tryz.func86 (by kernel_rfl) (all_cons (fit2 k) all_nil) fun x=>by kernel_rfl
end impl_IsSheet
namespace impl_EqualInts
def S:Sp:=⟨94,⟨[22,22],[4],[.bor,.bor],.own⟩,[.V,.V],[.B]⟩
def live:List (Nat×List Nat):=[(4,[0,1,12,13]),(100004,[4])]
def G {R:Type} (k:Nat):Glob R:=mkG tt [] 26
def h4:Hd:=⟨[.V,.V,.I,.I],[]⟩
def T4 {R:Type} (k:Nat) (K:X->St->Option R):h4.Fn (Option R):=fun v0 v1 v2 v3=>l4 k v0 v1 v2 (K .ret (stOf [4] [.one (.l (.b false))] [])) (K (.exit 0) (stOf [4] [.one (.l (.any))] [])) k v3
def tab {R:Type} (k:Nat):LTab R:=fun id K vs hs=>bif id==4 then h4.tell vs hs (T4 k K) else none
theorem fit4 {R:Type} (k:Nat):Fit (R:=R) (G k) live (tab k) (bl Tryz.f94 0):=h4.fit (key:=4) (by kernel_rfl) (T4 k) (fun _ _ _=>rfl) fun K r v0 v1 v2 v3 h=>fit_mk h (fun a=>h4.mk' v0 v1 v2 a) (fun _ _ _ v3=>some v3) (by kernel_rfl) (fun _=>by kernel_rfl) fun Lp a=>by kernel_rfl
theorem con (k:Nat):Con Tryz.prog S (f k):=con_fn (nt:=26) (live:=live) (Λ:=tab k) tok all_nil mixed Tryz.func94 (by kernel_rfl) (all_cons (fit4 k) all_nil) fun x=>by kernel_rfl
end impl_EqualInts
namespace impl_EqualRules
def S:Sp:=⟨93,⟨[31,31],[4],[.bor,.bor],.own⟩,[.agg .lent kd24,.agg .lent kd24],[.B]⟩
theorem con (k:Nat):Con Tryz.prog S (f k):=con_fn (nt:=59) (live:=[]) (Λ:=noL) tok (all_cons (ok_con (impl_EqualInts.con k)) all_nil) mixed Tryz.func93 (by kernel_rfl) all_nil fun x=>by kernel_rfl
end impl_EqualRules
namespace impl_sameRows
def S:Sp:=⟨95,⟨[25,25],[4],[.bor,.bor],.own⟩,[.l .lent .rows,.l .lent .rows],[.B]⟩
def live:List (Nat×List Nat):=[(4,[0,1,12,13]),(100004,[4])]
def G {R:Type} (k:Nat):Glob R:=mkG tt [impl_EqualInts.S.ent (impl_EqualInts.f k)] 27
def h4:Hd:=⟨[.W,.W,.I,.I],[]⟩
def T4 {R:Type} (k:Nat) (K:X->St->Option R):h4.Fn (Option R):=fun v0 v1 v2 v3=>l4 k v0 v1 v2 (K .ret (stOf [4] [.one (.l (.b false))] [])) (K (.exit 0) (stOf [4] [.one (.l (.any))] [])) k v3
def tab {R:Type} (k:Nat):LTab R:=fun id K vs hs=>bif id==4 then h4.tell vs hs (T4 k K) else none
theorem fit4 {R:Type} (k:Nat):Fit (R:=R) (G k) live (tab k) (bl Tryz.f95 0):=h4.fit (key:=4) (by kernel_rfl) (T4 k) (fun _ _ _=>rfl) fun K r v0 v1 v2 v3 h=>fit_mk h (fun a=>h4.mk' v0 v1 v2 a) (fun _ _ _ v3=>some v3) (by kernel_rfl) (fun _=>by kernel_rfl) fun Lp a=>by kernel_rfl
theorem con (k:Nat):Con Tryz.prog S (f k):=con_fn (nt:=27) (live:=live) (Λ:=tab k) tok (all_cons (ok_con (impl_EqualInts.con k)) all_nil) mixed Tryz.func95 (by kernel_rfl) (all_cons (fit4 k) all_nil) fun x=>by kernel_rfl
end impl_sameRows
namespace impl_EqualGames
def S:Sp:=⟨87,⟨[33,33],[4],[.bor,.bor],.own⟩,[.agg .lent kd27,.agg .lent kd27],[.B]⟩
theorem con (k:Nat):Con Tryz.prog S (f k):=con_fn (nt:=52) (live:=[]) (Λ:=noL) tok (all_cons (ok_con (impl_EqualRules.con k)) (all_cons (ok_con (impl_EqualInts.con k)) (all_cons (ok_con (impl_sameRows.con k)) all_nil))) mixed Tryz.func87 (by kernel_rfl) all_nil fun x=>by kernel_rfl
end impl_EqualGames
namespace impl_AllApart
def S:Sp:=⟨305,⟨[25],[4],[.bor],.own⟩,[.l .lent .rows],[.B]⟩
def live:List (Nat×List Nat):=[(3,[3,7,8,9]),(100003,[2,3])]
def G {R:Type} (k:Nat):Glob R:=mkG tt [impl_IsHand.S.ent (impl_IsHand.f k)] 19
def h3:Hd:=⟨[.l (.own 0),.W,.I,.I],[.V]⟩
def T3 {R:Type} (k:Nat) (K:X->St->Option R):h3.Fn (Option R):=fun v0 v1 v2 v3=>l3 k v0 v1 (fun p0=>K (.exit 0) (stOf [2,3] [.one (.l (.any)),.one (.l (.own 0))] [some (.row 0 0 (.ints .i64 p0))])) k v2 v3
def tab {R:Type} (k:Nat):LTab R:=fun id K vs hs=>bif id==3 then h3.tell vs hs (T3 k K) else none
theorem fit3 {R:Type} (k:Nat):Fit (R:=R) (G k) live (tab k) (bl Tryz.f305 0):=h3.fit (key:=3) (by kernel_rfl) (T3 k) (fun _ _ _=>rfl) fun K r v0 v1 v2 v3 h=>fit_mk h (fun a=>h3.mk' v0 v1 a.1 a.2) (fun _ _ v2 v3=>some (v2,v3)) (by kernel_rfl) (fun _=>by kernel_rfl) fun Lp a=>by kernel_rfl
theorem con (k:Nat):Con Tryz.prog S (f k):=con_fn (nt:=19) (live:=live) (Λ:=tab k) tok (all_cons (ok_con (impl_IsHand.con k)) all_nil) mixed Tryz.func305 (by kernel_rfl) (all_cons (fit3 k) all_nil) fun x=>by kernel_rfl
end impl_AllApart
namespace impl_TotalCards
def S:Sp:=⟨306,⟨[25],[3],[.bor],.own⟩,[.l .lent .rows],[.O]⟩
def live:List (Nat×List Nat):=[(3,[3,6,7,8]),(100003,[2,3])]
def G {R:Type} (k:Nat):Glob R:=mkG tt [] 18
def h3:Hd:=⟨[.I,.W,.I,.I],[]⟩
def T3 {R:Type} (k:Nat) (K:X->St->Option R):h3.Fn (Option R):=fun v0 v1 v2 v3=>l3 k v1 v2 (fun p0=>K (.exit 0) (stOf [2,3] [.one (.l (.any)),.one (.l (.i .i64 p0))] [])) k v0 v3
def tab {R:Type} (k:Nat):LTab R:=fun id K vs hs=>bif id==3 then h3.tell vs hs (T3 k K) else none
theorem fit3 {R:Type} (k:Nat):Fit (R:=R) (G k) live (tab k) (bl Tryz.f306 0):=h3.fit (key:=3) (by kernel_rfl) (T3 k) (fun _ _ _=>rfl) fun K r v0 v1 v2 v3 h=>fit_mk h (fun a=>h3.mk' a.1 v1 v2 a.2) (fun v0 _ _ v3=>some (v0,v3)) (by kernel_rfl) (fun _=>by kernel_rfl) fun Lp a=>by kernel_rfl
theorem con (k:Nat):Con Tryz.prog S (f k):=con_fn (nt:=18) (live:=live) (Λ:=tab k) tok all_nil mixed Tryz.func306 (by kernel_rfl) (all_cons (fit3 k) all_nil) fun x=>by kernel_rfl
end impl_TotalCards
namespace impl_isWhole
def S:Sp:=⟨238,⟨[25],[4],[.bor],.own⟩,[.l .lent .rows],[.B]⟩
theorem con (k:Nat):Con Tryz.prog S (f k):=con_fn (nt:=10) (live:=[]) (Λ:=noL) tok (all_cons (ok_con (impl_AllApart.con k)) (all_cons (ok_con (impl_TotalCards.con k)) all_nil)) mixed Tryz.func238 (by kernel_rfl) all_nil fun x=>by kernel_rfl
end impl_isWhole
namespace impl_IsGame
def S:Sp:=⟨150,⟨[33],[4],[.bor],.own⟩,[.agg .lent kd27],[.B]⟩
theorem con (k:Nat):Con Tryz.prog S (f k):=con_fn (nt:=57) (live:=[]) (Λ:=noL) tok (all_cons (ok_con (impl_IsRules.con k)) (all_cons (ok_con (impl_copyRows.con k)) (all_cons (ok_con (impl_InRange.con k)) (all_cons (ok_con (impl_isWhole.con k)) all_nil)))) mixed Tryz.func150 (by kernel_rfl) all_nil fun x=>by kernel_rfl
end impl_IsGame
namespace impl_Winner
def S:Sp:=⟨151,⟨[33],[3],[.bor],.own⟩,[.agg .lent kd27],[.O]⟩
def live:List (Nat×List Nat):=[(4,[9,10,11]),(100004,[2])]
def G {R:Type} (k:Nat):Glob R:=mkG tt [impl_IsGame.S.ent (impl_IsGame.f k)] 21
def h4:Hd:=⟨[.W,.I,.I],[]⟩
def T4 {R:Type} (k:Nat) (K:X->St->Option R):h4.Fn (Option R):=fun v0 v1 v2=>l4 k v0 v1 (fun p0=>K .ret (stOf [2] [.one (.l (.i .i64 p0))] [])) (K (.exit 0) (stOf [2] [.one (.l (.any))] [])) k v2
def tab {R:Type} (k:Nat):LTab R:=fun id K vs hs=>bif id==4 then h4.tell vs hs (T4 k K) else none
theorem fit4 {R:Type} (k:Nat):Fit (R:=R) (G k) live (tab k) (bl Tryz.f151 0):=h4.fit (key:=4) (by kernel_rfl) (T4 k) (fun _ _ _=>rfl) fun K r v0 v1 v2 h=>fit_mk h (fun a=>h4.mk' v0 v1 a) (fun _ _ v2=>some v2) (by kernel_rfl) (fun _=>by kernel_rfl) fun Lp a=>by kernel_rfl
theorem con (k:Nat):Con Tryz.prog S (f k):=con_fn (nt:=21) (live:=live) (Λ:=tab k) tok (all_cons (ok_con (impl_IsGame.con k)) all_nil) mixed Tryz.func151 (by kernel_rfl) (all_cons (fit4 k) all_nil) fun x=>by kernel_rfl
end impl_Winner
namespace impl_IsEnded
def S:Sp:=⟨82,⟨[33],[4],[.bor],.own⟩,[.agg .lent kd27],[.B]⟩
theorem con (k:Nat):Con Tryz.prog S (f k):=con_fn (nt:=26) (live:=[]) (Λ:=noL) tok (all_cons (ok_con (impl_IsGame.con k)) (all_cons (ok_con (impl_Winner.con k)) all_nil)) mixed Tryz.func82 (by kernel_rfl) all_nil fun x=>by kernel_rfl
end impl_IsEnded
namespace impl_TakeCards
def S:Sp:=⟨236,⟨[33],[33,4],[.bor],.own⟩,[.agg .lent kd27],[.agg .own kd27,.B]⟩
def live:List (Nat×List Nat):=[(6,[1,2,4,5,19,20]),(100006,[1,2,3,4,5])]
def G {R:Type} (k:Nat):Glob R:=mkG tt [impl_IsEnded.S.ent (impl_IsEnded.f k),impl_copyOf.S.ent (impl_copyOf.f k),impl_Game_copied.S.ent (impl_Game_copied.f k),impl_IsGame.S.ent (impl_IsGame.f k)] 91
def h6:Hd:=⟨[.l (.ptr 0 0),.l (.ptr 1 0),.l (.ptr 2 0),.I,.I,.I],[.box [.I,.I,.b,.b,.V,.V,.I,.I,.W,.V,.V,.I,.I,.I],.box [.I,.I,.bc false,.bc false,.nil,.nil,.I,.I,.nil,.nil,.nil,.I,.I,.I],.box [.I,.I,.b,.b,.own 3,.own 4,.I,.I,.own 5,.own 6,.own 7,.I,.I,.I],.V,.V,.W,.V,.V]⟩
def T6 {R:Type} (k:Nat) (K:X->St->Option R):h6.Fn (Option R):=fun v0 v1 v2 v3 v4 v5 v6 v7 v8 v9 v10 v11 v12 v13 v14 v15 v16 v17 v18 v21 v22 v23 v24 v25 v26 v27 v28 v29 v30 v31 v32 v33 v34 v35 v36 v37 v38 v39=>l6 k v1 v14 (fun p0 p1 p2 p3=>K (.exit 0) (stOf [1,2,3,4,5] [.one (.l (.bptr 0 0)),.one (.l (.bptr 1 0)),.one (.l (.any)),.one (.l (.bptr 2 0)),.one (.l (.i .i64 p0))] [some (.box 0 [.i .i64 v3,.i .i64 v4,.b v5,.b v6,.val false (.ints .i64 v7),.val false (.ints .i64 v8),.i .i64 v9,.i .i64 v10,.val false (.rows false v11),.val false (.ints .i64 v12),.val false (.ints .i64 v13),.i .i64 v14,.i .i64 v15,.i .i64 v16]),some (.box 0 [.i .i64 v17,.i .i64 v18,.b false,.b false,.nil,.nil,.i .i64 v21,.i .i64 v22,.nil,.nil,.nil,.i .i64 v23,.i .i64 v24,.i .i64 v25]),some (.box 0 [.i .i64 v26,.i .i64 v27,.b v28,.b v29,.own 3,.own 4,.i .i64 v30,.i .i64 v31,.own 5,.own 6,.own 7,.i .i64 v32,.i .i64 v33,.i .i64 v34]),some (.row 0 0 (.ints .i64 v35)),some (.row 0 0 (.ints .i64 v36)),some (.row 0 0 (.rows true p1)),some (.row 0 0 (.ints .i64 p2)),some (.row 0 0 (.ints .i64 p3))])) k v0 v2 v37 v38 v39
def tab {R:Type} (k:Nat):LTab R:=fun id K vs hs=>bif id==6 then h6.tell vs hs (T6 k K) else none
theorem fit6 {R:Type} (k:Nat):Fit (R:=R) (G k) live (tab k) (bl Tryz.f236 0):=h6.fit (key:=6) (by kernel_rfl) (T6 k) (fun _ _ _=>rfl) fun K r v0 v1 v2 v3 v4 v5 v6 v7 v8 v9 v10 v11 v12 v13 v14 v15 v16 v17 v18 v21 v22 v23 v24 v25 v26 v27 v28 v29 v30 v31 v32 v33 v34 v35 v36 v37 v38 v39 h=>fit_mk h (fun a=>h6.mk' a.1 v1 a.2.1 v3 v4 v5 v6 v7 v8 v9 v10 v11 v12 v13 v14 v15 v16 v17 v18 v21 v22 v23 v24 v25 v26 v27 v28 v29 v30 v31 v32 v33 v34 v35 v36 (t2 a).1 (t3 a).1 (t4 a)) (fun v0 _ v2 _ _ _ _ _ _ _ _ _ _ _ _ _ _ _ _ _ _ _ _ _ _ _ _ _ _ _ _ _ _ _ _ v37 v38 v39=>some (v0,v2,v37,v38,v39)) (by kernel_rfl) (fun _=>by kernel_rfl) fun Lp a=>by kernel_rfl
theorem con (k:Nat):Con Tryz.prog S (f k):=con_fn (nt:=91) (live:=live) (Λ:=tab k) tok (all_cons (ok_con (impl_IsEnded.con k)) (all_cons (ok_con (impl_copyOf.con k)) (all_cons (ok_con (impl_Game_copied.con k)) (all_cons (ok_con (impl_IsGame.con k)) all_nil)))) mixed Tryz.func236 (by kernel_rfl) (all_cons (fit6 k) all_nil) fun x=>by kernel_rfl
end impl_TakeCards
namespace impl_Sorted
def S:Sp:=⟨252,⟨[22],[22],[.bor],.own⟩,[.V],[.l .own (.ints .i64)]⟩
def live:List (Nat×List Nat):=[(6,[3,5,6,8,9,10]),(100006,[2,3,5,6,8,9,10]),(3,[3,8,9,10]),(100003,[2,3])]
def G {R:Type} (k:Nat):Glob R:=mkG tt [] 46
def h6:Hd:=⟨[.l (.own 0),.I,.I,.V,.I,.I],[.V]⟩
def T6 {R:Type} (k:Nat) (K:X->St->Option R):h6.Fn (Option R):=fun v0 v1 v2 v3 v4 v5=>l6 k v0 v5 (fun p0=>K (.exit 2) (stOf [2,3,5,6,8,9,10] [.one (.l (.any)),.one (.l (.own 0)),.one (.l (.i .i64 v0)),.one (.l (.i .i64 p0)),.one (.l (.val false (.ints .i64 v2))),.one (.l (.i .i64 v3)),.one (.l (.i .i64 v4))] [some (.row 0 0 (.ints .i64 v5))])) k v1
def h3:Hd:=⟨[.l (.own 0),.V,.I,.I],[.V]⟩
def T3 {R:Type} (k:Nat) (K:X->St->Option R):h3.Fn (Option R):=fun v0 v1 v2 v3=>l3 k v0 v1 (fun p0=>K (.exit 0) (stOf [2,3] [.one (.l (.any)),.one (.l (.own 0))] [some (.row 0 0 (.ints .i64 p0))])) k v2 v3
def tab {R:Type} (k:Nat):LTab R:=fun id K vs hs=>bif id==6 then h6.tell vs hs (T6 k K) else bif id==3 then h3.tell vs hs (T3 k K) else none
theorem fit3 {R:Type} (k:Nat):Fit (R:=R) (G k) live (tab k) (bl Tryz.f252 0):=h3.fit (key:=3) (by kernel_rfl) (T3 k) (fun _ _ _=>rfl) fun K r v0 v1 v2 v3 h=>fit_mk h (fun a=>h3.mk' v0 v1 a.1 a.2) (fun _ _ v2 v3=>some (v2,v3)) (by kernel_rfl) (fun _=>by kernel_rfl) fun Lp a=>by kernel_rfl
theorem fit6 {R:Type} (k:Nat):Fit (R:=R) (G k) live (tab k) (bl Tryz.f252 1):=h6.fit (key:=6) (by kernel_rfl) (T6 k) (fun _ _ _=>rfl) fun K r v0 v1 v2 v3 v4 v5 h=>fit_mk h (fun a=>h6.mk' v0 a v2 v3 v4 v5) (fun _ v1 _ _ _ _=>some v1) (by kernel_rfl) (fun _=>by kernel_rfl) fun Lp a=>by kernel_rfl
theorem con (k:Nat):Con Tryz.prog S (f k):=con_fn (nt:=46) (live:=live) (Λ:=tab k) tok all_nil mixed Tryz.func252 (by kernel_rfl) (all_cons (fit3 k) (all_cons (fit6 k) all_nil)) fun x=>by kernel_rfl
end impl_Sorted
namespace impl_SuitOf
def S:Sp:=⟨249,⟨[3],[3],[.bor],.own⟩,[.I],[.O]⟩
theorem con (k:Nat):Con Tryz.prog S (f k):=con_fn (nt:=8) (live:=[]) (Λ:=noL) tok (all_cons (ok_con (impl_IsCard.con k)) all_nil) mixed Tryz.func249 (by kernel_rfl) all_nil fun x=>by kernel_rfl
end impl_SuitOf
namespace impl_RankOf
def S:Sp:=⟨313,⟨[3],[3],[.bor],.own⟩,[.I],[.O]⟩
theorem con (k:Nat):Con Tryz.prog S (f k):=con_fn (nt:=8) (live:=[]) (Λ:=noL) tok (all_cons (ok_con (impl_IsCard.con k)) all_nil) mixed Tryz.func313 (by kernel_rfl) all_nil fun x=>by kernel_rfl
end impl_RankOf
namespace impl_IsRed
def S:Sp:=⟨346,⟨[3],[4],[.bor],.own⟩,[.I],[.B]⟩
theorem con (k:Nat):Con Tryz.prog S (f k):=con_fn (nt:=11) (live:=[]) (Λ:=noL) tok (all_cons (ok_con (impl_SuitOf.con k)) all_nil) mixed Tryz.func346 (by kernel_rfl) all_nil fun x=>by kernel_rfl
end impl_IsRed
namespace impl_asks
def S:Sp:=⟨318,⟨[3,3],[4],[.bor,.bor],.own⟩,[.I,.I],[.B]⟩
theorem con (k:Nat):Con Tryz.prog S (f k):=con_fn (nt:=31) (live:=[]) (Λ:=noL) tok (all_cons (ok_con (impl_SuitOf.con k)) (all_cons (ok_con (impl_RankOf.con k)) (all_cons (ok_con (impl_IsRed.con k)) all_nil))) mixed Tryz.func318 (by kernel_rfl) all_nil fun x=>by kernel_rfl
end impl_asks
namespace impl_Matches
def S:Sp:=⟨267,⟨[22,3],[4],[.bor,.bor],.own⟩,[.V,.I],[.B]⟩
def live:List (Nat×List Nat):=[(5,[1,5,18,19,20]),(100005,[4,5])]
def G {R:Type} (k:Nat):Glob R:=mkG tt [impl_IsCard.S.ent (impl_IsCard.f k),impl_IsPattern.S.ent (impl_IsPattern.f k),impl_asks.S.ent (impl_asks.f k)] 89
def h5:Hd:=⟨[.I,.l (.own 0),.V,.I,.I],[.row false .bools]⟩
def T5 {R:Type} (k:Nat) (K:X->St->Option R):h5.Fn (Option R):=fun v0 v1 v2 v3 v4=>l5 k v0 v1 v2 (fun p0=>K (.exit 0) (stOf [4,5] [.one (.l (.any)),.one (.l (.own 0))] [some (.row 0 0 (.bools p0))])) k v3 v4
def tab {R:Type} (k:Nat):LTab R:=fun id K vs hs=>bif id==5 then h5.tell vs hs (T5 k K) else none
theorem fit5 {R:Type} (k:Nat):Fit (R:=R) (G k) live (tab k) (bl Tryz.f267 0):=h5.fit (key:=5) (by kernel_rfl) (T5 k) (fun _ _ _=>rfl) fun K r v0 v1 v2 v3 v4 h=>fit_mk h (fun a=>h5.mk' v0 v1 v2 a.1 a.2) (fun _ _ _ v3 v4=>some (v3,v4)) (by kernel_rfl) (fun _=>by kernel_rfl) fun Lp a=>by kernel_rfl
theorem con (k:Nat):Con Tryz.prog S (f k):=con_fn (nt:=89) (live:=live) (Λ:=tab k) tok (all_cons (ok_con (impl_IsCard.con k)) (all_cons (ok_con (impl_IsPattern.con k)) (all_cons (ok_con (impl_asks.con k)) all_nil))) mixed Tryz.func267 (by kernel_rfl) (all_cons (fit5 k) all_nil) fun x=>by kernel_rfl
end impl_Matches
namespace impl_FitsOn
def S:Sp:=⟨255,⟨[31,3,3],[4],[.bor,.bor,.bor],.own⟩,[.agg .lent kd24,.I,.I],[.B]⟩
theorem con (k:Nat):Con Tryz.prog S (f k):=con_fn (nt:=46) (live:=[]) (Λ:=noL) tok (all_cons (ok_con (impl_IsCard.con k)) (all_cons (ok_con (impl_IsRules.con k)) (all_cons (ok_con (impl_SuitOf.con k)) (all_cons (ok_con (impl_Matches.con k)) (all_cons (ok_con (impl_RankOf.con k)) all_nil))))) mixed Tryz.func255 (by kernel_rfl) all_nil fun x=>by kernel_rfl
end impl_FitsOn
namespace impl_Playable
def S:Sp:=⟨179,⟨[33],[22],[.bor],.own⟩,[.agg .lent kd27],[.l .own (.ints .i64)]⟩
def live:List (Nat×List Nat):=[(5,[1,3,20,21,22]),(100005,[2,3])]
def G {R:Type} (k:Nat):Glob R:=mkG tt [impl_IsEnded.S.ent (impl_IsEnded.f k),impl_IsGame.S.ent (impl_IsGame.f k),impl_Sorted.S.ent (impl_Sorted.f k),impl_FitsOn.S.ent (impl_FitsOn.f k)] 44
def h5:Hd:=⟨[.l (.ptr 0 0),.l (.own 1),.l (.own 2),.I,.I],[.box [.I,.I,.b,.b,.V,.V,.I,.I,.W,.V,.V,.I,.I,.I],.V,.V]⟩
def T5 {R:Type} (k:Nat) (K:X->St->Option R):h5.Fn (Option R):=fun v0 v1 v2 v3 v4 v5 v6 v7 v8 v9 _ _ v12 _ _ _ v16 v17=>l5 k v0 v2 v3 v4 v5 v6 v7 v8 v9 v12 v17 (fun p0=>K (.exit 0) (stOf [2,3] [.one (.l (.any)),.one (.l (.own 0))] [some (.row 0 0 (.ints .i64 p0))])) k v1 v16
def tab {R:Type} (k:Nat):LTab R:=fun id K vs hs=>bif id==5 then h5.tell vs hs (T5 k K) else none
theorem fit5 {R:Type} (k:Nat):Fit (R:=R) (G k) live (tab k) (bl Tryz.f179 0):=h5.fit (key:=5) (by kernel_rfl) (T5 k) (fun _ _ _=>rfl) fun K r v0 v1 v2 v3 v4 v5 v6 v7 v8 v9 v10 v11 v12 v13 v14 v15 v16 v17 h=>fit_mk h (fun a=>h5.mk' v0 a.1 v2 v3 v4 v5 v6 v7 v8 v9 v10 v11 v12 v13 v14 v15 a.2 v17) (fun _ v1 _ _ _ _ _ _ _ _ _ _ _ _ _ _ v16 _=>some (v1,v16)) (by kernel_rfl) (fun _=>by kernel_rfl) fun Lp a=>by kernel_rfl
theorem con (k:Nat):Con Tryz.prog S (f k):=con_fn (nt:=44) (live:=live) (Λ:=tab k) tok (all_cons (ok_con (impl_IsEnded.con k)) (all_cons (ok_con (impl_IsGame.con k)) (all_cons (ok_con (impl_Sorted.con k)) (all_cons (ok_con (impl_FitsOn.con k)) all_nil)))) mixed Tryz.func179 (by kernel_rfl) (all_cons (fit5 k) all_nil) fun x=>by kernel_rfl
end impl_Playable
namespace impl_PlaceOf
def S:Sp:=⟨314,⟨[22,3],[3],[.bor,.bor],.own⟩,[.V,.I],[.O]⟩
def live:List (Nat×List Nat):=[(2,[1,7,8,9]),(100002,[4])]
def G {R:Type} (k:Nat):Glob R:=mkG tt [] 19
def h2:Hd:=⟨[.I,.V,.I,.I],[]⟩
def T2 {R:Type} (k:Nat) (K:X->St->Option R):h2.Fn (Option R):=fun v0 v1 v2 v3=>l2 k v0 v1 v2 (fun p0=>K .ret (stOf [4] [.one (.l (.i .i64 p0))] [])) (K (.exit 0) (stOf [4] [.one (.l (.any))] [])) k v3
def tab {R:Type} (k:Nat):LTab R:=fun id K vs hs=>bif id==2 then h2.tell vs hs (T2 k K) else none
theorem fit2 {R:Type} (k:Nat):Fit (R:=R) (G k) live (tab k) (bl Tryz.f314 0):=h2.fit (key:=2) (by kernel_rfl) (T2 k) (fun _ _ _=>rfl) fun K r v0 v1 v2 v3 h=>fit_mk h (fun a=>h2.mk' v0 v1 v2 a) (fun _ _ _ v3=>some v3) (by kernel_rfl) (fun _=>by kernel_rfl) fun Lp a=>by kernel_rfl
theorem con (k:Nat):Con Tryz.prog S (f k):=con_fn (nt:=19) (live:=live) (Λ:=tab k) tok all_nil mixed Tryz.func314 (by kernel_rfl) (all_cons (fit2 k) all_nil) fun x=>by kernel_rfl
end impl_PlaceOf
namespace impl_HasCard
def S:Sp:=⟨263,⟨[22,3],[4],[.bor,.bor],.own⟩,[.V,.I],[.B]⟩
theorem con (k:Nat):Con Tryz.prog S (f k):=con_fn (nt:=9) (live:=[]) (Λ:=noL) tok (all_cons (ok_con (impl_PlaceOf.con k)) all_nil) mixed Tryz.func263 (by kernel_rfl) all_nil fun x=>by kernel_rfl
end impl_HasCard
namespace impl_Without
def S:Sp:=⟨264,⟨[22,3],[22],[.bor,.bor],.own⟩,[.V,.I],[.l .own (.ints .i64)]⟩
def live:List (Nat×List Nat):=[(3,[1,5,9,10,11]),(100003,[4,5])]
def G {R:Type} (k:Nat):Glob R:=mkG tt [] 24
def h3:Hd:=⟨[.I,.l (.own 0),.V,.I,.I],[.V]⟩
def T3 {R:Type} (k:Nat) (K:X->St->Option R):h3.Fn (Option R):=fun v0 v1 v2 v3 v4=>l3 k v0 v1 v2 (fun p0=>K (.exit 0) (stOf [4,5] [.one (.l (.any)),.one (.l (.own 0))] [some (.row 0 0 (.ints .i64 p0))])) k v3 v4
def tab {R:Type} (k:Nat):LTab R:=fun id K vs hs=>bif id==3 then h3.tell vs hs (T3 k K) else none
theorem fit3 {R:Type} (k:Nat):Fit (R:=R) (G k) live (tab k) (bl Tryz.f264 0):=h3.fit (key:=3) (by kernel_rfl) (T3 k) (fun _ _ _=>rfl) fun K r v0 v1 v2 v3 v4 h=>fit_mk h (fun a=>h3.mk' v0 v1 v2 a.1 a.2) (fun _ _ _ v3 v4=>some (v3,v4)) (by kernel_rfl) (fun _=>by kernel_rfl) fun Lp a=>by kernel_rfl
theorem con (k:Nat):Con Tryz.prog S (f k):=con_fn (nt:=24) (live:=live) (Λ:=tab k) tok all_nil mixed Tryz.func264 (by kernel_rfl) (all_cons (fit3 k) all_nil) fun x=>by kernel_rfl
end impl_Without
namespace impl_DoesSkip
def S:Sp:=⟨304,⟨[31,3],[4],[.bor,.bor],.own⟩,[.agg .lent kd24,.I],[.B]⟩
theorem con (k:Nat):Con Tryz.prog S (f k):=con_fn (nt:=13) (live:=[]) (Λ:=noL) tok (all_cons (ok_con (impl_IsRules.con k)) (all_cons (ok_con (impl_Matches.con k)) all_nil)) mixed Tryz.func304 (by kernel_rfl) all_nil fun x=>by kernel_rfl
end impl_DoesSkip
namespace impl_PlayOn
def S:Sp:=⟨237,⟨[33,3],[33,4],[.bor,.bor],.own⟩,[.agg .lent kd27,.I],[.agg .own kd27,.B]⟩
theorem con (k:Nat):Con Tryz.prog S (f k):=con_fn (nt:=54) (live:=[]) (Λ:=noL) tok (all_cons (ok_con (impl_Game_copied.con k)) (all_cons (ok_con (impl_Playable.con k)) (all_cons (ok_con (impl_HasCard.con k)) (all_cons (ok_con (impl_Without.con k)) (all_cons (ok_con (impl_DoesSkip.con k)) all_nil))))) mixed Tryz.func237 (by kernel_rfl) all_nil fun x=>by kernel_rfl
end impl_PlayOn
namespace impl_ReplayMove
def S:Sp:=⟨149,⟨[33,3],[33,4],[.bor,.bor],.own⟩,[.agg .lent kd27,.I],[.agg .own kd27,.B]⟩
theorem con (k:Nat):Con Tryz.prog S (f k):=con_fn (nt:=17) (live:=[]) (Λ:=noL) tok (all_cons (ok_con (impl_TakeCards.con k)) (all_cons (ok_con (impl_PlayOn.con k)) all_nil)) mixed Tryz.func149 (by kernel_rfl) all_nil fun x=>by kernel_rfl
end impl_ReplayMove
namespace impl_Replayed
def S:Sp:=⟨88,⟨[33,22],[33,3],[.bor,.bor],.own⟩,[.agg .lent kd27,.V],[.agg .own kd27,.O]⟩
def live:List (Nat×List Nat):=[(3,[1,4,6,13,14,15]),(100003,[1,4,5,6])]
def G {R:Type} (k:Nat):Glob R:=mkG tt [impl_Game_copied.S.ent (impl_Game_copied.f k),impl_ReplayMove.S.ent (impl_ReplayMove.f k)] 35
def h3:Hd:=⟨[.V,.l (.ptr 0 0),.l (.ptr 1 0),.V,.I,.I],[.box [.I,.I,.bc false,.bc false,.nil,.nil,.I,.I,.nil,.nil,.nil,.I,.I,.I],.box [.I,.I,.b,.b,.own 2,.own 3,.I,.I,.own 4,.own 5,.own 6,.I,.I,.I],.V,.V,.W,.V,.V]⟩
def T3 {R:Type} (k:Nat) (K:X->St->Option R):h3.Fn (Option R):=fun v0 v1 v2 v3 v4 v5 v8 v9 v10 v11 v12 v13 v14 v15 v16 v17 v18 v19 v20 v21 v22 v23 v24 v25 v26=>l3 k v1 v2 (fun p0 p1 p2 p3 p4 p5 p6 p7 p8 p9 p10 p11 p12 p13 p14=>K .ret (stOf [1,4,5,6] [.one (.l (.val false (.ints .i64 v0))),.one (.l (.bptr 0 0)),.one (.l (.i .i64 p0)),.one (.l (.bptr 6 0))] [some (.box 0 [.i .i64 p1,.i .i64 p2,.b p3,.b p4,.own 1,.own 2,.i .i64 p5,.i .i64 p6,.own 3,.own 4,.own 5,.i .i64 p7,.i .i64 p8,.i .i64 p9]),some (.row 0 0 (.ints .i64 p10)),some (.row 0 0 (.ints .i64 p11)),some (.row 0 0 (.rows true p12)),some (.row 0 0 (.ints .i64 p13)),some (.row 0 0 (.ints .i64 p14)),some (.box 0 [.i .i64 p1,.i .i64 p2,.b p3,.b p4,.own 1,.own 2,.i .i64 p5,.i .i64 p6,.own 3,.own 4,.own 5,.i .i64 p7,.i .i64 p8,.i .i64 p9])])) (fun p0 p1 p2 p3 p4 p5 p6 p7 p8 p9 p10 p11 p12 p13=>K (.exit 0) (stOf [1,4,5,6] [.one (.l (.val false (.ints .i64 v0))),.one (.l (.bptr 0 0)),.one (.l (.any)),.one (.l (.bptr 1 0))] [some (.box 0 [.i .i64 v4,.i .i64 v5,.b false,.b false,.nil,.nil,.i .i64 v8,.i .i64 v9,.nil,.nil,.nil,.i .i64 v10,.i .i64 v11,.i .i64 v12]),some (.box 0 [.i .i64 p0,.i .i64 p1,.b p2,.b p3,.own 2,.own 3,.i .i64 p4,.i .i64 p5,.own 4,.own 5,.own 6,.i .i64 p6,.i .i64 p7,.i .i64 p8]),some (.row 0 0 (.ints .i64 p9)),some (.row 0 0 (.ints .i64 p10)),some (.row 0 0 (.rows true p11)),some (.row 0 0 (.ints .i64 p12)),some (.row 0 0 (.ints .i64 p13))])) k v3 v13 v14 v15 v16 v17 v18 v19 v20 v21 v22 v23 v24 v25 v26
def tab {R:Type} (k:Nat):LTab R:=fun id K vs hs=>bif id==3 then h3.tell vs hs (T3 k K) else none
theorem fit3 {R:Type} (k:Nat):Fit (R:=R) (G k) live (tab k) (bl Tryz.f88 0):=h3.fit (key:=3) (by kernel_rfl) (T3 k) (fun _ _ _=>rfl) fun K r v0 v1 v2 v3 v4 v5 v8 v9 v10 v11 v12 v13 v14 v15 v16 v17 v18 v19 v20 v21 v22 v23 v24 v25 v26 h=>fit_mk h (fun a=>h3.mk' v0 v1 v2 a.1 v4 v5 v8 v9 v10 v11 v12 a.2.1 (t2 a).1 (t3 a).1 (t4 a).1 (t5 a).1 (t6 a).1 (t7 a).1 (t8 a).1 (t9 a).1 (t9 a.2).1 (t9 (t2 a)).1 (t9 (t3 a)).1 (t9 (t4 a)).1 (t9 (t5 a))) (fun _ _ _ v3 _ _ _ _ _ _ _ v13 v14 v15 v16 v17 v18 v19 v20 v21 v22 v23 v24 v25 v26=>some (v3,v13,v14,v15,v16,v17,v18,v19,v20,v21,v22,v23,v24,v25,v26)) (by kernel_rfl) (fun _=>by kernel_rfl) fun Lp a=>by kernel_rfl
theorem con (k:Nat):Con Tryz.prog S (f k):=con_fn (nt:=35) (live:=live) (Λ:=tab k) tok (all_cons (ok_con (impl_Game_copied.con k)) (all_cons (ok_con (impl_ReplayMove.con k)) all_nil)) mixed Tryz.func88 (by kernel_rfl) (all_cons (fit3 k) all_nil) fun x=>by kernel_rfl
end impl_Replayed
namespace impl_IsTable
def S:Sp:=⟨27,⟨[35],[4],[.bor],.own⟩,[.agg .lent kd29],[.B]⟩
theorem con (k:Nat):Con Tryz.prog S (f k):=con_fn (nt:=85) (live:=[]) (Λ:=noL) tok (all_cons (ok_con (impl_NewGame.con k)) (all_cons (ok_con (impl_IsRules.con k)) (all_cons (ok_con (impl_IsSheet.con k)) (all_cons (ok_con (impl_EqualGames.con k)) (all_cons (ok_con (impl_Replayed.con k)) all_nil))))) mixed Tryz.func27 (by kernel_rfl) all_nil fun x=>by kernel_rfl
end impl_IsTable
namespace impl_Table_becomes
def S:Sp:=⟨52,⟨[35,35,4],[35,4],[.bor,.mov,.bor],.own⟩,[.agg .lent kd29,.agg .own kd29,.l .lent .bool],[.agg .own kd29,.B]⟩
theorem con (k:Nat):Con Tryz.prog S (f k):=con_fn (nt:=23) (live:=[]) (Λ:=noL) tok (all_cons (ok_con (impl_IsTable.con k)) (all_cons (ok_con (impl_Table_copied.con k)) all_nil)) mixed Tryz.func52 (by kernel_rfl) all_nil fun x=>by kernel_rfl
end impl_Table_becomes
namespace impl_StepRules
def S:Sp:=⟨11,⟨[35,9],[35,4],[.bor,.bor],.own⟩,[.agg .lent kd29,.l .lent .str],[.agg .own kd29,.B]⟩
theorem con (k:Nat):Con Tryz.prog S (f k):=con_fn (nt:=39) (live:=[]) (Λ:=noL) tok (all_cons (ok_con (impl_Table_copied.con k)) (all_cons (ok_con (impl_ParseRules.con k)) (all_cons (ok_con (impl_Table_becomes.con k)) all_nil))) mixed Tryz.func11 (by kernel_rfl) all_nil fun x=>by kernel_rfl
end impl_StepRules
namespace laws_eqIntS
def S:Sp:=⟨54,⟨[22,22],[4],[.bor,.bor],.own⟩,[.V,.V],[.B]⟩
def live:List (Nat×List Nat):=[(4,[0,1,5]),(100004,[4])]
def G {R:Type} (k:Nat):Glob R:=mkG tt [] 26
def h4:Hd:=⟨[.V,.V,.I],[]⟩
def T4 {R:Type} (k:Nat) (K:X->St->Option R):h4.Fn (Option R):=fun v0 v1 v2=>l4 k v0 v1 (K .ret (stOf [4] [.one (.l (.b false))] [])) (K (.exit 0) (stOf [4] [.one (.l (.any))] [])) k v2
def tab {R:Type} (k:Nat):LTab R:=fun id K vs hs=>bif id==4 then h4.tell vs hs (T4 k K) else none
theorem fit4 {R:Type} (k:Nat):Fit (R:=R) (G k) live (tab k) (bl Tryz.f54 0):=h4.fit (key:=4) (by kernel_rfl) (T4 k) (fun _ _ _=>rfl) fun K r v0 v1 v2 h=>fit_mk h (fun a=>h4.mk' v0 v1 a) (fun _ _ v2=>some v2) (by kernel_rfl) (fun _=>by kernel_rfl) fun Lp a=>by kernel_rfl
theorem con (k:Nat):Con Tryz.prog S (f k):=con_fn (nt:=26) (live:=live) (Λ:=tab k) tok all_nil mixed Tryz.func54 (by kernel_rfl) (all_cons (fit4 k) all_nil) fun x=>by kernel_rfl
end laws_eqIntS
namespace laws_eqRules
def S:Sp:=⟨53,⟨[31,31],[4],[.bor,.bor],.own⟩,[.agg .lent kd24,.agg .lent kd24],[.B]⟩
theorem con (k:Nat):Con Tryz.prog S (f k):=con_fn (nt:=47) (live:=[]) (Λ:=noL) tok (all_cons (ok_con (laws_eqIntS.con k)) all_nil) mixed Tryz.func53 (by kernel_rfl) all_nil fun x=>by kernel_rfl
end laws_eqRules
namespace laws_eqIntSS
def S:Sp:=⟨56,⟨[25,25],[4],[.bor,.bor],.own⟩,[.l .lent .rows,.l .lent .rows],[.B]⟩
def live:List (Nat×List Nat):=[(4,[0,1,5]),(100004,[4])]
def G {R:Type} (k:Nat):Glob R:=mkG tt [laws_eqIntS.S.ent (laws_eqIntS.f k)] 27
def h4:Hd:=⟨[.W,.W,.I],[]⟩
def T4 {R:Type} (k:Nat) (K:X->St->Option R):h4.Fn (Option R):=fun v0 v1 v2=>l4 k v0 v1 (K .ret (stOf [4] [.one (.l (.b false))] [])) (K (.exit 0) (stOf [4] [.one (.l (.any))] [])) k v2
def tab {R:Type} (k:Nat):LTab R:=fun id K vs hs=>bif id==4 then h4.tell vs hs (T4 k K) else none
theorem fit4 {R:Type} (k:Nat):Fit (R:=R) (G k) live (tab k) (bl Tryz.f56 0):=h4.fit (key:=4) (by kernel_rfl) (T4 k) (fun _ _ _=>rfl) fun K r v0 v1 v2 h=>fit_mk h (fun a=>h4.mk' v0 v1 a) (fun _ _ v2=>some v2) (by kernel_rfl) (fun _=>by kernel_rfl) fun Lp a=>by kernel_rfl
theorem con (k:Nat):Con Tryz.prog S (f k):=con_fn (nt:=27) (live:=live) (Λ:=tab k) tok (all_cons (ok_con (laws_eqIntS.con k)) all_nil) mixed Tryz.func56 (by kernel_rfl) (all_cons (fit4 k) all_nil) fun x=>by kernel_rfl
end laws_eqIntSS
namespace laws_eqGame
def S:Sp:=⟨55,⟨[33,33],[4],[.bor,.bor],.own⟩,[.agg .lent kd27,.agg .lent kd27],[.B]⟩
theorem con (k:Nat):Con Tryz.prog S (f k):=con_fn (nt:=44) (live:=[]) (Λ:=noL) tok (all_cons (ok_con (laws_eqRules.con k)) (all_cons (ok_con (laws_eqIntS.con k)) (all_cons (ok_con (laws_eqIntSS.con k)) all_nil))) mixed Tryz.func55 (by kernel_rfl) all_nil fun x=>by kernel_rfl
end laws_eqGame
namespace laws_eqTable
def S:Sp:=⟨12,⟨[35,35],[4],[.bor,.bor],.own⟩,[.agg .lent kd29,.agg .lent kd29],[.B]⟩
theorem con (k:Nat):Con Tryz.prog S (f k):=con_fn (nt:=46) (live:=[]) (Λ:=noL) tok (all_cons (ok_con (laws_eqRules.con k)) (all_cons (ok_con (laws_eqIntS.con k)) (all_cons (ok_con (laws_eqGame.con k)) (all_cons (ok_con (laws_eqIntSS.con k)) all_nil)))) mixed Tryz.func12 (by kernel_rfl) all_nil fun x=>by kernel_rfl
end laws_eqTable
namespace laws_markIntS
def S:Sp:=⟨58,⟨[22,3],[3],[.io,.bor],.own⟩,[.l .own (.ints .i64),.I],[.O,.l .own (.ints .i64)]⟩
def live:List (Nat×List Nat):=[(2,[0,1,5,19]),(100002,[1,4,19])]
def G {R:Type} (k:Nat):Glob R:=mkG tt [] 19
def h2:Hd:=⟨[.l (.own 0),.I,.I,.l (.own 0)],[.V]⟩
def T2 {R:Type} (k:Nat) (K:X->St->Option R):h2.Fn (Option R):=fun v0 v1 v2=>l2 k (fun p0 p1=>K (.exit 0) (stOf [1,4,19] [.one (.l (.i .i64 p0)),.one (.l (.any)),.one (.l (.own 0))] [some (.row 0 0 (.ints .i64 p1))])) k v0 v1 v2
def tab {R:Type} (k:Nat):LTab R:=fun id K vs hs=>bif id==2 then h2.tell vs hs (T2 k K) else none
theorem fit2 {R:Type} (k:Nat):Fit (R:=R) (G k) live (tab k) (bl Tryz.f58 0):=h2.fit (key:=2) (by kernel_rfl) (T2 k) (fun _ _ _=>rfl) fun K r v0 v1 v2 h=>fit_mk h (fun a=>h2.mk' a.1 a.2.1 (t2 a)) (fun v0 v1 v2=>some (v0,v1,v2)) (by kernel_rfl) (fun _=>by kernel_rfl) fun Lp a=>by kernel_rfl
theorem con (k:Nat):Con Tryz.prog S (f k):=con_fn (nt:=19) (live:=live) (Λ:=tab k) tok all_nil mixed Tryz.func58 (by kernel_rfl) (all_cons (fit2 k) all_nil) fun x=>by kernel_rfl
end laws_markIntS
namespace laws_markRules
def S:Sp:=⟨57,⟨[31,3],[3],[.io,.bor],.own⟩,[.agg .own kd24,.I],[.O,.agg .own kd24]⟩
theorem con (k:Nat):Con Tryz.prog S (f k):=con_fn (nt:=14) (live:=[]) (Λ:=noL) tok (all_cons (ok_con (laws_markIntS.con k)) all_nil) mixed Tryz.func57 (by kernel_rfl) all_nil fun x=>by kernel_rfl
end laws_markRules
namespace laws_markIntSS
def S:Sp:=⟨60,⟨[25,3],[3],[.io,.bor],.own⟩,[.l .own .rows,.I],[.O,.l .own .rows]⟩
def live:List (Nat×List Nat):=[(2,[0,1,5,19]),(100002,[1,4,19])]
def G {R:Type} (k:Nat):Glob R:=mkG tt [laws_markIntS.S.ent (laws_markIntS.f k)] 19
def h2:Hd:=⟨[.l (.own 0),.I,.I,.l (.own 0)],[.W]⟩
def T2 {R:Type} (k:Nat) (K:X->St->Option R):h2.Fn (Option R):=fun v0 v1 v2=>l2 k (fun p0 p1=>K (.exit 0) (stOf [1,4,19] [.one (.l (.i .i64 p0)),.one (.l (.any)),.one (.l (.own 0))] [some (.row 0 0 (.rows true p1))])) k v0 v1 v2
def tab {R:Type} (k:Nat):LTab R:=fun id K vs hs=>bif id==2 then h2.tell vs hs (T2 k K) else none
theorem fit2 {R:Type} (k:Nat):Fit (R:=R) (G k) live (tab k) (bl Tryz.f60 0):=h2.fit (key:=2) (by kernel_rfl) (T2 k) (fun _ _ _=>rfl) fun K r v0 v1 v2 h=>fit_mk h (fun a=>h2.mk' a.1 a.2.1 (t2 a)) (fun v0 v1 v2=>some (v0,v1,v2)) (by kernel_rfl) (fun _=>by kernel_rfl) fun Lp a=>by kernel_rfl
theorem con (k:Nat):Con Tryz.prog S (f k):=con_fn (nt:=19) (live:=live) (Λ:=tab k) tok (all_cons (ok_con (laws_markIntS.con k)) all_nil) mixed Tryz.func60 (by kernel_rfl) (all_cons (fit2 k) all_nil) fun x=>by kernel_rfl
end laws_markIntSS
namespace laws_markGame
def S:Sp:=⟨59,⟨[33,3],[3],[.io,.bor],.own⟩,[.agg .own kd27,.I],[.O,.agg .own kd27]⟩
theorem con (k:Nat):Con Tryz.prog S (f k):=con_fn (nt:=22) (live:=[]) (Λ:=noL) tok (all_cons (ok_con (laws_markRules.con k)) (all_cons (ok_con (laws_markIntS.con k)) (all_cons (ok_con (laws_markIntSS.con k)) all_nil))) mixed Tryz.func59 (by kernel_rfl) all_nil fun x=>by kernel_rfl
end laws_markGame
namespace laws_markTable
def S:Sp:=⟨13,⟨[35,3],[3],[.io,.bor],.own⟩,[.agg .own kd29,.I],[.O,.agg .own kd29]⟩
theorem con (k:Nat):Con Tryz.prog S (f k):=con_fn (nt:=30) (live:=[]) (Λ:=noL) tok (all_cons (ok_con (laws_markRules.con k)) (all_cons (ok_con (laws_markIntS.con k)) (all_cons (ok_con (laws_markGame.con k)) (all_cons (ok_con (laws_markIntSS.con k)) all_nil)))) mixed Tryz.func13 (by kernel_rfl) all_nil fun x=>by kernel_rfl
end laws_markTable
namespace laws_heldIntS
def S:Sp:=⟨62,⟨[22,3],[3],[.bor,.bor],.own⟩,[.V,.I],[.O]⟩
def live:List (Nat×List Nat):=[(2,[0,1,5]),(100002,[1,4])]
def G {R:Type} (k:Nat):Glob R:=mkG tt [] 21
def h2:Hd:=⟨[.V,.I,.I],[]⟩
def T2 {R:Type} (k:Nat) (K:X->St->Option R):h2.Fn (Option R):=fun v0 v1 v2=>l2 k v0 (fun p0=>K .ret (stOf [1,4] [.one (.l (.i .i64 p0)),.one (.l (.i .i64 (-1)))] [])) (fun p0=>K (.exit 0) (stOf [1,4] [.one (.l (.i .i64 p0)),.one (.l (.any))] [])) k v1 v2
def tab {R:Type} (k:Nat):LTab R:=fun id K vs hs=>bif id==2 then h2.tell vs hs (T2 k K) else none
theorem fit2 {R:Type} (k:Nat):Fit (R:=R) (G k) live (tab k) (bl Tryz.f62 0):=h2.fit (key:=2) (by kernel_rfl) (T2 k) (fun _ _ _=>rfl) fun K r v0 v1 v2 h=>fit_mk h (fun a=>h2.mk' v0 a.1 a.2) (fun _ v1 v2=>some (v1,v2)) (by kernel_rfl) (fun _=>by kernel_rfl) fun Lp a=>by kernel_rfl
theorem con (k:Nat):Con Tryz.prog S (f k):=con_fn (nt:=21) (live:=live) (Λ:=tab k) tok all_nil mixed Tryz.func62 (by kernel_rfl) (all_cons (fit2 k) all_nil) fun x=>by kernel_rfl
end laws_heldIntS
namespace laws_heldRules
def S:Sp:=⟨61,⟨[31,3],[3],[.bor,.bor],.own⟩,[.agg .lent kd24,.I],[.O]⟩
theorem con (k:Nat):Con Tryz.prog S (f k):=con_fn (nt:=18) (live:=[]) (Λ:=noL) tok (all_cons (ok_con (laws_heldIntS.con k)) all_nil) mixed Tryz.func61 (by kernel_rfl) all_nil fun x=>by kernel_rfl
end laws_heldRules
namespace laws_heldIntSS
def S:Sp:=⟨64,⟨[25,3],[3],[.bor,.bor],.own⟩,[.l .lent .rows,.I],[.O]⟩
def live:List (Nat×List Nat):=[(2,[0,1,5]),(100002,[1,4])]
def G {R:Type} (k:Nat):Glob R:=mkG tt [laws_heldIntS.S.ent (laws_heldIntS.f k)] 21
def h2:Hd:=⟨[.W,.I,.I],[]⟩
def T2 {R:Type} (k:Nat) (K:X->St->Option R):h2.Fn (Option R):=fun v0 v1 v2=>l2 k v0 (fun p0=>K .ret (stOf [1,4] [.one (.l (.i .i64 p0)),.one (.l (.i .i64 (-1)))] [])) (fun p0=>K (.exit 0) (stOf [1,4] [.one (.l (.i .i64 p0)),.one (.l (.any))] [])) k v1 v2
def tab {R:Type} (k:Nat):LTab R:=fun id K vs hs=>bif id==2 then h2.tell vs hs (T2 k K) else none
theorem fit2 {R:Type} (k:Nat):Fit (R:=R) (G k) live (tab k) (bl Tryz.f64 0):=h2.fit (key:=2) (by kernel_rfl) (T2 k) (fun _ _ _=>rfl) fun K r v0 v1 v2 h=>fit_mk h (fun a=>h2.mk' v0 a.1 a.2) (fun _ v1 v2=>some (v1,v2)) (by kernel_rfl) (fun _=>by kernel_rfl) fun Lp a=>by kernel_rfl
theorem con (k:Nat):Con Tryz.prog S (f k):=con_fn (nt:=21) (live:=live) (Λ:=tab k) tok (all_cons (ok_con (laws_heldIntS.con k)) all_nil) mixed Tryz.func64 (by kernel_rfl) (all_cons (fit2 k) all_nil) fun x=>by kernel_rfl
end laws_heldIntSS
namespace laws_heldGame
def S:Sp:=⟨63,⟨[33,3],[3],[.bor,.bor],.own⟩,[.agg .lent kd27,.I],[.O]⟩
theorem con (k:Nat):Con Tryz.prog S (f k):=con_fn (nt:=30) (live:=[]) (Λ:=noL) tok (all_cons (ok_con (laws_heldRules.con k)) (all_cons (ok_con (laws_heldIntS.con k)) (all_cons (ok_con (laws_heldIntSS.con k)) all_nil))) mixed Tryz.func63 (by kernel_rfl) all_nil fun x=>by kernel_rfl
end laws_heldGame
namespace laws_heldTable
def S:Sp:=⟨14,⟨[35,3],[3],[.bor,.bor],.own⟩,[.agg .lent kd29,.I],[.O]⟩
theorem con (k:Nat):Con Tryz.prog S (f k):=con_fn (nt:=42) (live:=[]) (Λ:=noL) tok (all_cons (ok_con (laws_heldRules.con k)) (all_cons (ok_con (laws_heldIntS.con k)) (all_cons (ok_con (laws_heldGame.con k)) (all_cons (ok_con (laws_heldIntSS.con k)) all_nil)))) mixed Tryz.func14 (by kernel_rfl) all_nil fun x=>by kernel_rfl
end laws_heldTable
namespace laws_FnExactStepRules
def S:Sp:=⟨3,⟨[29,9],[4],[.bor,.bor],.own⟩,[.agg .lent kd29,.l .lent .str],[.B]⟩
theorem con (k:Nat):Con Tryz.prog S (f k):=con_fn (nt:=104) (live:=[]) (Λ:=noL) tok (all_cons (ok_con (laws_szTable.con k)) (all_cons (ok_con (spec_StepRules.con k)) (all_cons (ok_con (laws_toTable.con k)) (all_cons (ok_con (impl_StepRules.con k)) (all_cons (ok_con (laws_eqTable.con k)) (all_cons (ok_con (laws_markTable.con k)) (all_cons (ok_con (laws_heldTable.con k)) all_nil))))))) mixed Tryz.func3 (by kernel_rfl) all_nil fun x=>by kernel_rfl
end laws_FnExactStepRules
end Go.Proofs.YtbmmhdmljajcfaaGreatDoor
