/- Functions of Go's library, by the contracts that the kit's shelf proves of them. Conditions: as each says. -/
import Derived.Test.YtbmmhdmljajcfaaGreatDoorVShape
import Derived.Lib.Join
import Derived.Lib.Bytealg
import Derived.Lib.AppendIntMem
import Derived.Lib.Atoi
import Derived.Lib.AtoiErrMem
set_option linter.unusedVariables false
set_option linter.unusedSimpArgs false
namespace Go.Proofs.YtbmmhdmljajcfaaGreatDoor.V
open Go
section
variable {P:Program} {f:FuncId}
theorem Frame.AD {C:Cx} {w':World} (h:Go.RowKit.Below C.w0.heap.size C.w0 w'):Frame C w':=⟨h.size,h.os,h.tape,h.output,fun b hb _=>h.block b hb⟩
theorem Gf {C:Cx} {g:yb} {args:List Value} {s:BA} {e:Ending} {w':World} (hr:g.results.length=1) (yc:wN g.kS=true) (he:e= .returned (.string s)) (hb:Go.RowKit.Below C.w0.heap.size C.w0 w'):Ends C g args [.l (.s s)] e w':=by
 refine ⟨[.string s],fz,by rw[he];rfl,by simpa using hr.symm,.AD hb,fun b=>by simp,fun b hb=>by simp at hb,?_⟩
 rw[ky _ _ yc,cm]
 exact ⟨fz,fz,⟨rfl,rfl⟩,rfl,(dw _).symm⟩
def se (s:BA) (c:Int):Int:=Go.Lib.indexByte s.data.toList c.toNat.toUInt8
def pR (l:List BA) (sep:BA):BA:=⟨(Go.Lib.join (l.map (·.data.toList)) sep.data.toList).toArray⟩
theorem Hq {t1 t2 t3:Nat}
 (h: ∀(bk o c:Nat) (xs:List BA) (sep:BA) (w:World),(∀(j:Nat) x,xs[j]? =some x->w.cell? ⟨bk,o+j,none⟩=some (.string x))->bk<w.heap.size->xs.length<=140737488355328->xs.length<=c->(Go.Lib.join (xs.map (·.data.toList)) sep.data.toList).length<=140737488355328->Calls P f #[.slice (some ⟨bk,o,none⟩) xs.length c,.string sep] w fun e w'=>e= .returned (.string ⟨(Go.Lib.join (xs.map (·.data.toList)) sep.data.toList).toArray⟩)/\Go.RowKit.Below w.heap.size w w')
 (h0: ∀(a:Option Addr) (c:Nat) (sep:BA) (w:World),Calls P f #[.slice a 0 c,.string sep] w fun e w'=>e= .returned (.string ⟨#[]⟩)/\w' =w)
 {l:List BA} {sep:BA} (hN:l.length<=140737488355328) (hlen:(Go.Lib.join (l.map (·.data.toList)) sep.data.toList).length<=140737488355328):
 eP P f ⟨[t1,t2],[t3],[.qp,.qp],.own⟩ [.l (.sl .bi (.strs l)),.l (.s sep)] [.l (.s (pR l sep))]:=by
 intro C args hP jX h1 h2
 match args,jX with
 | [v,u],⟨F1,F2,⟨hv,_⟩,⟨F3,F4,⟨hu,_⟩,_,_⟩,_⟩=>
   have hu:u= .string sep:=hu
   subst hu
   obtain ⟨A,cap,rfl,D7,nL⟩:=hv
   have D7:l.length<=cap:=D7
   show Calls P f #[.slice A l.length cap,.string sep] C.w0 _
   by_cases hl:l.length=0
   ·obtain rfl:=bG hl
    refine Calls.mono (h0 A cap sep C.w0) fun e w' ⟨he,hw⟩=> ?_
    subst hw
    exact Gf rfl rfl (by rw[he];rfl) (Go.RowKit.Below.refl _ _)
   ·obtain ⟨ad,rfl,hz,vs,hj,sf⟩:=nL hl
    have cell: ∀(j:Nat) x,l[j]? =some x->C.w0.cell? (ad.add j)=some (.string x):=fun j x hx=>by
     have iS:j<l.length:=(List.getElem?_eq_some_iff.1 hx).1
     have Xi:(Row.strs l).cells[j]? =some (.sc (.string x)):=by simp[Row.cells,hx]
     obtain ⟨v',G1,G2,m1,m2,_⟩:=sf.get Xi
     have:v' = .string x:=m2.1
     subst this
     rw[hj j (by simpa[Row.cells] using iS)]
     exact m1
    obtain ⟨x0,hx0⟩: ∃x,l[0]? =some x:=⟨l[0]'(by omega),aw _⟩
    have Yl:=cell 0 x0 hx0
    obtain ⟨bk,o,sp⟩:=ad
    have hsp:sp=none:=by
     cases sp with
     |none=>rfl
     |some n=>
      simp only[World.cell?,Addr.add] at Yl
      split at Yl
      ·simp at Yl
      ·cases Yl
    subst hsp
    have hbk:bk<C.w0.heap.size:=by
     have:=(C.good bk (.inl hz)).1
     exact this
    refine Calls.mono (h bk o cap l sep C.w0 (fun j x hx=>(show C.w0.cell? ⟨bk,o+j,none⟩=C.w0.cell? ((⟨bk,o,none⟩:Addr).add j) by unfold Addr.add;cases j<;>rfl) ▸ cell j x hx) hbk hN D7 hlen) fun e w' ⟨he,hb⟩=> ?_
    exact Gf rfl rfl he hb
theorem QT {C:Cx} {g:yb} {args:List Value} {vs:List Value} {rs:List DV} {e:Ending} {w':World} (hr:g.results.length=vs.length) (yc:wN g.kS=true) (he:e= .returned (pack vs)) (hw:w' =C.w0) (hd: ∀Zf ZL,fR C.w0 Zf ZL rs vs fz):Ends C g args rs e w':=by
 subst hw
 refine ⟨vs,fz,he,hr.symm,.AD (Go.RowKit.Below.refl _ _),fun b=>by simp,fun b hb=>by simp at hb,?_⟩
 rw[ky _ _ yc,cm]
 exact hd _ _
theorem zN {t1 t2 t3:Nat} {g:BA->Int->Int} (h: ∀(s:BA) (c:Int) (w:World),Calls P f #[.string s,.int .u8 c] w fun e w'=>e= .returned (.int .i64 (g s c))/\w' =w) (s:BA) (c:Int):
 eP P f ⟨[t1,t2],[t3],[.qp,.qp],.own⟩ [.l (.s s),.l (.i .u8 c)] [.l (.i .i64 (g s c))]:=by
 intro C args hP jX h1 h2
 match args,jX with
 | [v,u],⟨F1,F2,⟨hv,_⟩,⟨F3,F4,⟨hu,_⟩,_,_⟩,_⟩=>
   have hu:u= .int .u8 c:=hu
   have hv:v= .string s:=hv
   subst hu;subst hv
   exact Calls.mono (h s c C.w0) fun e w' ⟨he,hw⟩=>QT (vs:=[.int .i64 (g s c)]) rfl rfl he hw fun _ _=>⟨fz,fz,⟨rfl,rfl⟩,rfl,(dw _).symm⟩
def iM (n:Int):BA:=⟨(Go.Lib.itoa n).toArray⟩
theorem Hn {t1 t2:Nat} (hg:(P.globalNamed ye).isSome=true)
 (h: ∀(n:Int),-9223372036854775808<=n->n<=9223372036854775807-> ∀w:World,Go.Lib.TabIs P w ye .u64 Go.Lib.pow10Tab->Calls P f #[.int .i64 n] w fun e w'=>e= .returned (.string ⟨(Go.Lib.itoa n).toArray⟩)/\ ∃k os,w' =Go.Sort.grow (w.drewN k) os)
 {n:Int} (h0: -9223372036854775808<=n) (h1:n<=9223372036854775807):eP P f ⟨[t1],[t2],[.qp],.own⟩ [.l (.i .i64 n)] [.l (.s (iM n))]:=by
 intro C args hP jX g1 g2
 match args,jX with
 | [v],⟨F1,F2,⟨hv,_⟩,_,_⟩=>
   have hv:v= .int .i64 n:=hv
   subst hv
   obtain ⟨b,hb⟩:=Option.isSome_iff_exists.1 hg
   have ht:Go.Lib.TabIs P C.w0 ye .u64 Go.Lib.pow10Tab:=by
    have TF:=C.gnd
    rw[hP] at TF
    exact (TF.1 b hb).2
   refine Calls.mono (h n h0 h1 C.w0 ht) fun e w' ⟨he,k,os,hw⟩=> ?_
   exact Gf rfl rfl he (by rw[hw];exact Go.Lib.below_grow _ _ (ai _) k os)
def uB (s:BA):Int:=match Go.Lib.atoi s.data.toList with|some n=>n|none=>0
def tT (s:BA):Bool:=(Go.Lib.atoi s.data.toList).isSome
theorem Mu {C:Cx} {g:yb} {args:List Value} {n:Int} {b:Bool} {v:Value} {e:Ending} {w':World} (hr:g.results.length=2) (yc:wN g.kS=true) (he:e= .returned (.tuple #[.int .i64 n,v])) (hv: ∀w Zf ZL,oJ w Zf ZL (.er b) v fz) (hb:Go.RowKit.Below C.w0.heap.size C.w0 w'):Ends C g args [.l (.i .i64 n),.l (.er b)] e w':=by
 refine ⟨[.int .i64 n,v],fz,by rw[he];rfl,by simpa using hr.symm,.AD hb,fun b=>by simp,fun b hb=>by simp at hb,?_⟩
 rw[ky _ _ yc,cm]
 exact ⟨fz,fz,⟨rfl,rfl⟩,⟨fz,fz,hv _ _ _,rfl,(dw _).symm⟩,(dw _).symm⟩
theorem Ho {t1 t2 t3 ty RH:Nat} (hg:(P.globalNamed En).isSome=true)
 (h: ∀(s:BA) (n:Int),s.size<=18->Go.Lib.atoi s.data.toList=some n-> ∀w:World,Calls P f #[.string s] w fun e w'=>e= .returned (.tuple #[.int .i64 n,.nilIface])/\ ∃t,w' =Go.Lib.bytesWorld w ty t)
 (h': ∀(s:BA),s.size<=18->Go.Lib.atoi s.data.toList=none-> ∀(tp:TypeId) (p:Value) (w:World),w.var? P "strconv.ErrSyntax" =some #[.iface tp p]->Calls P f #[.string s] w fun e w'=> ∃N,e= .returned (.tuple #[.int .i64 0,.iface RH (.pointer (some ⟨N,0,none⟩))])/\Go.RowKit.Below w.heap.size w w')
 {s:BA} (hs:s.size<=18):eP P f ⟨[t1],[t2,t3],[.qp],.own⟩ [.l (.s s)] [.l (.i .i64 (uB s)),.l (.er (tT s))]:=by
 intro C args hP jX g1 g2
 match args,jX with
 | [v],⟨F1,F2,⟨hv,_⟩,_,_⟩=>
   have hv:v= .string s:=hv
   subst hv
   cases ha:Go.Lib.atoi s.data.toList with
   |some n=>
    have e1:uB s=n:=by unfold uB;rw[ha]
    have e2:tT s=true:=by unfold tT;rw[ha];rfl
    rw[e1,e2]
    refine Calls.mono (h s n hs ha C.w0) fun e w' ⟨he,t,hw⟩=> ?_
    exact Mu rfl rfl he (fun _ _ _=>⟨rfl,rfl⟩) (by rw[hw];exact Go.Lib.bytesWorld_below _ _ _)
   |none=>
    have e1:uB s=0:=by unfold uB;rw[ha]
    have e2:tT s=false:=by unfold tT;rw[ha];rfl
    rw[e1,e2]
    obtain ⟨b,hb⟩:=Option.isSome_iff_exists.1 hg
    have TF:=C.gnd
    rw[hP] at TF
    obtain ⟨_,tp,x,hx⟩:=TF.2 b hb
    refine Calls.mono (h' s hs ha tp x C.w0 hx) fun e w' ⟨N,he,hw⟩=> ?_
    exact Mu rfl rfl he (fun _ _ _=>⟨⟨_,_,rfl⟩,rfl⟩) hw
end
