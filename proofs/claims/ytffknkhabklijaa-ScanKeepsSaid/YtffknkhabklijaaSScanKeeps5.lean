import Derived.ProofKit
import Derived.OpenShut
import Derived.WalkSpells
import Derived.WalkLawsBesides
import Derived.StillTailTactics
import Derived.Deep.RegionHeld3
import Derived.Deep.AppendLies
import Derived.Deep.Onto
import Derived.Deep.OwnRows
import Derived.Lib.Hide
import Derived.Lib.AppendZerosOnto
import Derived.Laws.CopyOwn
import Derived.Test.YtffknkhabklijaaSScanKeeps4
set_option linter.unusedSimpArgs false
set_option linter.unusedVariables false
set_option linter.defProp false
open Option renaming some→xk,none→xw
open Bool renaming true→xy,false→xh
open List renaming length→P
open Array renaming size→U
open Go.World renaming heap→R
open List renaming length→xq
open Array renaming size→xz
open Go.World renaming heap→xj
set_option maxHeartbeats 8000000
set_option maxRecDepth 100000
theorem Zdy{p:Prop}(h:p:=by simp[ZJ]):p:=h
theorem ZdB{p:Prop}(h:p:=by simp[Xf]):p:=h
theorem Zda{p:Prop}(h:p:=by simp[Y4];omega):p:=h
theorem Zdc{p:Prop}(h:p:=by unfold ZI at d;omega):p:=h
theorem Zdl{p:Prop}(h:p:=by unfold maxLen;omega):p:=h
theorem ZcU{p:Prop}(h:p:=by rw[cell_of_row _ _ _ _ _ _ d];rfl):p:=h
theorem ZcS{p:Prop}(h:p:=by show U (R w1)<U (R u);omega):p:=h
theorem Zds{p:Prop}(h:p:=by simp[results,Try.results33,go_sem,y,YF]):p:=h
def Zf5:=@List.append_nil
def ZeR:=@Int.tmod_eq_emod_of_nonneg
def Zhc:=@Int.tdiv_eq_ediv_of_nonneg
def Zhb:=@Int.fdiv_eq_ediv_of_nonneg
def ZeI:=@List.take_add_one
def ZhI:=@Int.emod_nonneg
def Zhf:=@Int.emod_lt_of_pos
def ZhO:=@List.set_append_right
def ZeF:=@List.drop_eq_getElem_cons
def Zew:=@List.append_assoc
def Zgr:=@List.map_set
def ZfR:=@List.take_append_drop
def ZhK:=@List.all_append
def Zfn:=@Bool.true_eq_false
def Zhy:=@List.map_toArray
def ZfB:=@List.length_eq_zero_iff
def Ze5:=@Go.RowKit.Below.heap_setCell
def ZdP:=@Go.Lib.hid
def Zey:=@Go.bodyPost_ret
def Zi1:=@Nat.mul_one
def ZgM:=@List.take_left
def ZgO:=@Array.ext
def Zgx:=@List.length_set
def Zfb:=@Go.World.cell?_alloc_lt
def Zht:=@not_true_eq_false
def Zgq:=@List.length_pos_iff
def Zfw:=@List.mem_map_of_mem
def Zfg:=@List.length_nil
section
namespace Vm
open Go
open Go.Proofs
def sig(f:Zo):Option (List OT):=
 if f=102 then xk [.fz,.mem [.own 97],.mem [.own 3]]else
 if f=50 then xk [.fz,.mem [.fz,.fz]]else
 if f=80 then xk [.fz,.own 97]else
 if f=47 then xk [.fz,.own 97]else
 if f=121 then xk [.mem [.fz,.fz,.fz,.fz,.fz,.fz,.fz,.fz,.fz,.fz,.fz,.fz,.fz,.fz,.fz,.fz,.fz,.fz,.fz,.fz,.fz,.own 84,.own 115],.fz,.fz]else
 if f=105 then xk [.mem [.fz,.fz,.fz,.fz,.fz,.fz,.fz,.fz,.fz,.fz,.fz,.fz,.fz,.fz,.fz,.fz,.fz,.fz,.fz,.fz,.fz,.own 84,.own 115]]else
 if f=1000101 then xk [.mem [.fz,.fz,.fz,.fz,.fz,.fz,.fz,.fz,.fz,.fz,.fz,.fz,.fz,.fz,.fz,.fz,.fz,.fz,.fz,.fz,.fz,.own 84,.own 115]]else
 xw
@[simp]def pI(n:Int):E:=.c (.int .i64 n)
@[simp]def pU(n:Int):E:=.c (.int .u64 n)
@[simp]def pF:E:=.c (.bool xh)
@[simp]def pT:E:=.c (.bool xy)
@[simp]def pN:E:=.c (.sl [])
@[simp]def pG(e:E):Nat->Nat->List E
 |_,0=>[]
 |i,n+1=>.fld e i::pG e (i+1) n
@[simp]def pS(a n:Nat):OV:=.m (pG (.sz (.s a) n) 0 n)
@[simp]def pM(e:E)(n:Nat):OV:=.m (pG e 0 n)
@[simp]def pY:E:=.ag [pU 0,pI 0,pI 0,pF,pI 0,pN,pN,pN,pN,pN]
@[simp]def pZ:OV:=.m [pU 0,pI 0,pI 0,pF,pI 0,pN,pN,pN,pN,pN]
@[simp]def pR(l:List (Nat×OV)):Stm:=.reg ⟨[],[],l⟩
@[simp]def pC(e:List EF)(l:List (Nat×OV)):Stm:=.reg ⟨e,[],l⟩
@[simp]def pV(t:Nat)(e:E):Nat×OV:=(t,.v e)
@[simp]def pK(t f:Nat)(l:List E):EF:=.call t [] (.id f) xh xh l
@[simp]def pQ:List Stm->Stm->Stm
 | [],z=>z
 |a::l,z=>.seq a (pQ l z)
def fresh(f:Zo):Bool:=f==81||f==117||f==119
def follows:Sol.prog.follows .mixedOrders=xy:=Z2
section
def qW(x:Option V)(A B:Prop):Prop:=
 match x with
 |some (.bool xy)=>A
 |some (.bool xh)=>B
 |_=>False
@[simp]theorem Z9B(b:Bool)(A B:Prop):qW (xk (.bool b)) A B↔if b=xy then A else B:=by cases b<;>simp[qW]
def Xt{α:Type}(x:Option α)(K:α->Prop):Prop:=
 match x with
 |some x=>K x
 |none=>False
@[simp]theorem Zbf{α:Type}(x:α)(K:α->Prop):Xt (xk x) K↔K x:=ZfA
@[simp]theorem Zbe{α:Type}(K:α->Prop):Xt xw K↔False:=ZfA
@[simp]theorem Zbd{α β:Type}(f:α->β)(x:Option α)(K:β->Prop):Xt (x.map f) K↔Xt x (λy=>K (f y)):=by cases x<;>rfl
@[simp]theorem Zbb{α β:Type}(f:α->Option β)(x:Option α)(K:β->Prop):Xt (x.bind f) K↔Xt x (λy=>Xt (f y) K):=by cases x<;>rfl
@[simp]theorem Zbc{α:Type}(p:Prop) [Decidable p](x y:Option α)(K:α->Prop):Xt (if p then x else y) K↔if p then Xt x K else Xt y K:=by split<;>rfl
def Sn(P:Z5) [Lg P](f:Zo)(fr fl:Bool)(xs:Zn)(K:V->Prop):Prop:=∃r,VC P f fr xs r/\(fl=xy->Wl r=xk r)/\K r
def Zy{P:Z5} [Lg P]{f:Zo}{fr fl:Bool}{xs:Zn}{K:V->Prop}{r:V}(h:VC P f fr xs r)(g:fl=xy->Wl r=xk r)(d:K r):Sn P f fr fl xs K:=⟨r,h,g,d⟩
def Lx(P:Z5) [Lg P](f:Zo)(ks:List OT)(xs:Zn)(K:V->Prop):Prop:=∃R,V6 P f ks xs R/\K R
def VN{P:Z5} [Lg P]{f:Zo}{ks:List OT}{xs:Zn}{K:V->Prop}{R:V}(h:V6 P f ks xs R)(d:K R):Lx P f ks xs K:=⟨R,h,d⟩
def kS(P:Z5) [Lg P](b:Stm)(N:St->Prop)(X:Nat->St->Prop)(R:St->Prop)(s:St):Prop:=Yq P b s N X R
def xB(id:Nat)(N:St->Prop)(X:Nat->St->Prop)(i:Nat)(s:St):Prop:=if i=id then N s else X i s
def kR(d:List (ZB×E))(outs:List (Nat×OV))(K:St->Prop)(t:St):Prop:=Sf t d/\VJ outs t t K
def kO(l:List (Nat×OV))(t u:St)(i:Nat)(K:St->Prop)(x:SV):Prop:=VJ l t (YC u i x) K
def kL(P:Z5) [Lg P](l:List EF)(s:St)(i:Nat)(K:St->Prop)(x:V):Prop:=YK P l (YC s i (.v x)) K
def kA(P:Z5) [Lg P](f:Zo)(fr fl:Bool)(K:V->Prop)(xs:Zn):Prop:=Sn P f fr fl xs K
def RC(P:Z5) [Lg P](fr fl:Bool)(K:V->Prop)(xs:Zn)(v:V):Prop:=Xt (Qo v) λn=>Sn P n.1 fr fl (xs++n.2) K
def jU(P:Z5) [Lg P](x:Option V)(fr fl:Bool)(K:V->Prop)(xs:Zn):Prop:=Xt x (RC P fr fl K xs)
def jV(P:Z5) [Lg P](f:Option FuncId)(ks:List OT)(K:V->Prop)(xs:Zn):Prop:=Xt f λn=>Lx P n ks xs K
def kW(P:Z5) [Lg P](l:List EF)(s:St)(i:Nat)(K:St->Prop)(d:Zn):Prop:=if d=[]then YK P l s K else YK P l (YC s i (.v (.tup (.bool xh::d)))) K
def kT(_:V):Prop:=True
section
variable {P:Z5}[Lg P]{N R:St->Prop}{X:Nat->St->Prop}{K:St->Prop}{s t u:St}
@[simp]theorem ZaU(b:Stm):kS P b N X R s↔Yq P b s N X R:=ZfA
@[simp]theorem ZcG(id:Nat):xB id N X id s↔N s:=by simp[xB]
def Jj(id i:Nat):xB id N X i s↔if i=id then N s else X i s:=ZfA
@[simp]theorem ZcF{id i:Nat}(h:i≠id):xB id N X i s↔X i s:=by simp[xB,h]
@[simp]theorem ZaT(d:List (ZB×E))(outs:List (Nat×OV)):kR d outs K t↔Sf t d/\VJ outs t t K:=ZfA
@[simp]theorem ZaS(l:List (Nat×OV))(i:Nat)(x:SV):kO l t u i K x↔VJ l t (YC u i x) K:=ZfA
@[simp]theorem ZaR(l:List EF)(i:Nat)(x:V):kL P l s i K x↔YK P l (YC s i (.v x)) K:=ZfA
@[simp]theorem ZaQ(f:Zo)(fr fl:Bool)(K:V->Prop)(xs:Zn):kA P f fr fl K xs↔Sn P f fr fl xs K:=ZfA
@[simp]theorem ZaO(v:V)(fr fl:Bool)(K:V->Prop)(xs:Zn):jU P (xk v) fr fl K xs↔RC P fr fl K xs v:=ZfA
@[simp]theorem ZaN(f:Zo)(fr fl:Bool)(K:V->Prop)(xs:Zn):RC P fr fl K xs (.fn f)↔Sn P f fr fl xs K:=by simp[RC,Qo]
@[simp]theorem ZaM(f:Zo)(cs:Zn)(fr fl:Bool)(K:V->Prop)(xs:Zn):RC P fr fl K xs (.clo f cs)↔Sn P f fr fl (xs++cs) K:=by simp[RC,Qo]
@[simp]theorem ZaP(f:Zo)(ks:List OT)(K:V->Prop)(xs:Zn):jV P (xk f) ks K xs↔Lx P f ks xs K:=ZfA
@[simp]theorem ZaX(l:List EF)(i:Nat):kW P l s i K []↔YK P l s K:=by simp[kW]
@[simp]theorem ZaW(l:List EF)(i:Nat)(x:V)(d:Zn):kW P l s i K (x::d)↔YK P l (YC s i (.v (.tup (.bool xh::x::d)))) K:=by simp[kW]
@[simp]theorem ZaV(x:V):kT x↔True:=ZfA
@[simp]theorem ZcB(r:Reg):Yq P (.reg r) s N X R↔qs P r s N:=ZfA
@[simp]theorem ZcE:Yq P .skip s N X R↔N s:=ZfA
@[simp]theorem ZcD(a b:Stm):Yq P (.seq a b) s N X R↔Yq P a s (kS P b N X R) X R:=ZfA
@[simp]theorem Zcz(c:E)(a b:Stm):Yq P (.cond c a b) s N X R↔qW (eval s c) (Yq P a s N X R) (Yq P b s N X R):=by
 rfl
@[simp]theorem Zcy(id:Nat)(a:Stm):Yq P (.block id a) s N X R↔Yq P a s N (xB id N X) R:=ZfA
@[simp]theorem ZcA(id:Nat):Yq P (.exit id) s N X R↔X id s:=ZfA
@[simp]theorem ZcC:Yq P .ret s N X R↔R s:=ZfA
def UT{keep:Zd}{a:Stm}(I:St->Prop)(μ:St->Nat)(f:I (YU keep s))(g:∀s,I s->Yq P a s (λd=>I (YU keep d)/\μ (YU keep d)<μ s) X R):Yq P (.loop keep a) s N X R:=⟨I,μ,f,g⟩
@[simp]theorem Zcx(f:List EF)(d:List (ZB×E))(outs:List (Nat×OV)):qs P ⟨f,d,outs⟩ s K↔YK P f s (kR d outs K):=ZfA
@[simp]theorem Zcw:VJ [] t u K↔K u:=ZfA
@[simp]theorem Zcv(i:Nat)(o:OV)(l:List (Nat×OV)):VJ ((i,o)::l) t u K↔Xt (WF t o) (kO l t u i K):=by
 simp only[VJ,Xt,kO];cases WF t o<;>rfl
@[simp]theorem Zcp:Sf t []↔True:=ZfA
@[simp]theorem Zco(C:ZB)(e:E)(l:List (ZB×E)):Sf t ((C,e)::l)↔(Vs t C=xy->Xt (eval t e) kT)/\Sf t l:=by
 simp only[Sf,Xt,kT];cases eval t e<;>simp
@[simp]theorem Zcu:YK P [] s K↔K s:=ZfA
@[simp]theorem Zct(i:Nat)(C:ZB)(e:E)(l:List EF):YK P (.lt i C e::l) s K↔if Vs s C=xy then Xt (eval s e) (kL P l s i K)else YK P l s K:=by
 simp only[YK,Xt,kL];cases eval s e<;>rfl
@[simp]theorem Zcq(i:Nat)(C:ZB)(f:Zo)(fr fl:Bool)(es:List E)(l:List EF):YK P (.call i C (.id f) fr fl es::l) s K↔if Vs s C=xy then Xt (YA s es) (kA P f fr fl (kL P l s i K))else YK P l s K:=by
 simp only[YK,Xt,kA,Sn,kL,Ux];cases YA s es<;>simp
@[simp]theorem Zcr(i:Nat)(C:ZB)(x:E)(fr fl:Bool)(es:List E)(l:List EF):YK P (.call i C (.e x) fr fl es::l) s K↔if Vs s C=xy then Xt (YA s es) (jU P (eval s x) fr fl (kL P l s i K))else YK P l s K:=by
 simp only[YK,Xt,jU,RC,Sn,kL,Ux];cases YA s es with
 |none=>simp
 |some f=>
  cases eval s x with
  |none=>simp
  |some v=>cases d:Qo v<;>simp[d]
@[simp]theorem Zcs(i:Nat)(C:ZB)(f:FN)(ks:List OT)(es:List E)(l:List EF):YK P (.callm i C f ks es::l) s K↔
  if Vs s C=xy then Xt (YA s es) (jV P (Vb s f) ks (kL P l s i K))
  else Xt (Wo s ks es) (kW P l s i K):=by
 simp only[YK,Xt,Lx,jV,kL,kW];split;cases YA s es<;>cases Vb s f<;>simp
 cases Wo s ks es with
 |none=>simp
 |some d=>cases d<;>simp
@[simp]theorem ZbF(e:E):WF t (.v e)=(eval t e).map .v:=rfl
@[simp]theorem ZbD(l:List E):WF t (.m l)=(YA t l).map .m:=rfl
@[simp]theorem ZbE:WF t .no=xk .no:=rfl
@[simp]theorem ZaH:Vs s []=xy:=rfl
def Z1l(i:Nat)(b:Bool)(C:ZB):Vs s ((i,b)::C)=((match get s i with|.v (.bool c)=>c==b|_=>xh)&&Vs s C):=rfl
end
@[simp]theorem ZaF(x:SV)(s:St):get (x::s) 0=x:=rfl
@[simp]theorem ZaE(x:SV)(s:St)(n:Nat):get (x::s) (n+1)=get s n:=by simp[get]
@[simp]theorem ZbK(x y:SV)(s:St):YC (y::s) 0 x=x::s:=rfl
@[simp]theorem ZbJ(x y:SV)(s:St)(n:Nat):YC (y::s) (n+1) x=y::YC s n x:=rfl
@[simp]theorem ZbI(x:SV):YC [] 0 x=[x]:=rfl
@[simp]theorem ZbH(x:SV)(n:Nat):YC [] (n+1) x=.no::YC [] n x:=rfl
@[simp]theorem ZbC(s:St):YU [] s=[]:=rfl
@[simp]theorem ZbB(i:Nat)(l:Zd)(s:St):YU (i::l) s=YC (YU l s) i (get s i):=rfl
attribute [simp] Kx eval YA Z1l W9 UN VG Rn Rl Xu QX Sk UX Vb Wo
section
variable {k:Zs}{a b:Int}{x y:V}{l r:Zn}
@[simp]theorem Z8H:Xc .add (.int k a) (.int k b)=xk (.int k (k.wrap (a+b))):=by simp[Xc]
@[simp]theorem Z8R:Xc .sub (.int k a) (.int k b)=xk (.int k (k.wrap (a-b))):=by simp[Xc]
@[simp]theorem Z8N:Xc .mul (.int k a) (.int k b)=xk (.int k (k.wrap (a*b))):=by simp[Xc]
@[simp]theorem Z8P:Xc .quo (.int k a) (.int k b)=if b≠0 then xk (.int k (k.wrap (a.tdiv b)))else xw:=by simp[Xc]
@[simp]theorem Z8Q:Xc .rem (.int k a) (.int k b)=if b≠0 then xk (.int k (a.tmod b))else xw:=by simp[Xc]
@[simp]theorem Z8I:Xc .eql (.int k a) (.int k b)=xk (.bool (decide (a=b))):=by simp[Xc];rfl
@[simp]theorem Z8O:Xc .neq (.int k a) (.int k b)=xk (.bool (!decide (a=b))):=by simp[Xc];rfl
@[simp]theorem Z8M:Xc .lss (.int k a) (.int k b)=xk (.bool (decide (a<b))):=by simp[Xc]
@[simp]theorem Z8L:Xc .leq (.int k a) (.int k b)=xk (.bool (decide (a<=b))):=by simp[Xc]
@[simp]theorem Z8K:Xc .gtr (.int k a) (.int k b)=xk (.bool (decide (b<a))):=by simp[Xc]
@[simp]theorem Z8J:Xc .geq (.int k a) (.int k b)=xk (.bool (decide (b<=a))):=by simp[Xc]
@[simp]theorem Z9D(p q n:Bool):Ss n (.bool p) (.bool q)=xk (.bool (n ^^ (p==q))):=rfl
@[simp]theorem Zcj:Sc .neg (.int k a)=xk (.int k (k.wrap (0-a))):=rfl
@[simp]theorem Zck(p:Bool):Sc .not (.bool p)=xk (.bool !p):=rfl
@[simp]theorem Z9C(k':Zs):Qq k' (.int k a)=xk (.int k' (k'.wrap a)):=rfl
@[simp]theorem ZaY:RG (.sl l)=xk (.int .i64 (P l)):=rfl
@[simp]theorem Zb4(id:Nat)(vs:Zn):SD (.mp id l vs)=xk (.int .i64 (P l)):=rfl
@[simp]theorem Zb1(id:Nat)(vs:Zn):K5 (.mp id l vs)=xk (.mp id [] []):=rfl
@[simp]theorem Zb2:RL (.int k a) (.int k b)=xk (.int k (if b<a then b else a)):=rfl
@[simp]theorem Zb0:RJ (.int k a) (.int k b)=xk (.int k (if b>a then b else a)):=rfl
@[simp]theorem Z9E(i:Nat):Ty (.tup l) i=l[i]? :=rfl
@[simp]theorem ZaJ(i n:Nat):X3 (.sl l) (.int k (i:Int)) n=(l[i]?).bind λz=>if P z.cells=n then xk z else xw:=by simp[X3]
@[simp]theorem Z9o:(V.int k a).cells=[V.int k a]:=rfl
@[simp]theorem Z9m(p:Bool):(V.bool p).cells=[V.bool p]:=rfl
@[simp]theorem Z9r(s:ByteArray):(V.str s).cells=[V.str s]:=rfl
@[simp]theorem Z9q:(V.sl l).cells=[V.sl l]:=rfl
@[simp]theorem Z9k:(V.agg l).cells=l:=rfl
@[simp]theorem Z9p(id:Nat):(V.mp id l r).cells=[V.mp id l r]:=rfl
@[simp]theorem Z9n(f:Zo):(V.fn f).cells=[V.fn f]:=rfl
@[simp]theorem Zbx:(V.int k a).one=xy:=rfl
@[simp]theorem Zbt(p:Bool):(V.bool p).one=xy:=rfl
@[simp]theorem ZbA:(V.sl l).one=xy:=rfl
@[simp]theorem Zby(id:Nat):(V.mp id l r).one=xy:=rfl
@[simp]theorem Zbw(f:Zo):(V.fn f).one=xy:=rfl
@[simp]theorem Zbs:(V.agg l).one=xh:=rfl
@[simp]theorem Zbm:YP (.int k a)=xk (.int k a):=rfl
@[simp]theorem Zbi(p:Bool):YP (.bool p)=xk (.bool p):=rfl
@[simp]theorem Zbq(s:ByteArray):YP (.str s)=xk (.str s):=rfl
@[simp]theorem Zbp:YP (.sl l)=xk (.sl l):=rfl
@[simp]theorem Zbn(id:Nat):YP (.mp id l r)=xk (.mp id l r):=rfl
@[simp]theorem Zbl(f:Zo):YP (.fn f)=xk (.fn f):=rfl
@[simp]theorem Z9H(o:Nat):ZX (.agg l) o=(l[o]?).bind YP:=rfl
@[simp]theorem Za3:ZX (.int k a) 0=xk (.int k a):=rfl
@[simp]theorem Z9I(p:Bool):ZX (.bool p) 0=xk (.bool p):=rfl
@[simp]theorem Zat:ZX (.sl l) 0=xk (.sl l):=rfl
@[simp]theorem Zau(s:ByteArray):ZX (.str s) 0=xk (.str s):=rfl
@[simp]theorem Zav(o n:Nat):U9 (.agg l) o n=if o+n<=(P l) then xk (.agg ((l.drop o).take n))else xw:=rfl
@[simp]theorem Zc7(n:Nat):Vi (.agg l) n=if P l=n then xk (.agg l)else xw:=rfl
@[simp]theorem ZaK:RB (.agg l)=xk (.agg l):=rfl
@[simp]theorem Zc6:UP (.ptr l)=xk (.agg l):=rfl
@[simp]theorem ZaL(p:Bool)(A B:Option V):QH (.bool p) A B=if p=xy then A else B:=by cases p<;>rfl
@[simp]theorem Z8t:Ts l=.agg (flat l):=rfl
@[simp]theorem Z9F:flat (x::l)=x.cells++flat l:=rfl
@[simp]theorem Z9G:flat []=[]:=rfl
@[simp]theorem Z8G(n:Nat):R9 n (.sl l) (.sl r)=if P l+P r<=Y4/\Xp n r=xy then xk (.sl (l++r))else xw:=rfl
@[simp]theorem ZbZ(n:Nat):Xp n []=xy:=rfl
@[simp]theorem ZbW(n:Nat):Xp n (x::l)=(P x.cells==n&&Xp n l):=rfl
def Ja{α:Type}{f:α->V}{n:Nat}{l:List α}(h:∀x,(f x).cells.length=n):Xp n (l.map f)=xy:=by
 simp[Xp,h]
abbrev Z8:=List Int
@[simp]theorem qe(l:Z8):Xp 1 (l.map (V.int k))=xy:=Ja λ_=>rfl
@[simp]theorem Zb3(n:Nat):K7 x (.int k (n:Int))=if n<=Y4 then xk (.sl (List.replicate n x))else xw:=by
 simp only[K7];have:((n:Int)<=(Y4:Nat))↔n<=Y4:=Z0;simp[this]
@[simp]theorem Z74(i j n:Nat):SW n (.sl l) (.int k (i:Int)) (.int k (j:Int))=if i<=j/\j<=P l/\Xp n l=xy then xk (.sl ((l.take j).drop i))else xw:=by
 simp[SW]
@[simp]theorem Zc4(i n:Nat):Q3 n (.sl l) (.int k (i:Int))=if i<=P l/\Xp n l=xy then xk (.sl (l.drop i))else xw:=by
 simp[Q3]
@[simp]theorem Zcl(i o:Nat):R1 (.sl l) (.int k (i:Int)) o y=(l[i]?).bind λz=>if o+P y.cells<=P z.cells/\y.cells≠[]then xk (.sl (l.set i (z.put o y.cells)))else xw:=by
 simp[R1]
end
abbrev vi(n:Int):V:=.int .i64 n
abbrev vu(n:Int):V:=.int .u64 n
@[simp]theorem Zb6(n:Nat):((n:Int)<0)↔False:=⟨λh=>absurd h (by omega),False.elim⟩
def Zz(n:Int)(d: -9223372036854775808<=n)(h2:n<=9223372036854775807):IntKind.i64.wrap n=n:=by
 rw[IntKind.wrap_i64];omega
end
end Vm
end
section
namespace Vm
open Go Go.ChangeShapes Go.WideShapes Go.ChangeAt Go.RowKit
section
def JO(P:Z5)(n:Nat):List Field->Nat->Bool
 | [],o=>o==n
 |f::l,o=>f.offset==o&&JO P n l (o+P.cellsOf f.type)
def TR(P:Z5):Nat->TypeId->Bool
 |0,_=>xh
 |n+1,t=>match P.underlying t with
  |some .bool|some (.int _)|some .string=>xy
  |some (.slice e)=>TR P n e&&decide (0<P.cellsOf e)
  |some (.struct a)=>JO P (P.cellsOf t) a.toList 0&&a.toList.all λf=>TR P n f.type
  |some (.array m e)=>TR P n e&&m*P.cellsOf e==P.cellsOf t
  |_=>xh
def Xh(P:Z5):Nat->TypeId->V->Prop
 |0,_,_=>False
 |n+1,t,x=>match P.underlying t with
  |some .bool=>∃b,x=.bool b
  |some (.int k)=>∃m,x=.int k m/\(Lit.int k m).wf=xy
  |some .string=>∃s,x=.str s/\s.size<=maxLen
  |some (.slice e)=>∃l,x=.sl l/\xq l<=maxLen/\∀y∈l,Xh P n e y
  |some (.struct d)=>∃a,x=.agg (flat a)/\xq a=xq d.toList/\∀(i:Nat) (f:Field) (y:V),d.toList[i]?=xk f->a[i]?=xk y->Xh P n f.type y
  |some (.array m e)=>∃a,x=.agg (flat a)/\xq a=m/\∀y∈a,Xh P n e y
  |_=>False
def RdC(w:Z4)(G:Z3)(cs:Zn)(vs:Zl):Prop:=
 P vs=P cs/\∀(i:Nat) (c:V),cs[i]?=xk c->c.one=xy/\∃u,vs[i]?=xk u/\Rd w G c u
def RdC.nil{w:Z4}{G:Z3}:RdC w G [] []:=⟨rfl,λi c h=>Zdi⟩
def RdC.append{w:Z4}{G:Z3}{cs d:Zn}{vs f:Zl}(h:RdC w G cs vs)(h':RdC w G d f):RdC w G (cs++d) (vs++f):=by
 refine⟨by simp[h.1,h'.1],λi c g=> ?_⟩;rw[List.getElem?_append]at g⊢;rw[h.1];split at g;rename_i a;rw[if_pos a];exact h.2 i c g;rename_i a;rw[if_neg a];exact h'.2 _ c g
theorem RdC.one{w:Z4}{G:Z3}{c:V}{v:Ze}(a:c.one=xy)(h:Rd w G c v):RdC w G [c] [v]:=
 ⟨rfl,λi x d=>by
  grind⟩
def LB{α:Type}{Q:Nat->α->Prop}:∀(n:Nat),(∀i,i<n->∃y,Q i y)->∃l:List α,P l=n/\∀(i:Nat) (y:α),l[i]?=xk y->Q i y
 |0,_=>⟨[],rfl,λi y h=>Zdi⟩
 |n+1,h=>by
  obtain⟨l,d,f⟩:=LB n λi o=>h i Z0;obtain⟨y,j⟩:=h n Z0;refine⟨l++[y],by simp[d],λi z a=> ?_⟩;rw[List.getElem?_append]at a;split at a;exact f i z a;rename_i g;rw[List.getElem?_singleton]at a;split at a;rename_i k;have:i=n:=Z0;subst this;simp only[ZdF]at a;subst a;exact j;cases a
def qR{w:Z4}{b:Nat}{a:Addr}{n:Nat}{cs:Zl}(h:w.cells? b a n=xk cs):P cs=n/\∀i,i<n->w.cell? (a.add i)=cs[i]? :=by
 unfold World.cells? at h;split at h;have d:=mapM_some_length h;rw[Zhq]at d;refine⟨d,λi f=>mapM_some_get h i i ?_⟩;simp_all;cases h
def Z0i{w:Z4}{a:Addr}{v:Ze}(h:w.cell? a=xk v):a.block<U (R w):=by
 grind [World.cell?,Nat.lt_or_ge]
def BB{w:Z4}{G:Z3}:∀ {d:Zn} {a:List (List Value)},P a=P d->(∀(i:Nat) (y:V) (vs:Zl),d[i]?=xk y->a[i]?=xk vs->RdC w G y.cells vs)->RdC w G (flat d) a.flatten
 | [],[],_,_=>by simpa using RdC.nil
 | [],_::_,h,_=>Zdi
 |_::_,[],h,_=>Zdi
 |y::d,vs::a,h,f=>by
  rw[Sw,List.flatten_cons];exact(f 0 y vs rfl rfl).append (BB ZcJ λi z g k j=>f (i+1) z g ZcJ ZcJ)
def EN{P:Z5}{n:Nat}{cs:Zl}:∀ {l:List Field} {o:Nat},JO P n l o=xy->o<=n/\(xq cs=n->cs.drop o=(l.map λf=>(cs.drop f.offset).take (P.cellsOf f.type)).flatten)
 | [],o,h=>by
   simp_all[JO,Zeq,ZdL]
 |f::l,o,h=>by
  simp only[JO,ZdJ,Zeq]at h;obtain⟨d,a⟩:=h;obtain⟨g,j⟩:=EN (cs:=cs) a;refine⟨Z0,λk=> ?_⟩;grind [List.flatten_cons,List.drop_drop,List.take_append_drop]
def OJ{cs:Zl}{k:Nat}:∀ {m:Nat},P cs=m*k->cs=((List.range m).map λi=>(cs.drop (i*k)).take k).flatten:=by
 have:∀(m:Nat) (cs:Zl),cs.take (m*k)=((List.range m).map λi=>(cs.drop (i*k)).take k).flatten:=by
  intro m;induction m with
  |zero=>simp
  |succ m d=>
   simp_all[Zg0,Zf6,List.flatten_append,Zf8,List.take_add]
 intro m h;have a:=this m cs;grind
section
variable {H:Type}{enc:TypeId×Value->H}{P:Z5}{w:Z4}{spare:Nat->Bool}{held:Bool}
def yE:∀ {n:Nat} {t:Zg} {D:Nat} {cs:Zl} {d:DataW H×List MemPlace},TR P n t=xy->DataW.trod enc P w 0 spare held D t cs=xk d->
  ∃x,Xh P n t x/\RdC w (λb=>b<xz (xj w)) x.cells cs
 |0,t,D,cs,d,K,h=>by cases K
 |n+1,t,D,cs,d,K,h=>by
  unfold TR at K;unfold Xh;split at K;rename_i N;obtain⟨b,rfl,_⟩:=DataW.trod_bool N h;exact⟨.bool b,⟨b,rfl⟩,.one rfl (.bool b)⟩;rename_i k N;obtain⟨m,rfl,_,hw⟩:=DataW.trod_int N h;exact⟨.int k m,⟨m,rfl,hw⟩,.one rfl (.int k m)⟩;rename_i N;obtain⟨s,rfl,_,hw⟩:=DataW.trod_string N h;exact⟨.str s,⟨s,rfl,hw⟩,.one rfl (.str s)⟩;rename_i e N;simp only[ZdJ,Ze2]at K;obtain⟨L,A⟩:=K;obtain⟨rfl,_⟩|⟨a,len,cap,a6,b2,m,_,rfl,_,_,b4,a1,b3,F,_⟩:=DataW.trod_slice N h;exact⟨.sl [],⟨[],rfl,Z1,Z1⟩,.one rfl (.nil _ _ (ZeQ _))⟩;have I:∀i,i<len->∃y,Xh P n e y/\∃vs,w.cells? 0 (a.add (i*P.cellsOf e)) (P.cellsOf e)=xk vs/\RdC w (λb=>b<xz (xj w)) y.cells vs:=by
   intro i g;have r:=F i g;rw[ZdG Z0]at r;simp only[ZdE]at r;obtain⟨vs,B,C⟩:=r;obtain⟨y,p,M⟩:=yE L C;exact⟨y,p,vs,B,M⟩
  obtain⟨l,a9,Y⟩:=LB len I;have b0:∀y∈l,Xh P n e y:=λy p=>by
   obtain⟨i,g⟩:=Zeb p;exact(Y i y g).1
  refine⟨.sl l,⟨l,rfl,Z0,b0⟩,.one rfl ?_⟩;cases a2:len with
  |zero=>
   have:l=[]:=ZeB Z0;subst this;exact .nil _ _ a1
  |succ b1=>
   obtain⟨b,o,X⟩:=a;have Z:X=xw:=by
    obtain⟨y,_,vs,O,_⟩:=I 0 Z0;obtain⟨r,B⟩:=qR O;have C:=B 0 A;rw[ZdG Z0]at C;have h4:=World.cell?_spot C;obtain _|s:=X;rfl;simp[Addr.add]at h4
   subst Z;have z:∀(i j:Nat) (y:V),l[i]?=xk y->j<P.cellsOf e->∃(u:Ze),w.cell? ⟨b,o+(i*P.cellsOf e+j),xw⟩=xk u/\∃c,y.cells[j]?=xk c/\c.one=xy/\Rd w (λb=>b<xz (xj w)) c u:=by
    intro i j y p W;obtain⟨_,vs,O,M⟩:=Y i y p;obtain⟨r,B⟩:=qR O;have C:=B j W;rw[Zfp,Zfp,ZdG Z0]at C;have a5:j<xq y.cells:=by rw[<-M.1];omega
    obtain⟨q1,u,q2,q3⟩:=M.2 j y.cells[j] (ZdG a5);rw[ZdG Z0,ZdF]at q2;subst q2;exact⟨_,by rw[<-ZeZ];exact C,_,ZdG a5,q1,q3⟩
   have J:∀y∈l,y.fits (P.cellsOf e):=λy p=>by
    obtain⟨i,g⟩:=Zeb p;obtain⟨_,vs,O,M⟩:=Y i y g;refine⟨by rw[<-M.1,(qR O).1],λc hc=> ?_⟩;obtain⟨j,W⟩:=Zeb hc;exact(M.2 j c W).1
   have U:∀i,i<xq l*P.cellsOf e->∃y,l[i / P.cellsOf e]?=xk y/\i%P.cellsOf e<P.cellsOf e/\i=i / P.cellsOf e*P.cellsOf e+i%P.cellsOf e:=by
    intro i g;have r:i / P.cellsOf e<xq l:=(ZhP A).2 g;exact⟨_,ZdG r,Zh0 _ A,by rw[Nat.mul_comm];exact(Nat.div_add_mod _ _).symm⟩
   have hb:b<xz (xj w):=by
    obtain⟨y,p⟩:∃y,l[0]?=xk y:=⟨_,ZdG Z0⟩;obtain⟨u,hu,_⟩:=z 0 0 y p A;exact Z0i hu
   have a3:=Rd.sl (w:=w) (G:=λb=>b<xz (xj w)) l b o cap (P.cellsOf e) (λi=>(w.cell? ⟨b,o+i,xw⟩).getD undef) Z0 a1 hb J (λi g=> ?_) (λi c g=> ?_);rw[a9,a2]at a3;exact a3;obtain⟨y,r,B,C⟩:=U i g;obtain⟨u,hu,_⟩:=z _ _ y r B;rw[<-C]at hu;rw[hu];rfl;have a8:i<xq l*P.cellsOf e:=by
    rw[<-TA J];exact(ZdH.1 g).1
   obtain⟨y,r,B,C⟩:=U i a8;obtain⟨u,hu,c',a7,_,M⟩:=z _ _ y r B;rw[<-C]at hu;rw[C,Vp J r _ B,a7]at g;cases g;simp only[hu,Zec];exact M
  rename_i fs N;simp only[ZdJ,ZdR]at K;obtain⟨L,A⟩:=K;obtain⟨xs,m,_,_,a0,a4,F⟩:=DataW.trod_struct N h
  obtain⟨ys,R,S⟩:=LB (Q:=λi y=>∀f,fs.toList[i]?=xk f->Xh P n f.type y/\RdC w (λb=>b<xz (xj w)) y.cells ((cs.drop f.offset).take (P.cellsOf f.type))) (xq fs.toList) (by
   intro i g;have hf:fs.toList[i]?=xk fs.toList[i]:=ZdG g;have r:=F i fs.toList[i] Z1;rw[ZdG (by rw[a4];exact g)]at r;obtain⟨y,p,M⟩:=yE (A _ (Ze0 g)) r;exact⟨y,λf B=>by rw[hf]at B;cases B;exact⟨p,M⟩⟩)
  refine⟨.agg (flat ys),⟨ys,rfl,R,λi f y hf p=>(S i y p f hf).1⟩,?_⟩;have T:=(EN (cs:=cs) L).2 a0;rw[List.drop_zero]at T;rw[T];refine BB (by simp[R]) λi y vs p O=> ?_;rw[Ze1,ZdI]at O;obtain⟨f,hf,rfl⟩:=O;exact(S i y p f hf).2;rename_i m e N;simp only[ZdJ,Zeq]at K;obtain⟨L,A⟩:=K;obtain⟨xs,q,_,_,a0,a4,F⟩:=DataW.trod_array N h
  obtain⟨ys,R,S⟩:=LB (Q:=λi y=>Xh P n e y/\RdC w (λb=>b<xz (xj w)) y.cells ((cs.drop (i*P.cellsOf e)).take (P.cellsOf e))) m (by
   intro i g;have r:=F i g;rw[ZdG Z0]at r;exact yE L r)
  refine⟨.agg (flat ys),⟨ys,rfl,R,λy p=> ?_⟩,?_⟩;obtain⟨i,g⟩:=Zeb p;exact(S i y g).1;rw[OJ (cs:=cs) (k:=P.cellsOf e) (m:=m) Z0];refine BB (by simp[R]) λi y vs p O=> ?_;rw[Ze1,ZdI]at O;obtain⟨j,W,rfl⟩:=O;have:j=i:=by
   rw[ZdH]at W;obtain⟨_,W⟩:=W;simpa using W.symm
  subst this;exact(S j y p).2;cases K
def Z5D{n:Nat}{t:Zg}{v:Ze}{d:DataW H}{G:List MemPlace}{r:Reach}{F:Nat}(j:TR P n t=xy)(a:Value.okWide P w r F t v)(h:DataW.Trod enc P w 0 spare held t v d G):
  ∃x,Xh P n t x/\Rd w (λb=>b<U (R w)) x v:=by
 obtain⟨C,h⟩:=h;obtain⟨x,g,l⟩:=yE j h;refine⟨x,g,?_⟩;have o:∀ {c:V},x=c->c.cells=[c]->v.cells.toList=[v]->Rd w (λb=>b<U (R w)) x v:=by
  intro c z y B;subst z;rw[y,B]at l;obtain⟨_,u,p,D⟩:=l.2 0 x rfl;simp at p;subst p;exact D
 have K:∀ {q:Zn} {vs:Za},x=.agg q->v=.agg vs->Rd w (λb=>b<U (R w)) x v:=by
  intro q vs z B;subst z B;refine .agg q vs (by have:=l.1;simpa[Value.cells]using this) (λc y=> ?_) λi c A=> ?_;obtain⟨i,A⟩:=Zeb y;exact(l.2 i c A).1;obtain⟨_,u,p,D⟩:=l.2 i c A;have:vs.getD i undef=u:=by
   have I:vs[i]?=xk u:=by simpa[Value.cells]using p
   simp[ZdK,I]
  grind
 cases n with
 |zero=>cases j
 |succ n=>
  unfold TR at j;unfold Xh at g;split at j;rename_i f;rw[f]at g;obtain⟨b,rfl⟩:=g;obtain⟨c,rfl⟩:=okWide_bool f a;exact o rfl rfl rfl;rename_i k f;rw[f]at g;obtain⟨b,rfl,_⟩:=g;obtain⟨c,rfl⟩:=okWide_int f a;exact o rfl rfl rfl;rename_i f;rw[f]at g;obtain⟨b,rfl,_⟩:=g;obtain⟨c,rfl⟩:=okWide_string f a;exact o rfl rfl rfl;rename_i e f;rw[f]at g;obtain⟨b,rfl,_⟩:=g;obtain⟨c,_,_,rfl⟩:=okWide_slice f a;exact o rfl rfl rfl;rename_i J f;rw[f]at g;obtain⟨b,rfl,_⟩:=g;simp only[Value.okWide,f]at a;grind;rename_i m e f;rw[f]at g;obtain⟨b,rfl,_⟩:=g;simp only[Value.okWide,f]at a;grind;cases j
def M6{n:Nat}{r:Reach}{G:Nat}:∀ {g:List TypeId} {vs:Zl} {o:List (DataW H)} {A:List MemPlace},DataW.TrodAll enc P w 0 spare held g vs o A->(∀t∈g,TR P n t=xy)->
  (∀(j:Nat) t v,g[j]?=xk t->vs[j]?=xk v->Value.okWide P w r G t v)->
  ∃l:Zn,xq l=xq vs/\xq vs=xq g/\xq o=xq g/\(∀(i:Nat) (t:Zg) (x:V),g[i]?=xk t->l[i]?=xk x->Xh P n t x)/\∀(i:Nat) (x:V) (v:Ze),l[i]?=xk x->vs[i]?=xk v->Rd w (λb=>b<xz (xj w)) x v
 | [],vs,o,A,h,_,_=>by
   obtain⟨rfl,rfl,rfl⟩:=trodAll_nil h;simp
 |t::g,vs,o,A,h,F,a=>by
  obtain⟨v,R,d,I,p,q,rfl,rfl,rfl,J,K⟩:=trodAll_cons h;obtain⟨x,y,z⟩:=Z5D (F t Z1) (a 0 t v rfl rfl) J;obtain⟨l,L,M,Q,N,O⟩:=M6 K (λt k=>F t (by simp[k])) λj B C k u=>a (j+1) B C ZcJ ZcJ;refine⟨x::l,by simp[L],by simp[M],by simp[Q],λi B D k f=> ?_,λi D C f u=> ?_⟩;cases i with
  |zero=>simp at k f;subst k f;exact y
  |succ i=>exact N i B D ZcJ ZcY
  cases i with
  |zero=>simp at u f;subst u f;exact z
  |succ i=>exact O i D C ZcY ZcJ
def DA{W n:Z4}(r:laidOutB P=xy)(o:Below (U (R W)) W n):∀ {j:List TypeId} {vs:Zl} {g:List (DataW H)} {f:List MemPlace},DataW.TrodAll enc P W 0 (λ_=>xy) xy j vs g f->
  (∀t∈j,P.readableRec t=xy/\t<P.types.size)->(∀x∈f,x.block<U (R W))->DataW.TrodAll enc P n 0 (λb=>decide (b<U (R W))) xy j vs g f
 | [],vs,g,f,h,_,_=>by
   obtain⟨rfl,rfl,rfl⟩:=trodAll_nil h;rfl
 |t::j,vs,g,f,h,k,a=>by
  obtain⟨v,B,d,u,p,q,rfl,rfl,rfl,y,z⟩:=trodAll_cons h;exact trodAll_cons_mk (Below.trod r (k t Z1).1 (k t Z1).2 y o λx l=>a x (by simp[l])) (DA r o z (λt A=>k t (by simp[A])) λx l=>a x (by simp[l]))
end
def Z2J{P:Z5} [Lg P]{f:Zo}{fn:Func}{s:ChangeSpec}{tb:Zg}(n:Nat)(S:laidOutB P=xy)(F:(fn.params.toList.all λt=>TR P n t)=xy)(l:(fn.params.toList.all λt=>P.readableRec t&&decide (t<P.types.size))=xy)
  (d:s.vars=[]) (y:fn.resultTypes=#[tb]) (Q:P.underlying tb=xk .bool)
  (k:∀(H:Type) (ds:List (DataW H)),xq ds=xq fn.params.toList->s.fn H ds= {results:=[.lit (.bool xy)],args:=ds})
  (r:∀A:Zn,xq A=xq fn.params.toList->(∀(i:Nat) (t:Zg) (x:V),fn.params.toList[i]?=xk t->A[i]?=xk x->Xh P n t x)->VC P f xh A (.bool xy))
  (H:Type) (enc:TypeId×Value->H) (W:Z4) (base:Nat) (args:Za) (ds gs:List (DataW H)) (a:List MemPlace)
  (z:∀(j:Nat) t v,fn.params[j]?=xk t->args[j]?=xk v->Value.okWide P W .any base t v)
  (C:DataW.Whole enc P fn.params.toList s.vars xh W args.toList ds gs a):
  Lg.calls P f args W λe J=>∃v,e=.returned v/\s.post enc P fn xh xy xh xh W args v J:=by
 have u:∀x∈a,x.block<xz (xj W):=λx B=>by simpa using C.lt x B
 have o:=C;obtain⟨p,q,K,L,rfl,_,_⟩:=C;rw[d]at L;obtain⟨rfl,rfl⟩:=trodVars_none L;rw[Zf5]at u o;obtain⟨A,O,T,Z,U,X⟩:=M6 (n:=n) K (ZdR.1 F) λj t v N Y=>z j t v ZcJ ZcJ;obtain⟨_,I⟩:=r A (by rw[O,T]) U;refine Lg.calls_mono (I W (λb=>b<xz (xj W)) args (λb h=>h) ZcJ λi x B=> ?_) λe J R=> ?_;have M:i<xq args.toList:=by rw[<-O];exact(ZdH.1 B).1
 have:args.getD i undef=args.toList[i]:=by
  have D:i<args.size:=by simpa using M
  simp[ZdK,D]
 rw[this];exact X i x _ B (ZdG M);obtain⟨v,rfl,g,G⟩:=R;cases G;refine⟨_,rfl,ds,[],p,[],p,[],o,?_,?_,?_,g.frame _,λh=>ZcZ⟩;rw[k H _ ZcJ,y];exact trodAll_mk1 (shut_bool Q xy);rw[k H _ ZcJ,Zf5];exact DA S g K (λt N=>by simpa using ZdR.1 l t N) u;rw[d,k H _ ZcJ];rfl
def Gg{α:Type}{enc:α->V}{Q:α->Prop}:∀ {l:Zn},(∀y∈l,∃a,y=enc a/\Q a)->∃d:List α,l=d.map enc/\∀a∈d,Q a
 | [],_=>⟨[],rfl,Z1⟩
 |y::l,h=>by
  obtain⟨a,rfl,g⟩:=h y Z1;obtain⟨d,rfl,j⟩:=Gg (l:=l) λz k=>h z (Zei _ k)
  exact⟨a::d,rfl,λb f=>by
   obtain rfl|f:=Ze3.1 f;exact g;exact j b f⟩
def Ni{P:Z5}{n:Nat}{t:Zg}{x:V}{k:Zs}(d:P.underlying t=xk (.int k))(h:Xh P (n+1) t x):∃m,x=.int k m/\k.min<=m/\m<=k.max:=by
 unfold Xh at h;rw[d]at h;obtain⟨m,rfl,a⟩:=h;simp only[Lit.wf,ZdJ,Ze2]at a;exact⟨m,rfl,a⟩
def Cr{P:Z5}{n:Nat}{t e:Zg}{x:V}{α:Type}{enc:α->V}{Q:α->Prop}(g:P.underlying t=xk (.slice e))(h:Xh P (n+1) t x)(f:∀y,Xh P n e y->∃a,y=enc a/\Q a):∃l:List α,x=.sl (l.map enc)/\xq l<=maxLen/\∀a∈l,Q a:=by
 unfold Xh at h;rw[g]at h;obtain⟨l,rfl,k,d⟩:=h;obtain⟨p,rfl,o⟩:=Gg λy j=>f y (d y j);grind
def Nj{P:Z5}{n:Nat}{t:Zg}{x:V}{fs:Array Field}(d:P.underlying t=xk (.struct fs))(h:Xh P (n+1) t x):∃a,x=.agg (flat a)/\xq a=xq fs.toList/\∀(i:Nat) (f:Field) (y:V),fs.toList[i]?=xk f->a[i]?=xk y->Xh P n f.type y:=by
 simp_all[Xh]
end
end Vm
end
section
namespace Vm
open Go
open Go.Proofs
section
def VD(s:St):List (Nat×SV)->St
 | []=>s
 |(i,x)::l=>VD (YC s i x) l
@[simp]theorem ZbM(s:St):VD s []=s:=rfl
@[simp]theorem ZbL(s:St)(i:Nat)(x:SV)(l:List (Nat×SV)):VD s ((i,x)::l)=VD (YC s i x) l:=rfl
section
variable {P:Z5}[Lg P]{K K':St->Prop}
def NM(d:∀s,K s->K' s){t:St}:∀ {l:List (Nat×OV)} {u:St},VJ l t u K->VJ l t u K'
 | [],_,h=>d _ h
 | (i,o)::l,u,h=>by
   simp only[VJ]at h⊢;split;rename_i x a;rw[a]at h;exact NM d h;rename_i a;rw[a]at h;exact h
def R4(g:∀s,K s->K' s):∀ {l:List EF} {s:St},YK P l s K->YK P l s K'
 | [],_,h=>g _ h
 | .lt i C e::l,s,h=>by
   simp only[YK]at h⊢;split;rename_i a;rw[if_pos a]at h;split;rename_i x d;rw[d]at h;exact R4 g h;rename_i d;rw[d]at h;exact h;rename_i a;rw[if_neg a]at h;exact R4 g h
 | .call i C f u fl t::l,s,h=>by
   simp only[YK]at h⊢;split;rename_i a;rw[if_pos a]at h;split;rename_i x n d k;rw[d,k]at h;obtain⟨r,j,o,p⟩:=h;exact⟨r,j,o,R4 g p⟩;rename_i q;split at h;rename_i x n d k;exact(q x n d k).elim;exact h;rename_i a;rw[if_neg a]at h;exact R4 g h
 | .callm i C f w t::l,s,h=>by
   simp only[YK]at h⊢;split;rename_i a;rw[if_pos a]at h;split;rename_i x n d k;rw[d,k]at h;obtain⟨r,j,p⟩:=h;exact⟨r,j,R4 g p⟩;rename_i d;split at h;rename_i x n j o;exact(d x n j o).elim;exact h;rename_i a;rw[if_neg a]at h;split at h;exact R4 g h;exact R4 g h;exact h.elim
def R5:∀ {a:Stm} {s:St} {N p R q:St->Prop} {X u:Nat->St->Prop},Yq P a s N X R->(∀s,N s->p s)->(∀i s,X i s->u i s)->(∀s,R s->q s)->Yq P a s p u q
 |.reg r,s,_,_,_,_,_,_,h,d,_,_=>R4 (λt j=>⟨j.1,NM d j.2⟩) h
 |.skip,s,_,_,_,_,_,_,h,d,_,_=>d _ h
 |.seq a b,s,_,_,_,_,_,_,h,d,g,f=>R5 (a:=a) (s:=s) h (λt j=>R5 (a:=b) (s:=t) j d g f) g f
 | .cond c a b,s,_,_,_,_,_,_,h,d,g,f=>by
   simp only[Yq]at h⊢;split;rename_i k;rw[k]at h;exact R5 h d g f;rename_i k;rw[k]at h;exact R5 h d g f;rename_i l n;split at h;rename_i k;exact(l k).elim;rename_i k;exact(n k).elim;exact h
 | .block id a,s,_,_,_,_,_,_,h,d,g,f=>R5 (a:=a) (s:=s) h d (λi t j=>by
   split;rename_i o;rw[if_pos o]at j;exact d _ j;rename_i o;rw[if_neg o]at j;exact g _ _ j) f
 | .loop w a,s,_,_,_,_,_,_,h,d,g,f=>by
   obtain⟨I,m,l,n⟩:=h;exact⟨I,m,l,λt j=>R5 (a:=a) (s:=t) (n t j) (λ_ h=>h) g f⟩
 |.exit id,s,_,_,_,_,_,_,h,_,g,_=>g _ _ h
 |.ret,s,_,_,_,_,_,_,h,_,_,f=>f _ h
end
def Sg{P:Z5} [Lg P]{keep:Zd}{a:Stm}{s:St}{N R:St->Prop}{X:Nat->St->Prop}{ι:Type}(L:ι->List (Nat×SV))(Inv:ι->Prop)(m:St->Nat)(d:ι)
  (g:YU keep s=VD (YU keep s) (L d)) (k:Inv d)
  (j:∀p,Inv p->Yq P a (VD (YU keep s) (L p)) (λf=>∃q,Inv q/\YU keep f=VD (YU keep s) (L q)/\m (VD (YU keep s) (L q))<m (VD (YU keep s) (L p))) X R):
  Yq P (.loop keep a) s N X R:=by
 refine⟨λt=>∃p,Inv p/\t=VD (YU keep s) (L p),m,⟨d,k,g⟩,?_⟩;rintro t ⟨p,o,rfl⟩;refine R5 (j p o) (λf u=> ?_) (λ_ _ h=>h) (λ_ h=>h);obtain⟨q,r,l,n⟩:=u;rw[l];exact⟨⟨q,r,rfl⟩,n⟩
def Xf(c:Nat)(n:Nat)(t:St):Nat:=match get t c with|.v (.int _ k)=>n-k.toNat|_=>0
def VK{P:Z5} [Lg P]{keep:Zd}{a:Stm}{s:St}{N R:St->Prop}{X:Nat->St->Prop}(c n:Nat)(L:Nat->List (Nat×SV))(Inv:Z3)
  (g:YU keep s=VD (YU keep s) (L 0)) (hc:∀i,get (VD (YU keep s) (L i)) c=.v (vi i)) (k:Inv 0)
  (j:∀i,i<=n->Inv i->Yq P a (VD (YU keep s) (L i)) (λf=>i<n/\Inv (i+1)/\YU keep f=VD (YU keep s) (L (i+1))) X R):
  Yq P (.loop keep a) s N X R:=by
 refine Sg L (λi=>i<=n/\Inv i) (Xf c n) 0 g ⟨Z0,k⟩ ?_;rintro i ⟨o,q⟩;refine R5 (j i o q) (λf p=> ?_) (λ_ _ h=>h) (λ_ h=>h);obtain⟨h,d,l⟩:=p;refine⟨i+1,⟨Z0,d⟩,l,?_⟩;simp only[Xf,hc];simp;omega
def Ji{P:Z5} [Lg P]{keep:Zd}{a:Stm}{s:St}{N R:St->Prop}{X:Nat->St->Prop}(c n:Nat)(Inv:Z3)
  (d:YU keep s=YC (YU keep s) c (.v (vi 0))) (hc:∀x,get (YC (YU keep s) c x) c=x) (g:Inv 0)
  (f:∀i,i<=n->Inv i->Yq P a (YC (YU keep s) c (.v (vi i))) (λh=>i<n/\Inv (i+1)/\YU keep h=YC (YU keep s) c (.v (vi (i+1)))) X R):
  Yq P (.loop keep a) s N X R:=
 VK c n (λi=>[(c,.v (vi i))]) Inv d (λi=>hc _) g f
end
def Kp:Fn:=⟨5,[0,2,3,5,12],
pQ [pR [pV 1 (pU 0),pV 2 (pI 0)],pQ [pR [pV 3 (.bin .eql (.s 0) (pU 0))]] (.cond (.s 3) (pQ [pR [pV 1 (pU 0),pV 2 (pI 6)]] .ret) .skip),pQ [.reg ⟨[.lt 5 [] (.bin .eql (.bin .rem (.s 0) (pU 2)) (pU 0))],[([(5,xh)],.bin .eql (.s 0) (pU 1))],[pV 4 (.ite (.s 5) pT (.bin .eql (.s 0) (pU 1)))]⟩] (.cond (.s 4) (pQ [pR [pV 1 (pU 0),pV 2 (pI 3)]] .ret) .skip),pR [pV 1 (.bin .quo (.s 0) (pU 2)),pV 2 (pI 0)]] .ret,[(1,.v),(2,.v)]⟩
def p6:ZK Sol.prog fresh sig [.fz] [] Try.f44=xk Kp:=Z2
def Im:Fn:=⟨5,[0,2,3,4,20],
pQ [pR [(1,.m [pI 0,pI 0]),pV 2 (pI 0)],pR [(3,pM (.ag [.conv .i64 (.bin .rem (.bin .shr (.s 0) (pU 1)) (pU 65536)),.conv .i64 (.bin .shr (.s 0) (pU 17))]) 2)],pQ [.reg ⟨[.lt 5 [] (.bin .neq (.bin .rem (.s 0) (pU 2)) (pU 0)),.call 6 [(5,xh)] (.id 94) xh xh [.mm 3 0 2]],[([(5,xh)],.un .not (.s 6))],[pV 4 (.ite (.s 5) pT (.un .not (.s 6)))]⟩] (.cond (.s 4) (pQ [pR [(1,pM (.ag [pI 0,pI 0]) 2),pV 2 (pI 3)]] .ret) .skip),pR [(1,pM (.mm 3 0 2) 2),pV 2 (pI 0)]] .ret,[(1,(.ag 2)),(2,.v)]⟩
def x6:ZK Sol.prog fresh sig [.fz] [] Try.f69=xk Im:=Z2
def It:Fn:=⟨3,[0,1,2],
pQ [pR [(1,pS 0 2),pV 2 pF],.reg ⟨[.lt 3 [] (.bin .geq (.m 1 0) (pI 0)),.lt 4 [] (.ite (.s 3) (.bin .leq (.m 1 0) (pI 255)) pF),.lt 5 [] (.ite (.s 4) (.bin .geq (.m 1 1) (pI 0)) pF)],[([(3,xy)],.bin .leq (.m 1 0) (pI 255)),([(4,xy)],.bin .geq (.m 1 1) (pI 0)),([(5,xy)],.bin .leq (.m 1 1) (.m 1 0))],[pV 2 (.ite (.s 5) (.bin .leq (.m 1 1) (.m 1 0)) pF)]⟩] .ret,[(2,.v)]⟩
def c94:ZK Sol.prog fresh sig [.fz] [] Try.f94=xk It:=Z2
def ym:Fn:=⟨4,[0,2,3,9],
pQ [pR [pV 1 (pU 0),pV 2 (pI 0)],pQ [.reg ⟨[.lt 4 [] (.bin .lss (.s 0) (pU 1))],[([(4,xh)],.bin .gtr (.s 0) (pU 9223372036854775807))],[pV 3 (.ite (.s 4) pT (.bin .gtr (.s 0) (pU 9223372036854775807)))]⟩] (.cond (.s 3) (pQ [pR [pV 1 (pU 0),pV 2 (pI 1)]] .ret) .skip),pR [pV 1 (.bin .add (.bin .mul (pU 2) (.s 0)) (pU 1)),pV 2 (pI 0)]] .ret,[(1,.v),(2,.v)]⟩
def c95:ZK Sol.prog fresh sig [.fz] [] Try.f95=xk ym:=Z2
def Iv:Fn:=⟨6,[0,1,2,3,4,8],
pQ [pR [(1,pS 0 2),pV 2 (pU 0),pV 3 (pI 0)],pC [pK 6 116 [.mm 1 0 2]] [pV 4 (.s 6)],pQ [pR [pV 5 (.un .not (.s 4))]] (.cond (.s 5) (pQ [pR [pV 2 (pU 0),pV 3 (pI 1)]] .ret) .skip),pR [pV 2 (.bin .mul (pU 2) (.bin .add (.conv .u64 (.m 1 0)) (.bin .mul (pU 65536) (.conv .u64 (.m 1 1))))),pV 3 (pI 0)]] .ret,[(2,.v),(3,.v)]⟩
def c99:ZK Sol.prog fresh sig [.fz] [] Try.f99=xk Iv:=Z2
def yh:Fn:=⟨4,[0,2,3,9],
pQ [pR [pV 1 (pU 0),pV 2 (pI 0)],pQ [.reg ⟨[.lt 4 [] (.bin .lss (.s 0) (pU 1))],[([(4,xh)],.bin .gtr (.s 0) (pU 9223372036854775807))],[pV 3 (.ite (.s 4) pT (.bin .gtr (.s 0) (pU 9223372036854775807)))]⟩] (.cond (.s 3) (pQ [pR [pV 1 (pU 0),pV 2 (pI 1)]] .ret) .skip),pR [pV 1 (.bin .add (.bin .mul (pU 2) (.s 0)) (pU 1)),pV 2 (pI 0)]] .ret,[(1,.v),(2,.v)]⟩
def Pk:ZK Sol.prog fresh sig [.fz] [] Try.f101=xk yh:=Z2
def HD:Fn:=⟨3,[0,1,2],
pQ [pR [(1,pS 0 2),pV 2 pF],.reg ⟨[.lt 3 [] (.bin .geq (.m 1 0) (pI 0)),.lt 4 [] (.ite (.s 3) (.bin .leq (.m 1 0) (pI 255)) pF),.lt 5 [] (.ite (.s 4) (.bin .geq (.m 1 1) (pI 0)) pF)],[([(3,xy)],.bin .leq (.m 1 0) (pI 255)),([(4,xy)],.bin .geq (.m 1 1) (pI 0)),([(5,xy)],.bin .leq (.m 1 1) (.m 1 0))],[pV 2 (.ite (.s 5) (.bin .leq (.m 1 1) (.m 1 0)) pF)]⟩] .ret,[(2,.v)]⟩
def Py:ZK Sol.prog fresh sig [.fz] [] Try.f116=xk HD:=Z2
end Vm
end
section
namespace Vm
open Go Go.Proofs
def Ym(n:Int):Prop:= -9223372036854775808<=n/\n<=9223372036854775807
def ZC(n:Int):Prop:=0<=n/\n<18446744073709551616
def ZW(n:Int)(a:0<=n)(h2:n<=18446744073709551615):IntKind.u64.wrap n=n:=by
 rw[IntKind.wrap_u64];omega
def Yh{α:Type}{l:List α}{i:Nat}{x:α}(h:l[i]?=xk x):∀a:i<P l,l[i]'a=x:=λa=>by
 rw[ZdG a]at h;exact Zfx h
def YJ(size ptrs:Int):Bool:=decide (0<=size)&&decide (size<=255)&&decide (0<=ptrs)&&decide (ptrs<=size)
theorem Yv{s p:Int}:YJ s p=xy↔0<=s/\s<=255/\0<=p/\p<=s:=by simp[YJ,and_assoc]
abbrev J9(s p:Int):V:=.agg [vi s,vi p]
def Mi{s p:Int}:VC Sol.prog 94 xh [J9 s p] (.bool (YJ s p)):=by
 refine ZU Sol.func94 follows Z2 c94 rfl ?_;by_cases a:0<=s<;>by_cases d:s<=255<;>by_cases f:0<=p<;>by_cases g:p<=s<;>simp[It,YJ,a,d,f,g]
def Z5O{s p:Int}:VC Sol.prog 116 xh [J9 s p] (.bool (YJ s p)):=by
 refine ZU Sol.func116 follows Z2 Py rfl ?_;by_cases a:0<=s<;>by_cases d:s<=255<;>by_cases f:0<=p<;>by_cases g:p<=s<;>simp[HD,YJ,a,d,f,g]
def adr(w:Int):Int×Int:=if w=0 then(0,6)else if w%2=0\/w=1 then(0,3)else(w / 2,0)
def Js{w:Int}(l:ZC w):VC Sol.prog 44 xh [vu w] (.tup [vu (adr w).1,vi (adr w).2]):=by
 refine ZU Sol.func44 follows Z2 p6 rfl ?_;obtain⟨f,n⟩:=l;have d:w.tmod 2=w%2:=ZeR f;have j:w.tdiv 2=w / 2:=Zhc f;have k:=ZW (w / 2) Z0 Z0;by_cases a:w=0;simp[Kp,adr,a];by_cases g:w%2=0;simp[Kp,adr,a,d,g];by_cases h:w=1;subst h;simp[Kp,adr];simp[Kp,adr,a,d,j,g,h,k]
def XG(a:Int):Int×Int:=if a<1\/9223372036854775807<a then(0,1)else(2*a+1,0)
def Z5a{a:Int}(j:ZC a):VC Sol.prog 95 xh [vu a] (.tup [vu (XG a).1,vi (XG a).2]):=by
 refine ZU Sol.func95 follows Z2 c95 rfl ?_;obtain⟨k,l⟩:=j;by_cases d:a<1;simp[ym,XG,d];by_cases f:9223372036854775807<a;simp[ym,XG,d,f];have g:=ZW (2*a) Z0 Z0;have h:=ZW (2*a+1) Z0 Z0;simp[ym,XG,d,f,g,h]
def Z5L{a:Int}(j:ZC a):VC Sol.prog 101 xh [vu a] (.tup [vu (XG a).1,vi (XG a).2]):=by
 refine ZU Sol.func101 follows Z2 Pk rfl ?_;obtain⟨k,l⟩:=j;by_cases d:a<1;simp[yh,XG,d];by_cases f:9223372036854775807<a;simp[yh,XG,d,f];have g:=ZW (2*a) Z0 Z0;have h:=ZW (2*a+1) Z0 Z0;simp[yh,XG,d,f,g,h]
def Uf(s p:Int):Int×Int:=if YJ s p then(2*(s+65536*p),0)else(0,1)
def Z5K{s p:Int}:VC Sol.prog 99 xh [J9 s p] (.tup [vu (Uf s p).1,vi (Uf s p).2]):=by
 refine ZU Sol.func99 follows Z2 c99 rfl ?_;simp[Iv];refine Zy Z5O Z1 ?_;cases h:YJ s p;simp[Uf,h];obtain⟨k,l,n,o⟩:=Yv.1 h;have a:=ZW s Z0 Z0;have d:=ZW p Z0 Z0;have f:=ZW (65536*p) Z0 Z0;have g:=ZW (s+65536*p) Z0 Z0;have j:=ZW (2*(s+65536*p)) Z0 Z0;simp[Uf,h,a,d,f,g,j]
def ZP(w:Int):Int×Int×Int:=if w%2=0/\YJ (w / 2%65536) (w / 131072)=xy then(w / 2%65536,w / 131072,0)else(0,0,3)
def Nl{w:Int}(l:ZC w):VC Sol.prog 69 xh [vu w] (.tup [J9 (ZP w).1 (ZP w).2.1,vi (ZP w).2.2]):=by
 refine ZU Sol.func69 follows Z2 x6 rfl ?_;obtain⟨k,r⟩:=l;have p:w.fdiv (2 ^ min 1 IntKind.u64.bits)=w / 2:=by
  rw[show(2:Int) ^ min 1 IntKind.u64.bits=2 by decide];exact Zhb _ Z0
 have q:w.fdiv (2 ^ min 17 IntKind.u64.bits)=w / 131072:=by
  rw[show(2:Int) ^ min 17 IntKind.u64.bits=131072 by decide];exact Zhb _ Z0
 have n:=ZW (w / 2) Z0 Z0;have o:=ZW (w / 131072) Z0 Z0;have f:w.tmod 2=w%2:=ZeR k;have g:(w / 2).tmod 65536=w / 2%65536:=ZeR Z0;have h:=Zz (w / 2%65536) Z0 Z0;have j:=Zz (w / 131072) Z0 Z0;simp[Im,Xc,p,q,f,g,h,j,n,o];by_cases a:w%2=0;simp[a];refine Zy Mi Z1 ?_;cases d:YJ (w / 2%65536) (w / 131072);simp[ZP,a,d];simp[ZP,a,d];simp[a,ZP]
end Vm
end
section
namespace Vm
open Go
open Go.Proofs
def I5:Fn:=⟨11,[0,1,2,3,4,5,6,12,7,8,28],
pQ [pR [(2,pS 0 7),(3,pS 1 2),pV 4 (pU 0),pV 5 (pI 0)],pC [pK 11 62 [.mm 2 0 7]] [pV 6 (.s 11)],pQ [pR [pV 7 (.un .not (.s 6))]] (.cond (.s 7) (pQ [pR [pV 4 (pU 0),pV 5 (pI 1)]] .ret) .skip),pC [pK 12 63 [.mm 2 0 7,.m 3 0]] [pV 8 (.ext (.s 12) 0),pV 9 (.ext (.s 12) 1)],pQ [.reg ⟨[.lt 13 [] (.bin .lss (.m 3 1) (pI 0))],[([(13,xh)],.bin .geq (.m 3 1) (.s 9))],[pV 10 (.ite (.s 13) pT (.bin .geq (.m 3 1) (.s 9)))]⟩] (.cond (.s 10) (pQ [pR [pV 4 (pU 0),pV 5 (pI 6)]] .ret) .skip),pR [pV 4 (.bin .add (.s 8) (.conv .u64 (.m 3 1))),pV 5 (pI 0)]] .ret,[(4,.v),(5,.v)]⟩
def PT:ZK Sol.prog fresh sig [.fz,.fz] [] Try.f31=xk I5:=Z2
def Ii:Fn:=⟨5,[0,1,2,35,53],
pQ [pR [(1,pS 0 7),pV 2 pF],pQ [.reg ⟨[.lt 5 [] (.bin .lss (.m 1 0) (pU 1)),.lt 6 [] (.ite (.s 5) pT (.bin .lss (.m 1 1) (pI 0))),.lt 7 [] (.ite (.s 6) pT (.bin .gtr (.m 1 1) (pI 4096))),.lt 8 [] (.ite (.s 7) pT (.bin .gtr (.m 1 0) (.bin .sub (pU 9223372036854775808) (.bin .mul (pU 2) (.conv .u64 (.m 1 1)))))),.lt 9 [] (.ite (.s 8) pT (.bin .lss (.m 1 2) (pI 0)))],[([(5,xh)],.bin .lss (.m 1 1) (pI 0)),([(6,xh)],.bin .gtr (.m 1 1) (pI 4096)),([(7,xh)],.bin .gtr (.m 1 0) (.bin .sub (pU 9223372036854775808) (.bin .mul (pU 2) (.conv .u64 (.m 1 1))))),([(8,xh)],.bin .lss (.m 1 2) (pI 0)),([(9,xh)],.bin .gtr (.m 1 2) (pI 1))],[pV 3 (.ite (.s 9) pT (.bin .gtr (.m 1 2) (pI 1)))]⟩] (.cond (.s 3) (pQ [pR [pV 2 pF]] .ret) .skip),pQ [.reg ⟨[.lt 10 [] (.bin .lss (.m 1 3) (pI 0)),.lt 11 [] (.ite (.s 10) pT (.bin .lss (.m 1 4) (pI 0))),.lt 12 [] (.ite (.s 11) pT (.bin .lss (.m 1 5) (pI 0)))],[([(10,xh)],.bin .lss (.m 1 4) (pI 0)),([(11,xh)],.bin .lss (.m 1 5) (pI 0)),([(12,xh)],.bin .lss (.m 1 6) (pI 0))],[pV 4 (.ite (.s 12) pT (.bin .lss (.m 1 6) (pI 0)))]⟩] (.cond (.s 4) (pQ [pR [pV 2 pF]] .ret) .skip),.reg ⟨[.lt 13 [] (.bin .leq (.m 1 3) (.m 1 1)),.lt 14 [] (.ite (.s 13) (.bin .leq (.m 1 4) (.bin .sub (.m 1 1) (.m 1 3))) pF),.lt 15 [] (.ite (.s 14) (.bin .leq (.m 1 5) (.m 1 1)) pF)],[([(13,xy)],.bin .leq (.m 1 4) (.bin .sub (.m 1 1) (.m 1 3))),([(14,xy)],.bin .leq (.m 1 5) (.m 1 1)),([(15,xy)],.bin .leq (.m 1 6) (.bin .sub (.m 1 1) (.m 1 5)))],[pV 2 (.ite (.s 15) (.bin .leq (.m 1 6) (.bin .sub (.m 1 1) (.m 1 5))) pF)]⟩] .ret,[(2,.v)]⟩
def u5:ZK Sol.prog fresh sig [.fz] [] Try.f62=xk Ii:=Z2
def AX:Fn:=⟨12,[0,1,2,4,5,6,7,28,27,33,45,50],
pQ [pR [(2,pS 0 7),pV 3 (pU 0),pV 4 (pI 0)],pR [pV 5 (.bin .add (.m 2 0) (.conv .u64 (.bin .mul (.m 2 2) (.m 2 1))))],pR [pV 6 (.bin .add (.m 2 0) (.conv .u64 (.bin .mul (.bin .sub (pI 1) (.m 2 2)) (.m 2 1))))],pQ [pR [pV 8 (.s 1)]] (.block 0 (pQ [pR [pV 7 (.bin .eql (.s 8) (pI 1))]] (.cond (.s 7) (pQ [pR [pV 3 (.s 5),pV 4 (.m 2 3)]] .ret) (pQ [pR [pV 9 (.bin .eql (.s 8) (pI 2))]] (.cond (.s 9) (pQ [pR [pV 3 (.bin .add (.s 5) (.conv .u64 (.bin .sub (.m 2 1) (.m 2 4)))),pV 4 (.m 2 4)]] .ret) (pQ [pR [pV 10 (.bin .eql (.s 8) (pI 3))]] (.cond (.s 10) (pQ [pR [pV 3 (.s 6),pV 4 (.m 2 5)]] .ret) (pQ [pR [pV 11 (.bin .eql (.s 8) (pI 4))]] (.cond (.s 11) (pQ [pR [pV 3 (.bin .add (.s 6) (.conv .u64 (.bin .sub (.m 2 1) (.m 2 6)))),pV 4 (.m 2 6)]] .ret) .skip))))))))),pR [pV 3 (pU 0),pV 4 (pI 0)]] .ret,[(3,.v),(4,.v)]⟩
def DO:ZK Sol.prog fresh sig [.fz,.fz] [] Try.f63=xk AX:=Z2
def Ik:Fn:=⟨4,[0,1,2,25],
pQ [pR [(1,pS 0 7),pV 2 pF],pQ [.reg ⟨[.lt 4 [] (.bin .lss (.m 1 1) (pI 0)),.lt 5 [] (.ite (.s 4) pT (.bin .gtr (.m 1 1) (pI 4096))),.lt 6 [] (.ite (.s 5) pT (.bin .lss (.m 1 0) (pU 1)))],[([(4,xh)],.bin .gtr (.m 1 1) (pI 4096)),([(5,xh)],.bin .lss (.m 1 0) (pU 1)),([(6,xh)],.bin .gtr (.m 1 0) (.bin .sub (pU 9223372036854775808) (.bin .mul (pU 2) (.conv .u64 (.m 1 1)))))],[pV 3 (.ite (.s 6) pT (.bin .gtr (.m 1 0) (.bin .sub (pU 9223372036854775808) (.bin .mul (pU 2) (.conv .u64 (.m 1 1))))))]⟩] (.cond (.s 3) (pQ [pR [pV 2 pF]] .ret) .skip),.reg ⟨[.lt 7 [] (.bin .eql (.m 1 2) (pI 0)),.lt 8 [] (.ite (.s 7) pT (.bin .eql (.m 1 2) (pI 1))),.call 9 [(8,xy)] (.id 91) xh xh [.m 1 3,.m 1 4,.m 1 1],.lt 10 [] (.ite (.s 8) (.s 9) pF),.call 11 [(10,xy)] (.id 91) xh xh [.m 1 5,.m 1 6,.m 1 1]],[([(7,xh)],.bin .eql (.m 1 2) (pI 1))],[pV 2 (.ite (.s 10) (.s 11) pF)]⟩] .ret,[(2,.v)]⟩
def x3:ZK Sol.prog fresh sig [.fz] [] Try.f65=xk Ik:=Z2
def Il:Fn:=⟨12,[0,1,2,4,5,10,14,15,7,6,13,31],
pQ [pR [(2,pS 0 7),(3,.m [pI 0,pI 0]),pV 4 (pI 0)],pQ [pC [pK 12 65 [.mm 2 0 7]] [pV 5 (.un .not (.s 12))]] (.cond (.s 5) (pQ [pR [(3,pM (.ag [pI 0,pI 0]) 2),pV 4 (pI 1)]] .ret) .skip),pQ [pC [pK 10 93 [.mm 2 0 7]] [pV 6 (pI 0)]] (.block 0 (.loop [0,1,2,3,4,5,6,10] (pQ [pR [pV 7 (.bin .lss (.s 6) (pI 4))],.cond (.s 7) .skip (.exit 0),.block 1 (pQ [pR [(8,pM (.sz (.ai (.s 10) (.s 6) 4 2 xy) 2) 2),pV 9 (.s 6)],.reg ⟨[.lt 13 [] (.bin .geq (.s 1) (.m 8 0))],[([(13,xy)],.bin .lss (.bin .sub (.s 1) (.m 8 0)) (.conv .u64 (.m 8 1)))],[pV 11 (.ite (.s 13) (.bin .lss (.bin .sub (.s 1) (.m 8 0)) (.conv .u64 (.m 8 1))) pF)]⟩] (.cond (.s 11) (pQ [pR [(3,pM (.ag [.bin .add (.s 9) (pI 1),.conv .i64 (.bin .sub (.s 1) (.m 8 0))]) 2),pV 4 (pI 0)]] .ret) .skip))] (pR [pV 6 (.bin .add (.s 6) (pI 1))])))),pR [(3,pM (.ag [pI 0,pI 0]) 2),pV 4 (pI 6)]] .ret,[(3,(.ag 2)),(4,.v)]⟩
def x5:ZK Sol.prog fresh sig [.fz,.fz] [] Try.f67=xk Il:=Z2
def In:Fn:=⟨4,[0,1,2,5],
pQ [pR [(1,pS 0 7),pV 2 (pI 0)],pQ [pC [pK 4 65 [.mm 1 0 7]] [pV 3 (.un .not (.s 4))]] (.cond (.s 3) (pQ [pR [pV 2 (pI 0)]] .ret) .skip),pR [pV 2 (.bin .sub (.bin .sub (.m 1 1) (.m 1 3)) (.m 1 4))]] .ret,[(2,.v)]⟩
def c70:ZK Sol.prog fresh sig [.fz] [] Try.f70=xk In:=Z2
def Io:Fn:=⟨10,[0,1,2,3,4,5,9,17,6,33],
pQ [pR [(2,pS 0 7),(3,pS 1 2),pV 4 (pU 0),pV 5 (pI 0)],pQ [pC [pK 10 65 [.mm 2 0 7]] [pV 6 (.un .not (.s 10))]] (.cond (.s 6) (pQ [pR [pV 4 (pU 0),pV 5 (pI 1)]] .ret) .skip),pQ [.reg ⟨[.lt 11 [] (.bin .lss (.m 3 0) (pI 1))],[([(11,xh)],.bin .gtr (.m 3 0) (pI 4))],[pV 7 (.ite (.s 11) pT (.bin .gtr (.m 3 0) (pI 4)))]⟩] (.cond (.s 7) (pQ [pR [pV 4 (pU 0),pV 5 (pI 6)]] .ret) .skip),pC [pK 12 93 [.mm 2 0 7]] [(8,pM (.sz (.ai (.s 12) (.bin .sub (.m 3 0) (pI 1)) 4 2 xy) 2) 2)],pQ [.reg ⟨[.lt 13 [] (.bin .lss (.m 3 1) (pI 0))],[([(13,xh)],.bin .geq (.m 3 1) (.m 8 1))],[pV 9 (.ite (.s 13) pT (.bin .geq (.m 3 1) (.m 8 1)))]⟩] (.cond (.s 9) (pQ [pR [pV 4 (pU 0),pV 5 (pI 6)]] .ret) .skip),pR [pV 4 (.bin .add (.m 8 0) (.conv .u64 (.m 3 1))),pV 5 (pI 0)]] .ret,[(4,.v),(5,.v)]⟩
def c75:ZK Sol.prog fresh sig [.fz,.fz] [] Try.f75=xk Io:=Z2
def yl:Fn:=⟨4,[0,1,2,6],
pQ [pR [pV 3 pF],.reg ⟨[.lt 4 [] (.bin .geq (.s 0) (pI 0)),.lt 5 [] (.ite (.s 4) (.bin .geq (.s 1) (pI 0)) pF),.lt 6 [] (.ite (.s 5) (.bin .leq (.s 0) (.s 2)) pF)],[([(4,xy)],.bin .geq (.s 1) (pI 0)),([(5,xy)],.bin .leq (.s 0) (.s 2)),([(6,xy)],.bin .leq (.s 1) (.bin .sub (.s 2) (.s 0)))],[pV 3 (.ite (.s 6) (.bin .leq (.s 1) (.bin .sub (.s 2) (.s 0))) pF)]⟩] .ret,[(3,.v)]⟩
def c91:ZK Sol.prog fresh sig [.fz,.fz,.fz] [] Try.f91=xk yl:=Z2
def Is:Fn:=⟨3,[0,1,2],
pQ [pR [(1,pS 0 7),(2,.m [pU 0,pI 0,pU 0,pI 0,pU 0,pI 0,pU 0,pI 0])],pC [pK 3 113 [.mm 1 0 7,pI 1],pK 4 113 [.mm 1 0 7,pI 2],pK 5 113 [.mm 1 0 7,pI 3],pK 6 113 [.mm 1 0 7,pI 4]] [(2,pM (.ag [.fld (.ag [.one (.s 3),.m 1 3]) 0,.fld (.ag [.one (.s 3),.m 1 3]) 1,.fld (.ag [.one (.s 4),.m 1 4]) 0,.fld (.ag [.one (.s 4),.m 1 4]) 1,.fld (.ag [.one (.s 5),.m 1 5]) 0,.fld (.ag [.one (.s 5),.m 1 5]) 1,.fld (.ag [.one (.s 6),.m 1 6]) 0,.fld (.ag [.one (.s 6),.m 1 6]) 1]) 8)]] .ret,[(2,(.ag 8))]⟩
def c93:ZK Sol.prog fresh sig [.fz] [] Try.f93=xk Is:=Z2
def Kn:Fn:=⟨10,[0,1,2,4,5,9,8,11,13,15],
pQ [pR [(2,pS 0 7),pV 3 (pU 0)],pR [pV 4 (.m 2 0)],pQ [pR [pV 6 (.s 1)]] (.block 0 (pQ [.block 4 (pQ [.block 3 (pQ [.block 2 (pQ [.block 1 (pQ [pQ [pQ [pR [pV 5 (.bin .eql (.s 6) (pI 2))]] (.cond (.s 5) (.exit 1) .skip),pQ [pR [pV 7 (.bin .eql (.s 6) (pI 1))]] (.cond (.s 7) (.exit 2) .skip),pQ [pR [pV 8 (.bin .eql (.s 6) (pI 4))]] (.cond (.s 8) (.exit 3) .skip),pR [pV 9 (.bin .eql (.s 6) (pI 3))]] (.cond (.s 9) (.exit 4) .skip)] (.exit 0))] (pR [pV 4 (.bin .add (.s 4) (.conv .u64 (.bin .sub (.m 2 1) (.m 2 4))))])),pR [pV 4 (.bin .add (.s 4) (.conv .u64 (.bin .mul (.m 2 2) (.m 2 1))))]] (.exit 0))] (pR [pV 4 (.bin .add (.s 4) (.conv .u64 (.bin .sub (.m 2 1) (.m 2 6))))])),pR [pV 4 (.bin .add (.s 4) (.conv .u64 (.bin .mul (.bin .sub (pI 1) (.m 2 2)) (.m 2 1))))]] (.exit 0))),pR [pV 3 (.s 4)]] .ret,[(3,.v)]⟩
def Pw:ZK Sol.prog fresh sig [.fz,.fz] [] Try.f113=xk Kn:=Z2
end Vm
end
section
namespace Vm
open Go Go.Proofs
structure Ly where
 base:Int
 cap:Int
 to:Int
 low:Int
 high:Int
 old:Int
 far:Int
 deriving DecidableEq,Inhabited
def X4(l:Ly):V:=.agg [vu l.base,vi l.cap,vi l.to,vi l.low,vi l.high,vi l.old,vi l.far]
@[simp]theorem Zcc(l:Ly):Vi (X4 l) 7=xk (X4 l):=rfl
@[simp]theorem ZaZ(l:Ly):(X4 l).cells=[vu l.base,vi l.cap,vi l.to,vi l.low,vi l.high,vi l.old,vi l.far]:=rfl
@[simp]theorem Za4(l:Ly):ZX (X4 l) 0=xk (vu l.base):=rfl
@[simp]theorem Za5(l:Ly):ZX (X4 l) 1=xk (vi l.cap):=rfl
@[simp]theorem Za6(l:Ly):ZX (X4 l) 2=xk (vi l.to):=rfl
@[simp]theorem Za7(l:Ly):ZX (X4 l) 3=xk (vi l.low):=rfl
@[simp]theorem Za8(l:Ly):ZX (X4 l) 4=xk (vi l.high):=rfl
@[simp]theorem Za9(l:Ly):ZX (X4 l) 5=xk (vi l.old):=rfl
@[simp]theorem Zaa(l:Ly):ZX (X4 l) 6=xk (vi l.far):=rfl
def Ly.fits(l:Ly):Prop:=ZC l.base/\Ym l.cap/\Ym l.to/\Ym l.low/\Ym l.high/\Ym l.old/\Ym l.far
def Tq(a b words:Int):Bool:=decide (0<=a)&&decide (0<=b)&&decide (a<=words)&&decide (b<=words-a)
def ZH(l:Ly):Bool:=decide (0<=l.cap)&&decide (l.cap<=4096)&&decide (1<=l.base)&&decide (l.base<=9223372036854775808-2*l.cap)&&(decide (l.to=0)||decide (l.to=1))&&Tq l.low l.high l.cap&&Tq l.old l.far l.cap
theorem Vg{l:Ly}:ZH l=xy↔0<=l.cap/\l.cap<=4096/\1<=l.base/\l.base<=9223372036854775808-2*l.cap/\(l.to=0\/l.to=1)/\(0<=l.low/\0<=l.high/\l.low<=l.cap/\l.high<=l.cap-l.low)/\(0<=l.old/\0<=l.far/\l.old<=l.cap/\l.far<=l.cap-l.old):=by
 simp[ZH,Tq,and_assoc]
theorem V3{l:Ly}:ZH l=xh↔ ¬(0<=l.cap/\l.cap<=4096/\1<=l.base/\l.base<=9223372036854775808-2*l.cap/\(l.to=0\/l.to=1)/\(0<=l.low/\0<=l.high/\l.low<=l.cap/\l.high<=l.cap-l.low)/\(0<=l.old/\0<=l.far/\l.old<=l.cap/\l.far<=l.cap-l.old)):=by
 grind [Vg]
def NE{a b w:Int}(h:Ym a)(n:Ym b)(j:Ym w):VC Sol.prog 91 xh [vi a,vi b,vi w] (.bool (Tq a b w)):=by
 refine ZU Sol.func91 follows Z2 c91 rfl ?_;obtain⟨k,l⟩:=h;obtain⟨w1,w2⟩:=j;by_cases d:0<=a;by_cases f:a<=w;have e:=Zz (w-a) Z0 Z0;simp_all[yl,Tq];by_cases g:0<=b<;>simp[yl,Tq,d,f,g];simp[yl,Tq,d]
def KQ{l:Ly}(y:l.fits):VC Sol.prog 65 xh [X4 l] (.bool (ZH l)):=by
 refine ZU Sol.func65 follows Z2 x3 rfl ?_;obtain⟨⟨u,w⟩,x,B,p,q,r,t⟩:=y;obtain⟨d,c2⟩:=x;simp[Ik];by_cases g1:l.cap<0;grind [ZH,V3];by_cases g2:4096<l.cap;grind [ZH,V3];by_cases k:l.base<1;grind [ZH,V3];have f:=ZW l.cap Z0 Z0;have g:=ZW (2*l.cap) Z0 Z0;have j:=ZW (9223372036854775808-2*l.cap) Z0 Z0;by_cases n:9223372036854775808-2*l.cap<l.base;grind [ZH,V3];by_cases a:l.to=0\/l.to=1
 .have k1:=NE p q ⟨d,c2⟩;have A:=NE r t ⟨d,c2⟩;have z:ZH l=(Tq l.low l.high l.cap&&Tq l.old l.far l.cap):=by
   obtain h|h:=a<;>simp[ZH,show 0<=l.cap by omega,show l.cap<=4096 by omega,show 1<=l.base by omega,show l.base<=9223372036854775808-2*l.cap by omega,h]
  rw[z];obtain a|a:=a;all_goals
   cases o:Tq l.low l.high l.cap;rw[o]at k1;simp[g1,g2,k,f,g,j,n,a];refine Zy k1 Z1 ?_;simp;rw[o]at k1;simp[g1,g2,k,f,g,j,n,a];refine Zy k1 Z1 ?_;simp;refine Zy A Z1 ?_;simp
 simp_all[ZH,V3]
def Z5P{l:Ly}(j:l.fits):VC Sol.prog 62 xh [X4 l] (.bool (ZH l)):=by
 refine ZU Sol.func62 follows Z2 u5 rfl ?_;obtain⟨⟨f,g⟩,h,y,a,w,d,x⟩:=j;obtain⟨k,c2⟩:=h;simp[Ii];by_cases q:l.base<1;grind [ZH,V3];by_cases g1:l.cap<0;grind [ZH,V3];by_cases g2:4096<l.cap;grind [ZH,V3];have n:=ZW l.cap Z0 Z0;have o:=ZW (2*l.cap) Z0 Z0;have p:=ZW (9223372036854775808-2*l.cap) Z0 Z0;by_cases r:9223372036854775808-2*l.cap<l.base;grind [ZH,V3];by_cases t:l.to<0;grind [ZH,V3];by_cases u:1<l.to;grind [ZH,V3];by_cases D:l.low<0;grind [ZH,V3];by_cases F:l.high<0;grind [ZH,V3];by_cases G:l.old<0;grind [ZH,V3];by_cases H:l.far<0;grind [ZH,V3];obtain⟨z,A⟩:=a;obtain⟨B,C⟩:=d;have w1:=Zz (l.cap-l.low) Z0 Z0;have w2:=Zz (l.cap-l.old) Z0 Z0;grind [ZH,Vg,V3]
def Xo(l:Ly):Int:=if ZH l then l.cap-l.low-l.high else 0
def Z65{l:Ly}(a:l.fits):VC Sol.prog 70 xh [X4 l] (vi (Xo l)):=by
 refine ZU Sol.func70 follows Z2 c70 rfl ?_;simp[In];refine Zy (KQ a) Z1 ?_;cases h:ZH l;simp[Xo,h];have g:=Vg.1 h;have d:=Zz (l.cap-l.low) Z0 Z0;have f:=Zz (l.cap-l.low-l.high) Z0 Z0;simp_all[Xo]
def fstL(l:Ly)(part:Int):Int:=
 if part=1 then l.base+l.to*l.cap else if part=2 then l.base+l.to*l.cap+(l.cap-l.high)else if part=3 then l.base+(1-l.to)*l.cap else l.base+(1-l.to)*l.cap+(l.cap-l.far)
def YQ(l:Ly)(part:Int):Int:=if part=1 then l.low else if part=2 then l.high else if part=3 then l.old else l.far
def qn{l:Ly}(a:ZH l=xy):(l.to*l.cap=0/\(1-l.to)*l.cap=l.cap)\/(l.to*l.cap=l.cap/\(1-l.to)*l.cap=0):=by
 grind [Vg]
theorem WN{l:Ly}(a:ZH l=xy)(k:Int):1<=fstL l k/\fstL l k+YQ l k<=9223372036854775808/\0<=YQ l k/\YQ l k<=4096:=by
 have h:=Vg.1 a;have d:=qn a;unfold fstL YQ;omega
def LO{l:Ly}(d:ZH l=xy){k:Int}(t:1<=k/\k<=4):VC Sol.prog 113 xh [X4 l,vi k] (vu (fstL l k)):=by
 refine ZU Sol.func113 follows Z2 Pw rfl ?_;have h:=Vg.1 d;have u:=qn d;have w1:=Zz (l.to*l.cap) Z0 Z0;have w2:=Zz (1-l.to) Z0 Z0;have w3:=Zz ((1-l.to)*l.cap) Z0 Z0;have w4:=Zz (l.cap-l.high) Z0 Z0;have r:=Zz (l.cap-l.far) Z0 Z0;have f:=ZW (l.to*l.cap) Z0 Z0;have g:=ZW ((1-l.to)*l.cap) Z0 Z0;have j:=ZW (l.cap-l.high) Z0 Z0;have n:=ZW (l.cap-l.far) Z0 Z0;have v1:=ZW (l.base+l.to*l.cap) Z0 Z0;have o:=ZW (l.base+(l.cap-l.high)) Z0 Z0;have p:=ZW (l.base+(l.cap-l.high)+l.to*l.cap) Z0 Z0;have v4:=ZW (l.base+(1-l.to)*l.cap) Z0 Z0;have q:=ZW (l.base+(l.cap-l.far)) Z0 Z0;have v6:=ZW (l.base+(l.cap-l.far)+(1-l.to)*l.cap) Z0 Z0;have a:k=1\/k=2\/k=3\/k=4:=Z0;obtain rfl|rfl|rfl|rfl:=a;simp[Kn,Jj,fstL,w1,f,v1];simp[Kn,Jj,fstL,w1,f,w4,j,o,p];omega;simp[Kn,Jj,fstL,w2,w3,g,v4];simp[Kn,Jj,fstL,w2,w3,g,r,n,q,v6];omega
def WJ(l:Ly):V:=.agg [vu (fstL l 1),vi l.low,vu (fstL l 2),vi l.high,vu (fstL l 3),vi l.old,vu (fstL l 4),vi l.far]
def MY{l:Ly}(a:ZH l=xy):VC Sol.prog 93 xh [X4 l] (WJ l):=by
 refine ZU Sol.func93 follows Z2 c93 rfl ?_;simp[Is];refine Zy (LO a (k:=1) Z0) (by simp[X4]) ?_;simp;refine Zy (LO a (k:=2) Z0) (by simp[X4]) ?_;simp;refine Zy (LO a (k:=3) Z0) (by simp[X4]) ?_;simp;refine Zy (LO a (k:=4) Z0) (by simp[X4]) ?_;simp[WJ]
@[simp]theorem KW(l:Ly):YQ l 1=l.low:=rfl
@[simp]theorem KX(l:Ly):YQ l 2=l.high:=rfl
@[simp]theorem KY(l:Ly):YQ l 3=l.old:=rfl
@[simp]theorem KZ(l:Ly):YQ l 4=l.far:=rfl
def Y1(l:Ly)(part at_:Int):Int×Int:=
 if ZH l=xh then(0,1)else if part<1\/4<part then(0,6)else if at_<0\/YQ l part<=at_ then(0,6)else(fstL l part+at_,0)
def Dg{l:Ly}(p:l.fits){part at_:Int}:VC Sol.prog 75 xh [X4 l,.agg [vi part,vi at_]] (.tup [vu (Y1 l part at_).1,vi (Y1 l part at_).2]):=by
 refine ZU Sol.func75 follows Z2 c75 rfl ?_;simp[Io];refine Zy (KQ p) Z1 ?_;cases d:ZH l;simp[Y1,d];simp;by_cases k:part<1;grind [Y1];by_cases n:4<part;simp_all[Y1];have o:part=1\/part=2\/part=3\/part=4:=Z0;simp[k,n];refine Zy (MY d) Z1 ?_;obtain rfl|rfl|rfl|rfl:=o;have a:=WN d 1;simp only[KW]at a;simp[WJ,Y5,Zz];by_cases f:at_<0;grind [Y1];by_cases g:l.low<=at_;simp_all[Y1];have h:=ZW at_ Z0 Z0;have j:=ZW (fstL l 1+at_) Z0 Z0;simp_all[Y1];have a:=WN d 2;simp only[KX]at a;simp[WJ,Y5,Zz];by_cases f:at_<0;grind [Y1];by_cases g:l.high<=at_;simp_all[Y1];have h:=ZW at_ Z0 Z0;have j:=ZW (fstL l 2+at_) Z0 Z0;simp_all[Y1];have a:=WN d 3;simp only[KY]at a;simp[WJ,Y5,Zz];by_cases f:at_<0;grind [Y1];by_cases g:l.old<=at_;simp_all[Y1];have h:=ZW at_ Z0 Z0;have j:=ZW (fstL l 3+at_) Z0 Z0;simp_all[Y1];have a:=WN d 4;simp only[KZ]at a;simp[WJ,Y5,Zz];by_cases f:at_<0;grind [Y1];by_cases g:l.far<=at_;simp_all[Y1];have h:=ZW at_ Z0 Z0;have j:=ZW (fstL l 4+at_) Z0 Z0;simp_all[Y1]
def yF{l:Ly}(d:ZH l=xy){k:Int}(r:1<=k/\k<=4):VC Sol.prog 63 xh [X4 l,vi k] (.tup [vu (fstL l k),vi (YQ l k)]):=by
 refine ZU Sol.func63 follows Z2 DO rfl ?_;have h:=Vg.1 d;have t:=qn d;have w1:=Zz (l.to*l.cap) Z0 Z0;have w2:=Zz (1-l.to) Z0 Z0;have w3:=Zz ((1-l.to)*l.cap) Z0 Z0;have w4:=Zz (l.cap-l.high) Z0 Z0;have q:=Zz (l.cap-l.far) Z0 Z0;have f:=ZW (l.to*l.cap) Z0 Z0;have g:=ZW ((1-l.to)*l.cap) Z0 Z0;have j:=ZW (l.cap-l.high) Z0 Z0;have n:=ZW (l.cap-l.far) Z0 Z0;have v1:=ZW (l.base+l.to*l.cap) Z0 Z0;have o:=ZW (l.base+l.to*l.cap+(l.cap-l.high)) Z0 Z0;have v4:=ZW (l.base+(1-l.to)*l.cap) Z0 Z0;have p:=ZW (l.base+(1-l.to)*l.cap+(l.cap-l.far)) Z0 Z0;have a:k=1\/k=2\/k=3\/k=4:=Z0;obtain rfl|rfl|rfl|rfl:=a;all_goals simp[AX,Jj,fstL,w1,f,w2,w3,g,w4,j,q,n,v1,o,v4,p]
def Z5I{l:Ly}(d:ZH l=xy){k:Int}(a:k<1\/4<k):VC Sol.prog 63 xh [X4 l,vi k] (.tup [vu 0,vi 0]):=by
 refine ZU Sol.func63 follows Z2 DO rfl ?_;simp[AX,Jj,show k≠1 by omega,show k≠2 by omega,show k≠3 by omega,show k≠4 by omega]
def Z5H{l:Ly}(p:l.fits){part at_:Int}:VC Sol.prog 31 xh [X4 l,.agg [vi part,vi at_]] (.tup [vu (Y1 l part at_).1,vi (Y1 l part at_).2]):=by
 refine ZU Sol.func31 follows Z2 PT rfl ?_;simp[I5];refine Zy (Z5P p) Z1 ?_;cases a:ZH l;simp[Y1,a];simp;by_cases n:part<1\/4<part;refine Zy (Z5I a n) Z1 ?_;by_cases d:at_<0;simp[Y1,a,n,d];simp[Y1,a,n,d,show 0<=at_ by omega];have o:part=1\/part=2\/part=3\/part=4:=Z0;obtain rfl|rfl|rfl|rfl:=o;have g:=WN a 1;simp only[KW]at g;refine Zy (yF a (k:=1) Z0) Z1 ?_;by_cases d:at_<0;simp[Y1,a,d];by_cases f:l.low<=at_;simp[Y1,a,d,f];have h:=ZW at_ Z0 Z0;have j:=ZW (fstL l 1+at_) Z0 Z0;simp[Y1,a,d,f,h,j];have g:=WN a 2;simp only[KX]at g;refine Zy (yF a (k:=2) Z0) Z1 ?_;by_cases d:at_<0;simp[Y1,a,d];by_cases f:l.high<=at_;simp[Y1,a,d,f];have h:=ZW at_ Z0 Z0;have j:=ZW (fstL l 2+at_) Z0 Z0;simp[Y1,a,d,f,h,j];have g:=WN a 3;simp only[KY]at g;refine Zy (yF a (k:=3) Z0) Z1 ?_;by_cases d:at_<0;simp[Y1,a,d];by_cases f:l.old<=at_;simp[Y1,a,d,f];have h:=ZW at_ Z0 Z0;have j:=ZW (fstL l 3+at_) Z0 Z0;simp[Y1,a,d,f,h,j];have g:=WN a 4;simp only[KZ]at g;refine Zy (yF a (k:=4) Z0) Z1 ?_;by_cases d:at_<0;simp[Y1,a,d];by_cases f:l.far<=at_;simp[Y1,a,d,f];have h:=ZW at_ Z0 Z0;have j:=ZW (fstL l 4+at_) Z0 Z0;simp[Y1,a,d,f,h,j]
def X0(l:Ly)(a k:Int):Bool:=decide (fstL l k<=a)&&decide (a<fstL l k+YQ l k)
theorem TH{l:Ly}{a k:Int}:X0 l a k=xy↔fstL l k<=a/\a<fstL l k+YQ l k:=by simp[X0]
def zk{l:Ly}{a k:Int}:X0 l a k=xh↔ ¬(fstL l k<=a/\a<fstL l k+YQ l k):=by grind [TH]
def Ya(l:Ly)(a:Int):Int×Int×Int:=
 if ZH l=xh then(0,0,1)else if X0 l a 1 then(1,a-fstL l 1,0)else if X0 l a 2 then(2,a-fstL l 2,0)else if X0 l a 3 then(3,a-fstL l 3,0)else if X0 l a 4 then(4,a-fstL l 4,0)else(0,0,6)
def Z0N{l:Ly}(x:l.fits){a:Int}(w:ZC a):VC Sol.prog 67 xh [X4 l,vu a] (.tup [.agg [vi (Ya l a).1,vi (Ya l a).2.1],vi (Ya l a).2.2]):=by
 refine ZU Sol.func67 follows Z2 x5 rfl ?_;simp[Il];refine Zy (KQ x) Z1 ?_;cases o:ZH l;simp[Ya,o];obtain⟨z,A⟩:=w;simp;refine Zy (MY o) (by simp[X4]) ?_;simp;have r:∀k,1<=fstL l k/\fstL l k+YQ l k<=9223372036854775808/\0<=YQ l k/\YQ l k<=4096:=λk=>WN o k;have w1:=r 1;have w2:=r 2;have w3:=r 3;have w4:=r 4;simp only[KW,KX,KY,KZ]at w1 w2 w3 w4;refine Ji 6 4 (λi=>(0<i->X0 l a 1=xh)/\(1<i->X0 l a 2=xh)/\(2<i->X0 l a 3=xh)/\(3<i->X0 l a 4=xh)) Z1 Z1 Z1 ?_;rintro i B ⟨n,p,t,y⟩;have u:i=0\/i=1\/i=2\/i=3\/i=4:=Z0;obtain rfl|rfl|rfl|rfl|rfl:=u;have h:=ZW l.low Z0 Z0;by_cases f:fstL l 1<=a;have j:=ZW (a-fstL l 1) Z0 Z0;by_cases g:a-fstL l 1<l.low;have q:=Zz (a-fstL l 1) Z0 Z0;have d:X0 l a 1=xy:=TH.2 ⟨f,by rw[KW];omega⟩;simp[WJ,Y5,Zz,f,h,j,g,q,Ya,o,d];have d:X0 l a 1=xh:=zk.2 (by rw[KW];omega);simp[WJ,Y5,Zz,f,h,j,g,d];have d:X0 l a 1=xh:=by simp[X0,f]
 simp[WJ,Y5,Zz,f,d];have h:=ZW l.high Z0 Z0;by_cases f:fstL l 2<=a;have j:=ZW (a-fstL l 2) Z0 Z0;by_cases g:a-fstL l 2<l.high;have q:=Zz (a-fstL l 2) Z0 Z0;have d:X0 l a 2=xy:=TH.2 ⟨f,by rw[KX];omega⟩;simp[WJ,Y5,Zz,f,h,j,g,q,Ya,o,d,n Z0];have d:X0 l a 2=xh:=zk.2 (by rw[KX];omega);simp[WJ,Y5,Zz,f,h,j,g,d,n Z0];have d:X0 l a 2=xh:=by simp[X0,f]
 simp[WJ,Y5,Zz,f,d,n Z0];have h:=ZW l.old Z0 Z0;by_cases f:fstL l 3<=a;have j:=ZW (a-fstL l 3) Z0 Z0;by_cases g:a-fstL l 3<l.old;have q:=Zz (a-fstL l 3) Z0 Z0;have d:X0 l a 3=xy:=TH.2 ⟨f,by rw[KY];omega⟩;simp[WJ,Y5,Zz,f,h,j,g,q,Ya,o,d,n Z0,p Z0];have d:X0 l a 3=xh:=zk.2 (by rw[KY];omega);simp[WJ,Y5,Zz,f,h,j,g,d,n Z0,p Z0];have d:X0 l a 3=xh:=by simp[X0,f]
 simp[WJ,Y5,Zz,f,d,n Z0,p Z0];have h:=ZW l.far Z0 Z0;by_cases f:fstL l 4<=a;have j:=ZW (a-fstL l 4) Z0 Z0;by_cases g:a-fstL l 4<l.far;have q:=Zz (a-fstL l 4) Z0 Z0;have d:X0 l a 4=xy:=TH.2 ⟨f,by rw[KZ];omega⟩;simp[WJ,Y5,Zz,f,h,j,g,q,Ya,o,d,n Z0,p Z0,t Z0];have d:X0 l a 4=xh:=zk.2 (by rw[KZ];omega);simp[WJ,Y5,Zz,f,h,j,g,d,n Z0,p Z0,t Z0];have d:X0 l a 4=xh:=by simp[X0,f]
 simp[WJ,Y5,Zz,f,d,n Z0,p Z0,t Z0];simp[Ya,o,n Z0,p Z0,t Z0,y Z0]
end Vm
end
section
namespace Vm
open Go
open Go.Proofs
def yi:Fn:=⟨8,[0,1,2,4,6,5,10,14],
pQ [pR [(2,pS 0 10),pV 3 pN],pQ [pR [pV 5 (.s 1)]] (.block 0 (pQ [pR [pV 4 (.bin .eql (.s 5) (pI 1))]] (.cond (.s 4) (pQ [pR [pV 3 (.m 2 5)]] .ret) (pQ [pR [pV 6 (.bin .eql (.s 5) (pI 2))]] (.cond (.s 6) (pQ [pR [pV 3 (.m 2 6)]] .ret) (pQ [pR [pV 7 (.bin .eql (.s 5) (pI 3))]] (.cond (.s 7) (pQ [pR [pV 3 (.m 2 7)]] .ret) .skip))))))),pR [pV 3 (.m 2 8)]] .ret,[(3,.v)]⟩
def PR:ZK Sol.prog fresh sig [.fz,.fz] [] Try.f28=xk yi:=Z2
def yk:Fn:=⟨9,[0,1,2,3,6,10,7,14,18],
pQ [pR [(3,pS 0 10),(4,pZ)],pQ [pR [pV 6 (.s 1)]] (.block 0 (pQ [pR [pV 5 (.bin .eql (.s 6) (pI 1))]] (.cond (.s 5) (pR [(3,.m [.m 3 0,.m 3 1,.m 3 2,.m 3 3,.m 3 4,.one (.s 2),.m 3 6,.m 3 7,.m 3 8,.m 3 9])]) (pQ [pR [pV 7 (.bin .eql (.s 6) (pI 2))]] (.cond (.s 7) (pR [(3,.m [.m 3 0,.m 3 1,.m 3 2,.m 3 3,.m 3 4,.m 3 5,.one (.s 2),.m 3 7,.m 3 8,.m 3 9])]) (pQ [pR [pV 8 (.bin .eql (.s 6) (pI 3))]] (.cond (.s 8) (pR [(3,.m [.m 3 0,.m 3 1,.m 3 2,.m 3 3,.m 3 4,.m 3 5,.m 3 6,.one (.s 2),.m 3 8,.m 3 9])]) (pR [(3,.m [.m 3 0,.m 3 1,.m 3 2,.m 3 3,.m 3 4,.m 3 5,.m 3 6,.m 3 7,.one (.s 2),.m 3 9])])))))))),pR [(4,pM (.mm 3 0 10) 10)]] .ret,[(4,(.ag 10))]⟩
def PS:ZK Sol.prog fresh sig [.fz,.fz,.fz] [] Try.f29=xk yk:=Z2
def I6:Fn:=⟨3,[0,1,2],
pQ [pR [(1,pS 0 10),(2,.m [pU 0,pI 0,pI 0,pI 0,pI 0,pI 0,pI 0])],pR [(2,pM (.ag [.m 1 0,.m 1 1,.m 1 2,.len (.m 1 5),.len (.m 1 6),.len (.m 1 7),.len (.m 1 8)]) 7)]] .ret,[(2,(.ag 7))]⟩
def PU:ZK Sol.prog fresh sig [.fz] [] Try.f32=xk I6:=Z2
def Ia:Fn:=⟨10,[0,1,2,3,4,39,5,41,6,52],
pQ [pR [(2,pS 0 10),(3,pS 1 10),pV 4 pF],pQ [.reg ⟨[.lt 10 [] (.bin .neq (.m 2 0) (.m 3 0)),.lt 11 [] (.ite (.s 10) pT (.bin .neq (.m 2 1) (.m 3 1))),.lt 12 [] (.ite (.s 11) pT (.bin .neq (.m 2 2) (.m 3 2))),.lt 13 [] (.ite (.s 12) pT (.eqv xy (.m 2 3) (.m 3 3)))],[([(10,xh)],.bin .neq (.m 2 1) (.m 3 1)),([(11,xh)],.bin .neq (.m 2 2) (.m 3 2)),([(12,xh)],.eqv xy (.m 2 3) (.m 3 3)),([(13,xh)],.bin .neq (.m 2 4) (.m 3 4))],[pV 5 (.ite (.s 13) pT (.bin .neq (.m 2 4) (.m 3 4)))]⟩] (.cond (.s 5) (pQ [pR [pV 4 pF]] .ret) .skip),pQ [pR [pV 6 (pI 1)]] (.block 0 (.loop [0,1,2,3,4,5,6] (pQ [pQ [pR [pV 7 (.bin .leq (.s 6) (pI 4))]] (.cond (.s 7) .skip (.exit 0)),.block 1 (pQ [pC [pK 14 28 [.mm 2 0 10,.s 6],pK 15 28 [.mm 3 0 10,.s 6],pK 16 49 [.s 14,.s 15]] [pV 8 (.s 16)],pR [pV 9 (.un .not (.s 8))]] (.cond (.s 9) (pQ [pR [pV 4 pF]] .ret) .skip))] (pR [pV 6 (.bin .add (.s 6) (pI 1))])))),pC [pK 17 49 [.m 2 9,.m 3 9]] [pV 4 (.s 17)]] .ret,[(4,.v)]⟩
def PZ:ZK Sol.prog fresh sig [.fz,.fz] [] Try.f40=xk Ia:=Z2
def AV:Fn:=⟨7,[0,1,4,10,5,14,25],
pQ [pR [pV 2 pF],pQ [pR [pV 3 (.bin .neq (.len (.s 0)) (.len (.s 1)))]] (.cond (.s 3) (pQ [pR [pV 2 pF]] .ret) .skip),pQ [pR [pV 4 (pI 0)]] (.block 0 (.loop [0,1,2,3,4] (pQ [pQ [pR [pV 5 (.bin .lss (.s 4) (.len (.s 0)))]] (.cond (.s 5) .skip (.exit 0)),.block 1 (pQ [pR [pV 6 (.bin .neq (.fld (.idx (.s 0) (.s 4) 1) 0) (.fld (.idx (.s 1) (.s 4) 1) 0))]] (.cond (.s 6) (pQ [pR [pV 2 pF]] .ret) .skip))] (pR [pV 4 (.bin .add (.s 4) (pI 1))])))),pR [pV 2 pT]] .ret,[(2,.v)]⟩
def r9:ZK Sol.prog fresh sig [.fz,.fz] [] Try.f49=xk AV:=Z2
def AW:Fn:=⟨4,[0,1,4,6],
pQ [pR [pV 2 (pI 0)],pQ [pR [pV 3 (.bin .lss (.s 0) (pI 0))]] (.cond (.s 3) (pR [pV 0 (.un .neg (.bin .add (.s 0) (pI 1)))]) .skip),pR [pV 2 (.bin .rem (.s 0) (.s 1))]] .ret,[(2,.v)]⟩
def t9:ZK Sol.prog fresh sig [.fz,.fz] [] Try.f53=xk AW:=Z2
def Ij:Fn:=⟨3,[0,1,2],
pQ [pR [(1,pS 0 10),(2,.m [pU 0,pI 0,pI 0,pI 0,pI 0,pI 0,pI 0])],pR [(2,pM (.ag [.m 1 0,.m 1 1,.m 1 2,.len (.m 1 5),.len (.m 1 6),.len (.m 1 7),.len (.m 1 8)]) 7)]] .ret,[(2,(.ag 7))]⟩
def u9:ZK Sol.prog fresh sig [.fz] [] Try.f64=xk Ij:=Z2
def AZ:Fn:=⟨4,[0,1,4,6],
pQ [pR [pV 2 (pI 0)],pQ [pR [pV 3 (.bin .lss (.s 0) (pI 0))]] (.cond (.s 3) (pR [pV 0 (.un .neg (.bin .add (.s 0) (pI 1)))]) .skip),pR [pV 2 (.bin .rem (.s 0) (.s 1))]] .ret,[(2,.v)]⟩
def c77:ZK Sol.prog fresh sig [.fz,.fz] [] Try.f77=xk AZ:=Z2
end Vm
end
section
namespace Vm
open Go Go.Proofs
structure Hp where
 base:Int
 cap:Int
 to:Int
 cycle:Bool
 scan:Int
 low:List Int
 high:List Int
 old:List Int
 far:List Int
 roots:List Int
 deriving DecidableEq,Inhabited
def ZJ(h:Hp):V:=.agg [vu h.base,vi h.cap,vi h.to,.bool h.cycle,vi h.scan,.sl (h.low.map vu),.sl (h.high.map vu),.sl (h.old.map vu),.sl (h.far.map vu),.sl (h.roots.map vu)]
@[simp]theorem Zcb(h:Hp):Vi (ZJ h) 10=xk (ZJ h):=rfl
@[simp]theorem ZaI(h:Hp):(ZJ h).cells=[vu h.base,vi h.cap,vi h.to,.bool h.cycle,vi h.scan,.sl (h.low.map vu),.sl (h.high.map vu),.sl (h.old.map vu),.sl (h.far.map vu),.sl (h.roots.map vu)]:=rfl
@[simp]theorem Z9T(h:Hp):ZX (ZJ h) 0=xk (vu h.base):=rfl
@[simp]theorem Z9U(h:Hp):ZX (ZJ h) 1=xk (vi h.cap):=rfl
@[simp]theorem Z9V(h:Hp):ZX (ZJ h) 2=xk (vi h.to):=rfl
@[simp]theorem Z9W(h:Hp):ZX (ZJ h) 3=xk (.bool h.cycle):=rfl
@[simp]theorem Z9X(h:Hp):ZX (ZJ h) 4=xk (vi h.scan):=rfl
@[simp]theorem Z9Y(h:Hp):ZX (ZJ h) 5=xk (.sl (h.low.map vu)):=rfl
@[simp]theorem Z9Z(h:Hp):ZX (ZJ h) 6=xk (.sl (h.high.map vu)):=rfl
@[simp]theorem Za0(h:Hp):ZX (ZJ h) 7=xk (.sl (h.old.map vu)):=rfl
@[simp]theorem Za1(h:Hp):ZX (ZJ h) 8=xk (.sl (h.far.map vu)):=rfl
@[simp]theorem Za2(h:Hp):ZX (ZJ h) 9=xk (.sl (h.roots.map vu)):=rfl
def Zu(h:Hp):Ly:=⟨h.base,h.cap,h.to,P h.low,P h.high,P h.old,P h.far⟩
structure Hp.ok (h:Hp):Prop where
 base:ZC h.base
 cap:Ym h.cap
 to:Ym h.to
 scan:Ym h.scan
 low:P h.low<=1000000
 high:P h.high<=1000000
 old:P h.old<=1000000
 far:P h.far<=1000000
 roots:P h.roots<=1000000
 lowW:∀w∈h.low,ZC w
 highW:∀w∈h.high,ZC w
 oldW:∀w∈h.old,ZC w
 farW:∀w∈h.far,ZC w
 rootsW:∀w∈h.roots,ZC w
def LP{α:Type}{l:List α}(h:P l<=1000000):Ym (P l:Int):=⟨Z0,Z0⟩
def Hp.ok.lay{h:Hp}(a:h.ok):(Zu h).fits:=⟨a.base,a.cap,a.to,LP a.low,LP a.high,LP a.old,LP a.far⟩
def CW{h:Hp}:VC Sol.prog 64 xh [ZJ h] (X4 (Zu h)):=by
 refine ZU Sol.func64 follows Z2 u9 rfl ?_;simp[Ij,X4,Zu]
def Z5J{h:Hp}:VC Sol.prog 32 xh [ZJ h] (X4 (Zu h)):=by
 refine ZU Sol.func32 follows Z2 PU rfl ?_;simp[I6,X4,Zu]
def Zx(h:Hp)(n:Int):List Int:=if n=1 then h.low else if n=2 then h.high else if n=3 then h.old else h.far
@[simp]theorem Vz(h:Hp):Zx h 1=h.low:=rfl
@[simp]theorem yo(h:Hp):Zx h 2=h.high:=rfl
@[simp]theorem Kr(h:Hp):Zx h 3=h.old:=rfl
@[simp]theorem Ks(h:Hp):Zx h 4=h.far:=rfl
def UV{h:Hp}{n:Int}:VC Sol.prog 28 xh [ZJ h,vi n] (.sl ((Zx h n).map vu)):=by
 refine ZU Sol.func28 follows Z2 PR rfl ?_;by_cases a:n=1;simp[yi,Zx,a];by_cases d:n=2;simp[yi,Zx,d];by_cases f:n=3<;>simp[yi,Zx,a,d,f]
def Xi(h:Hp)(n:Int)(l:Z8):Hp:=if n=1 then {h with low:=l}else if n=2 then {h with high:=l}else if n=3 then {h with old:=l}else {h with far:=l}
@[simp]theorem Zcm(h:Hp)(l:Z8):Xi h 1 l= {h with low:=l}:=rfl
@[simp]theorem Zcn(h:Hp)(l:Z8):Xi h 2 l= {h with high:=l}:=rfl
@[simp]theorem Z82(h:Hp)(l:Z8):Xi h 3 l= {h with old:=l}:=rfl
@[simp]theorem Z83(h:Hp)(l:Z8):Xi h 4 l= {h with far:=l}:=rfl
def De{h:Hp}{n:Int}{l:Z8}:VC Sol.prog 29 xh [ZJ h,vi n,.sl (l.map vu)] (ZJ (Xi h n l)):=by
 refine ZU Sol.func29 follows Z2 PS rfl ?_;by_cases a:n=1;simp[yk,Xi,a,ZJ];by_cases d:n=2;simp[yk,Xi,d,ZJ];by_cases f:n=3<;>simp[yk,Xi,a,d,f,ZJ]
theorem Co{α:Type}{a b:List α}{i:Nat}(h:a.take i=b.take i)(hx:a[i]?=b[i]?):a.take (i+1)=b.take (i+1):=by
 simp_all[ZeI]
def Zb8{α:Type}{a b:List α}{i:Nat}(h:a[i]? ≠b[i]?):a≠b:=λe=>h (by rw[e])
def QQ{a b:Z8}(k:P a<=1000000):VC Sol.prog 49 xh [.sl (a.map vu),.sl (b.map vu)] (.bool (decide (a=b))):=by
 refine ZU Sol.func49 follows Z2 r9 rfl ?_;by_cases g:P a=P b;simp[AV,g];refine Ji 4 (P b) (λi=>a.take i=b.take i) Z1 Z1 Z1 ?_;intro i l heq;have j:=Zz ((i:Int)+1) Z0 Z0;by_cases h:i<P b;have d:i<P a:=Z0;by_cases f:a[i]=b[i];simp[h,d,f,j];grind [Co];simp[h,d,f];grind;simp_all[Zfa,ZeK];simp[AV,show ¬((P a:Int)=(P b:Int))by omega];grind
def BQ{a b:Hp}(f:a.ok):VC Sol.prog 40 xh [ZJ a,ZJ b] (.bool (decide (a=b))):=by
 refine ZU Sol.func40 follows Z2 PZ rfl ?_;simp[Ia];have g:∀k,P (Zx a k)<=1000000:=λk=>by
  unfold Zx;split;exact f.low;split;exact f.high;split;exact f.old;exact f.far
 by_cases g1:a.base=b.base;case neg=>
  grind
 by_cases g2:a.cap=b.cap;case neg=>
  grind
 by_cases j:a.to=b.to;case neg=>
  grind
 by_cases l:a.cycle=b.cycle;case neg=>
  grind
 by_cases o:a.scan=b.scan;case neg=>
  grind
 simp[g1,g2,j,l,o];refine Sg (λ(i:Nat)=>[(6,.v (vi ((i+1:Nat):Int)))]) (λi=>i<=4/\(0<i->a.low=b.low)/\(1<i->a.high=b.high)/\(2<i->a.old=b.old)/\(3<i->a.far=b.far)) (Xf 6 5) 0 Z1 Z1 ?_;rintro i ⟨A,w,x,y,z⟩;have p:i=0\/i=1\/i=2\/i=3\/i=4:=Z0;obtain rfl|rfl|rfl|rfl|rfl:=p;simp;refine Zy (UV (h:=⟨b.base,b.cap,b.to,b.cycle,b.scan,a.low,a.high,a.old,a.far,a.roots⟩) (n:=1)) Zdy ?_;simp;refine Zy (UV (h:=b) (n:=1)) Zdy ?_;simp;refine Zy (QQ (b:=b.low) (g 1)) Z1 ?_;by_cases d:a.low=b.low;simp[d,Zz];exact⟨1,by simp[d],Z1,ZdB⟩;have:a≠b:=λe=>d (by rw[e]);simp_all;simp;refine Zy (UV (h:=⟨b.base,b.cap,b.to,b.cycle,b.scan,a.low,a.high,a.old,a.far,a.roots⟩) (n:=2)) Zdy ?_;simp;refine Zy (UV (h:=b) (n:=2)) Zdy ?_;simp;refine Zy (QQ (b:=b.high) (g 2)) Z1 ?_;by_cases d:a.high=b.high;simp[d,Zz];exact⟨2,ZcK,Z1,ZdB⟩;have:a≠b:=λe=>d (by rw[e]);simp_all;simp;refine Zy (UV (h:=⟨b.base,b.cap,b.to,b.cycle,b.scan,a.low,a.high,a.old,a.far,a.roots⟩) (n:=3)) Zdy ?_;simp;refine Zy (UV (h:=b) (n:=3)) Zdy ?_;simp;refine Zy (QQ (b:=b.old) (g 3)) Z1 ?_;by_cases d:a.old=b.old;simp[d,Zz];exact⟨3,ZcK,Z1,ZdB⟩;have:a≠b:=λe=>d (by rw[e]);simp_all;simp;refine Zy (UV (h:=⟨b.base,b.cap,b.to,b.cycle,b.scan,a.low,a.high,a.old,a.far,a.roots⟩) (n:=4)) Zdy ?_;simp;refine Zy (UV (h:=b) (n:=4)) Zdy ?_;simp;refine Zy (QQ (b:=b.far) (g 4)) Z1 ?_;by_cases d:a.far=b.far;simp[d,Zz];exact⟨4,ZcK,Z1,ZdB⟩;have:a≠b:=λe=>d (by rw[e]);simp_all;simp;refine Zy (QQ (b:=b.roots) f.roots) Z1 ?_;by_cases d:a.roots=b.roots;have:a=b:=by
  have q:=w Z0;have r:=x Z0;have t:=y Z0;have u:=z Z0;obtain⟨_,_,_,_,_,_,_,_,_,_⟩:=a;obtain⟨_,_,_,_,_,_,_,_,_,_⟩:=b;simp only at g1 g2 j l o q r t u d;subst g1 g2 j l o q r t u d;rfl
 simp_all;have:a≠b:=λe=>d (by rw[e]);simp_all
def pick(c n:Int):Int:=(if c<0 then-(c+1)else c) %n
def UK{c n:Int}(a:0<n):0<=pick c n/\pick c n<n:=⟨ZhI _ Z0,Zhf _ a⟩
def Kt{c n:Int}(hc:Ym c)(f:0<n):VC Sol.prog 77 xh [vi c,vi n] (vi (pick c n)):=by
 refine ZU Sol.func77 follows Z2 c77 rfl ?_;obtain⟨a,d⟩:=hc;by_cases h:c<0;simp[AZ,h];simp(disch:=omega) only[Zz];refine⟨Z0,?_⟩;unfold pick;grind;simp[AZ,h];refine⟨Z0,?_⟩;simp_all[pick,if_neg,ZeR]
def IC{c n:Int}(hc:Ym c)(f:0<n):VC Sol.prog 53 xh [vi c,vi n] (vi (pick c n)):=by
 refine ZU Sol.func53 follows Z2 t9 rfl ?_;obtain⟨a,d⟩:=hc;by_cases h:c<0;simp[AW,h];simp(disch:=omega) only[Zz];refine⟨Z0,?_⟩;unfold pick;grind;simp[AW,h];refine⟨Z0,?_⟩;simp_all[pick,if_neg,ZeR]
end Vm
end
section
namespace Vm
open Go
open Go.Proofs
def I2:Fn:=⟨13,[0,1,4,5,6,7,16,8,9,30,10,78,97],
pQ [pR [(2,.m [pN,pN])],pR [pV 3 (.mn (.len (.s 0)) (pI 10))],pR [(4,.m [pN,pN])],pQ [pR [pV 5 (pI 0)]] (.block 0 (.loop [0,1,2,3,4,5] (pQ [pQ [pR [pV 6 (.bin .lss (.s 5) (.s 3))]] (.cond (.s 6) .skip (.exit 0)),.block 1 (pQ [pR [(7,.m [pN,pN])],pQ [pR [pV 8 (pI 0)]] (.block 2 (.loop [0,1,2,3,4,5,6,7,8] (pQ [pQ [.reg ⟨[.lt 13 [] (.bin .lss (.s 8) (.len (.fld (.idx (.s 0) (.s 5) 2) 0)))],[([(13,xy)],.bin .lss (.s 8) (pI 4))],[pV 9 (.ite (.s 13) (.bin .lss (.s 8) (pI 4)) pF)]⟩] (.cond (.s 9) .skip (.exit 2)),.block 3 (pC [pK 14 53 [.fld (.idx (.fld (.idx (.s 0) (.s 5) 2) 0) (.s 8) 1) 0,.bin .add (.s 3) (pI 1)]] [(7,.m [.app (.m 7 0) (.lit [.bin .sub (.s 14) (pI 1)]) 1,.m 7 1])])] (pR [pV 8 (.bin .add (.s 8) (pI 1))])))),pR [(7,.m [.m 7 0,.app pN (.slc (.fld (.idx (.s 0) (.s 5) 2) 1) (pI 0) (.mn (.len (.fld (.idx (.s 0) (.s 5) 2) 1)) (pI 4)) 1) 1])]] (pR [(4,.m [.app (.m 4 0) (.lit [.mm 7 0 2]) 2,.m 4 1])]))] (pR [pV 5 (.bin .add (.s 5) (pI 1))])))),pQ [pR [pV 10 (pI 0)]] (.block 4 (.loop [0,1,2,3,4,5,6,10] (pQ [pQ [.reg ⟨[.lt 15 [] (.bin .lss (.s 10) (.len (.s 1)))],[([(15,xy)],.bin .lss (.s 10) (pI 5))],[pV 11 (.ite (.s 15) (.bin .lss (.s 10) (pI 5)) pF)]⟩] (.cond (.s 11) .skip (.exit 4)),.block 5 (pC [pK 16 53 [.fld (.idx (.s 1) (.s 10) 1) 0,.bin .add (.s 3) (pI 1)]] [(4,.m [.m 4 0,.app (.m 4 1) (.lit [.bin .sub (.s 16) (pI 1)]) 1])])] (pR [pV 10 (.bin .add (.s 10) (pI 1))])))),pQ [pR [pV 12 (.bin .eql (.len (.m 4 1)) (pI 0))]] (.cond (.s 12) (pR [(4,.m [.m 4 0,.app (.m 4 1) (.lit [.bin .sub (.s 3) (pI 1)]) 1])]) .skip),pR [(2,pM (.mm 4 0 2) 2)]] .ret,[(2,(.ag 2))]⟩
def PO:ZK Sol.prog fresh sig [.fz,.fz] [] Try.f23=xk I2:=Z2
def AY:Fn:=⟨10,[0,1,2,3,6,7,8,14,9,31],
pQ [pR [(3,pS 0 7),pV 4 (pI 0),pV 5 pF],pR [pV 6 (.s 1)],pQ [pR [pV 7 (.bin .gtr (.len (.m 3 2)) (pI 0))]] (.cond (.s 7) (pR [pV 6 (.fld (.idx (.m 3 2) (.bin .rem (.s 1) (.len (.m 3 2))) 1) 0)]) .skip),pC [pK 10 77 [.s 6,pI 3]] [pV 8 (.s 10)],pQ [.reg ⟨[.lt 11 [] (.bin .eql (.s 8) (pI 2))],[([(11,xy)],.un .not (.s 2))],[pV 9 (.ite (.s 11) (.un .not (.s 2)) pF)]⟩] (.cond (.s 9) (pR [pV 8 (pI 1)]) .skip),pC [pK 12 77 [.bin .quo (.s 6) (pI 3),pI 2]] [pV 4 (.s 8),pV 5 (.bin .eql (.s 12) (pI 1))]] .ret,[(4,.v),(5,.v)]⟩
def c76:ZK Sol.prog fresh sig [.fz,.fz,.fz] [] Try.f76=xk AY:=Z2
def Ip:Fn:=⟨15,[0,1,2,3,4,5,6,8,9,10,11,12,44,13,76],
pQ [pR [(4,pS 0 14),(5,pS 1 2),(6,pS 2 2),(7,.m [pU 0,pI 0,pI 0,pF,pI 0,pN,pN,pN,pN,pN,pN,pN,pN,pN])],pC [pK 15 28 [.mm 4 0 10,.m 5 0]] [pV 8 (.app pN (.s 15) 1)],pC [pK 16 99 [.ag [.bin .add (.len (.m 6 0)) (.len (.m 6 1)),.len (.m 6 0)]]] [pV 9 (.ext (.s 16) 0),pV 10 (.ext (.s 16) 1)],.reg ⟨[],[([],.idx (.s 8) (.m 5 1) 1)],[pV 8 (.upd (.s 8) (.m 5 1) 0 (.one (.s 9)))]⟩,pQ [pR [pV 11 (pI 0)]] (.block 0 (.loop [0,1,2,3,4,5,6,7,8,9,10,11] (pQ [pQ [pR [pV 12 (.bin .lss (.s 11) (.len (.m 6 0)))]] (.cond (.s 12) .skip (.exit 0)),.block 1 (.reg ⟨[pK 17 100 [.mm 4 0 14,.ag [.m 5 0,.bin .add (.bin .add (.m 5 1) (pI 1)) (.s 11)],.fld (.idx (.m 6 0) (.s 11) 1) 0,.bin .add (.s 3) (.s 11)]],[([],.idx (.s 8) (.bin .add (.bin .add (.m 5 1) (pI 1)) (.s 11)) 1)],[pV 8 (.upd (.s 8) (.bin .add (.bin .add (.m 5 1) (pI 1)) (.s 11)) 0 (.one (.s 17)))]⟩)] (pR [pV 11 (.bin .add (.s 11) (pI 1))])))),pQ [pR [pV 13 (pI 0)]] (.block 2 (.loop [0,1,2,3,4,5,6,7,8,9,10,11,12,13] (pQ [pQ [pR [pV 14 (.bin .lss (.s 13) (.len (.m 6 1)))]] (.cond (.s 14) .skip (.exit 2)),.block 3 (.reg ⟨[],[([],.idx (.s 8) (.bin .add (.bin .add (.bin .add (.m 5 1) (pI 1)) (.len (.m 6 0))) (.s 13)) 1)],[pV 8 (.upd (.s 8) (.bin .add (.bin .add (.bin .add (.m 5 1) (pI 1)) (.len (.m 6 0))) (.s 13)) 0 (.fld (.idx (.m 6 1) (.s 13) 1) 0))]⟩)] (pR [pV 13 (.bin .add (.s 13) (pI 1))])))),pC [pK 18 29 [.mm 4 0 10,.m 5 0,.s 8]] [(4,.m [.fld (.sz (.s 18) 10) 0,.fld (.sz (.s 18) 10) 1,.fld (.sz (.s 18) 10) 2,.fld (.sz (.s 18) 10) 3,.fld (.sz (.s 18) 10) 4,.fld (.sz (.s 18) 10) 5,.fld (.sz (.s 18) 10) 6,.fld (.sz (.s 18) 10) 7,.fld (.sz (.s 18) 10) 8,.fld (.sz (.s 18) 10) 9,.m 4 10,.m 4 11,.m 4 12,.m 4 13])],pR [(7,pM (.mm 4 0 14) 14)]] .ret,[(7,(.ag 14))]⟩
def c78:ZK Sol.prog fresh sig [.fz,.fz,.fz,.fz] [] Try.f78=xk Ip:=Z2
def B0:Fn:=⟨10,[0,1,2,3,4,11,5,6,7,8],
pQ [pR [(2,pS 0 14),(3,pS 1 2),pV 4 (pU 0)],pQ [pR [pV 5 (.bin .eql (.m 3 0) (pI 0))]] (.cond (.s 5) (pQ [pR [pV 4 (pU 0)]] .ret) .skip),pC [pK 10 32 [.mm 2 0 10],pK 11 31 [.s 10,.mm 3 0 2]] [pV 6 (.ext (.s 11) 0),pV 7 (.ext (.s 11) 1)],pC [pK 12 101 [.s 6]] [pV 8 (.ext (.s 12) 0),pV 9 (.ext (.s 12) 1)],pR [pV 4 (.s 8)]] .ret,[(4,.v)]⟩
def c79:ZK Sol.prog fresh sig [.fz,.fz] [] Try.f79=xk B0:=Z2
def TT:Fn:=⟨10,[0,1,2,3,4,5,8,10,13,54],
pQ [pR [(4,pS 0 14),(5,pS 1 2),pV 6 (pU 0)],pQ [pR [pV 7 (.bin .lss (.s 2) (pI 0))]] (.cond (.s 7) (pQ [pR [pV 6 (pU 0)]] .ret) .skip),pQ [pR [pV 8 (.bin .gtr (.m 5 0) (pI 2))]] (.cond (.s 8) (pQ [pC [pK 10 79 [.mm 4 0 14,.flds (.idx (.m 4 13) (.s 2) 2) 0 2]] [pV 6 (.s 10)]] .ret) .skip),pQ [.reg ⟨[.lt 11 [] (.bin .eql (.m 5 0) (pI 1)),.lt 12 [] (.ite (.s 11) (.bin .geq (.m 5 1) (.m 4 4)) pF),.lt 13 [(12,xy)] (.bin .eql (.fld (.idx (.m 4 12) (.s 2) 2) 0) (pI 0)),.lt 14 [(12,xy),(13,xh)] (.bin .gtr (.fld (.idx (.m 4 13) (.s 2) 2) 0) (pI 0))],[([(11,xy)],.bin .geq (.m 5 1) (.m 4 4)),([(12,xy),(13,xh),(14,xy)],.bin .eql (.bin .rem (.s 3) (pI 2)) (pI 0)),([(12,xy),(13,xh)],.ite (.s 14) (.bin .eql (.bin .rem (.s 3) (pI 2)) (pI 0)) pF),([(12,xy)],.ite (.s 13) pT (.ite (.s 14) (.bin .eql (.bin .rem (.s 3) (pI 2)) (pI 0)) pF))],[pV 9 (.ite (.s 12) (.ite (.s 13) pT (.ite (.s 14) (.bin .eql (.bin .rem (.s 3) (pI 2)) (pI 0)) pF)) pF)]⟩] (.cond (.s 9) (pQ [pC [pK 15 79 [.mm 4 0 14,.flds (.idx (.m 4 13) (.s 2) 2) 0 2]] [pV 6 (.s 15)]] .ret) .skip),pC [pK 16 79 [.mm 4 0 14,.flds (.idx (.m 4 12) (.s 2) 2) 0 2]] [pV 6 (.s 16)]] .ret,[(6,.v)]⟩
def Pj:ZK Sol.prog fresh sig [.fz,.fz,.fz,.fz] [] Try.f100=xk TT:=Z2
end Vm
end
section
namespace Vm
open Go Go.Proofs
structure Nd where
 ptrs:List Int
 data:List Int
 deriving DecidableEq,Inhabited
structure Gr where
 nodes:List Nd
 roots:List Int
 deriving DecidableEq,Inhabited
def Ye(n:Nd):V:=.agg [.sl (n.ptrs.map vi),.sl (n.data.map vu)]
def Yj(g:Gr):V:=.agg [.sl (g.nodes.map Ye),.sl (g.roots.map vi)]
@[simp]theorem Zb7(n:Nd):(Ye n).cells=[.sl (n.ptrs.map vi),.sl (n.data.map vu)]:=rfl
@[simp]theorem ZbY(l:List Nd):Xp 2 (l.map Ye)=xy:=Ja λ_=>rfl
@[simp]theorem Zay(n:Nd):U9 (Ye n) 0 2=xk (Ye n):=rfl
@[simp]theorem Zab(n:Nd):ZX (Ye n) 0=xk (.sl (n.ptrs.map vi)):=rfl
@[simp]theorem Zac(n:Nd):ZX (Ye n) 1=xk (.sl (n.data.map vu)):=rfl
@[simp]theorem Zcd(n:Nd):Vi (Ye n) 2=xk (Ye n):=rfl
@[simp]theorem Zax(g:Gr):U9 (Yj g) 0 2=xk (Yj g):=rfl
@[simp]theorem Z9R(g:Gr):ZX (Yj g) 0=xk (.sl (g.nodes.map Ye)):=rfl
@[simp]theorem Z9S(g:Gr):ZX (Yj g) 1=xk (.sl (g.roots.map vi)):=rfl
@[simp]theorem Zca(g:Gr):Vi (Yj g) 2=xk (Yj g):=rfl
@[simp]theorem ZaG(g:Gr):(Yj g).cells=[.sl (g.nodes.map Ye),.sl (g.roots.map vi)]:=rfl
@[simp]theorem Zc3{k:Zs}{l:Zn}(j n:Nat):SW n (.sl l) (.int k 0) (.int k (j:Int))=if j<=P l/\Xp n l=xy then xk (.sl (l.take j))else xw:=by
 have:=Z74 (k:=k) (l:=l) 0 j n;simpa using this
def rp(n:Nat)(p:Int):Int:=pick p (n+1) -1
def UF(n:Nat)(x:Nd):Nd:=⟨(x.ptrs.take 4).map (rp n),x.data.take 4⟩
def Vf(l:List Nd):Nat:=min (P l) 10
def ZS(l:List Nd)(a:Z8):Gr:=⟨(l.take (Vf l)).map (UF (Vf l)),if a.take 5=[]then [(Vf l:Int) -1]else(a.take 5).map (rp (Vf l))⟩
def Od{l:List Nd}{a:Z8}(Y:∀x∈l,∀p∈x.ptrs,Ym p)(hr:∀p∈a,Ym p):VC Sol.prog 23 xh [.sl (l.map Ye),.sl (a.map vi)] (Yj (ZS l a)):=by
 refine ZU Sol.func23 follows Z2 PO rfl ?_;have Q:Vf l<=10:=by grind [Vf]
 have a0:Vf l<=xq l:=by grind [Vf]
 have z:(if(10:Int)< (xq l:Int)then(10:Int)else(xq l:Int))=(Vf l:Int):=by
  unfold Vf;split<;>omega
 simp[I2,z];generalize Z:Vf l=n at*;have C:=Zz ((n:Int)+1) Z0 Z0;refine UT (λt=>∃i:Nat,i<=n/\t=[.v (.sl (l.map Ye)),.v (.sl (a.map vi)),.m [.sl [],.sl []],.v (vi n),.m [.sl (((l.take i).map (UF n)).map Ye),.sl []],.v (vi i)]) (λt=>match get t 5 with|.v (.int _ i)=>n-i.toNat|_=>0) ?_ ?_;exact⟨0,Z1,Z1⟩
 .rintro t ⟨i,hi,rfl⟩;have hw:=Zz ((i:Int)+1) Z0 Z0;by_cases h:i<n
  .have r:i<xq l:=Z0;have N:l[i]?=xk l[i]:=ZdG r;simp[h];generalize A:l[i]=x at N;have O:∀p∈x.ptrs,Ym p:=Y x (ZdO N);have F:(if(4:Int)< (xq x.data:Int)then(4:Int)else(xq x.data:Int))=((min (xq x.data) 4:Nat):Int):=by split<;>omega
   refine UT (λt=>∃k:Nat,k<=xq x.ptrs/\k<=4/\t=[.v (.sl (l.map Ye)),.v (.sl (a.map vi)),.m [.sl [],.sl []],.v (vi n),.m [.sl (((l.take i).map (UF n)).map Ye),.sl []],.v (vi i),.v (.bool xy),.m [.sl (((x.ptrs.take k).map (rp n)).map vi),.sl []],.v (vi k)]) (λt=>match get t 8 with|.v (.int _ i)=>4-i.toNat|_=>0) ?_ ?_;exact⟨0,Z1,Z1,Z1⟩
   .rintro t ⟨k,G,W,rfl⟩;have w:=Zz ((k:Int)+1) Z0 Z0;by_cases S:k<xq x.ptrs/\k<4;obtain⟨f,U⟩:=S;have K:x.ptrs[k]?=xk x.ptrs[k]:=ZdG f;have g:(k:Int)<4:=Z0;simp[r,A,f,g,C];refine Zy (IC (O _ (Ze0 f)) Z0) Z1 ?_;have L:=UK (c:=x.ptrs[k]) (n:=(n:Int)+1) Z0;have y:=Zz (pick x.ptrs[k] ((n:Int)+1) -1) Z0 Z0;simp[w,y];refine⟨by grind [Y4],⟨k+1,Z0,Z0,?_,Z1⟩,Z0⟩;rw[ZeI,Ze1,K];rfl
    .have d:(x.ptrs.take k)=x.ptrs.take 4:=by
      by_cases f:k<xq x.ptrs;grind;grind
     have o:(l.take (i+1)).map (Ye∘UF n)=(l.take i).map (Ye∘UF n)++[V.agg [.sl ((x.ptrs.take k).map (vi∘rp n)),.sl ((x.data.take (min (xq x.data) 4)).map vu)]]:=by
      rw[ZeI,N,Zf6,d];have J:x.data.take (min (xq x.data) 4)=x.data.take 4:=by
       by_cases hd:xq x.data<=4;grind;grind
      rw[J];simp[Ye,UF]
     have B:Xp 1 ((x.data.take (min (xq x.data) 4)).map vu)=xy:=qe _;have u:min (xq x.data) 4<=Y4:=by grind [Y4]
     have H:min i (xq l)+1<=Y4:=by grind [Y4]
     have I:min (xq x.data) 4<=xq x.data:=Z0;simp only[List.map_take]at o B;have g:k<xq x.ptrs->¬(k:Int)<4:=Z0;by_cases f:k<xq x.ptrs
     all_goals (
      simp[r,A,f,g,F,u,H,B,hw,I];exact⟨⟨i+1,Z0,o.symm,Z1⟩,Z0⟩)
  .have:i=n:=Z0;subst this;simp;have D:=Zz ((i:Int) -1) Z0 Z0;refine UT (λt=>∃k:Nat,k<=xq a/\k<=5/\t=[.v (.sl (l.map Ye)),.v (.sl (a.map vi)),.m [.sl [],.sl []],.v (vi i),.m [.sl ((l.take i).map (Ye∘UF i)),.sl ((a.take k).map (vi∘rp i))],.v (vi i),.v (.bool xh),.no,.no,.no,.v (vi k)]) (λt=>match get t 10 with|.v (.int _ i)=>5-i.toNat|_=>0) ?_ ?_;exact⟨0,Z1,Z1,Z1⟩
   .rintro t ⟨k,G,X,rfl⟩;have w:=Zz ((k:Int)+1) Z0 Z0;by_cases T:k<xq a/\k<5;obtain⟨f,U⟩:=T;have K:a[k]?=xk a[k]:=ZdG f;have g:(k:Int)<5:=Z0;simp[f,g,C];refine Zy (IC (hr _ (Ze0 f)) Z0) Z1 ?_;have L:=UK (c:=a[k]) (n:=(i:Int)+1) Z0;have y:=Zz (pick a[k] ((i:Int)+1) -1) Z0 Z0;simp[w,y];refine⟨by grind [Y4],⟨k+1,Z0,Z0,?_,Z1⟩,Z0⟩;rw[ZeI,Ze1,K];rfl
    .have d:(a.take k)=a.take 5:=by
      by_cases f:k<xq a;grind;grind
     have g:k<xq a->¬(k:Int)<5:=Z0;have P:ZS l a=⟨(l.take i).map (UF i),if a.take 5=[]then [(i:Int) -1]else(a.take 5).map (rp i)⟩:=by
      unfold ZS;rw[Z]
     have q:xq (a.take k)=k:=by rw[ZeU];omega
     by_cases R:k=0;subst R;have j:a.take 5=[]:=by rw[<-d];rfl
     rw[P,if_pos j];have f:¬0<xq a:=Z0;have u:1<=Y4:=by simp[Y4]
     simp[f,Yj,D,u]
     .have j:a.take 5≠[]:=by
       rw[<-d];intro h;rw[h]at q;simp at q;omega
      rw[P,if_neg j,<-d];have M:¬a=[]:=by intro h;rw[h]at G;simp at G;omega
      by_cases f:k<xq a;all_goals simp[f,g,Yj,R,M]
def Mm{n:Nat}{p:Int}: -1<=rp n p/\rp n p<n:=by
 have:=UK (c:=p) (n:=(n:Int)+1) Z0;grind [rp]
def zH(l:List Nd)(a:Z8):(ZS l a).nodes.length=Vf l:=by
 simp[ZS,Vf]
def Ai(l:List Nd)(a:Z8):Vf l<=10/\(ZS l a).roots.length<=5/\∀x∈(ZS l a).nodes,P x.ptrs<=4/\P x.data<=4:=by
 refine⟨by grind [Vf],?_,λx d=> ?_⟩;grind [ZS];simp only[ZS,ZdX]at d;obtain⟨y,_,rfl⟩:=d;grind [UF,List.length_map,List.length_take]
end Vm
end
section
namespace Vm
open Go
open Go.Proofs
def HY:Fn:=⟨5,[0,1,2,3,10],
pQ [pR [(1,pS 0 7),(2,pZ)],pC [pK 5 45 [.mm 1 0 7,pT]] [(3,pS 5 14)],pQ [pR [pV 4 (.bin .eql (.len (.m 3 5)) (pI 0))]] (.cond (.s 4) (pQ [pC [pK 6 35 [.mm 1 0 7]] [(2,pS 6 10)]] .ret) .skip),pC [pK 7 46 [.mm 3 0 14,.mm 1 0 7]] [(2,pS 7 10)]] .ret,[(2,(.ag 10))]⟩
def PJ:ZK Sol.prog fresh sig [.fz] [] Try.f16=xk HY:=Z2
def I7:Fn:=⟨3,[0,1,2],
pQ [pR [(1,pS 0 7),(2,pZ)],pC [pK 3 45 [.mm 1 0 7,pF],pK 4 46 [.s 3,.mm 1 0 7]] [(2,pS 4 10)]] .ret,[(2,(.ag 10))]⟩
def PV:ZK Sol.prog fresh sig [.fz] [] Try.f35=xk I7:=Z2
def Ic:Fn:=⟨19,[0,1,2,4,5,6,7,8,26,9,10,11,12,13,57,81,14,82,165],
pQ [pR [(2,pS 0 7),(3,.m [pU 0,pI 0,pI 0,pF,pI 0,pN,pN,pN,pN,pN,pN,pN,pN,pN])],.reg ⟨[pK 19 23 [.m 2 0,.m 2 1]],[([],.ag [pU 0,pI 0,pI 0,pF,pI 0,pN,pN,pN,pN,pN,.fld (.sz (.s 19) 2) 0,.fld (.sz (.s 19) 2) 1,pN,pN])],[(4,.m [pU 0,pI 0,pI 0,pF,pI 0,pN,pN,pN,pN,pN,.fld (.sz (.s 19) 2) 0,.fld (.sz (.s 19) 2) 1,pN,pN])]⟩,pR [(5,.m [pI 0,pI 0,pI 0,pI 0,pI 0])],pR [pV 6 (pI 0)],pQ [pR [pV 7 (pI 0)]] (.block 0 (.loop [0,1,2,3,4,5,6,7] (pQ [pQ [pR [pV 8 (.bin .lss (.s 7) (.len (.m 4 10)))]] (.cond (.s 8) .skip (.exit 0)),.block 1 (pQ [pC [pK 20 76 [.mm 2 0 7,.s 7,.s 1]] [pV 9 (.ext (.s 20) 0),pV 10 (.ext (.s 20) 1)],pR [pV 11 (.bin .add (.bin .add (pI 1) (.len (.fld (.idx (.m 4 10) (.s 7) 2) 0))) (.len (.fld (.idx (.m 4 10) (.s 7) 2) 1)))],pR [(12,pM (.ag [pI 0,pI 0]) 2)],pR [(13,pM (.ag [pI 0,pI 0]) 2)],pQ [pR [pV 14 (.bin .lss (.s 9) (pI 2))]] (.cond (.s 14) (pQ [.reg ⟨[],[([],.ai (.c (.agg [(.bool xy),(.bool xy),(.bool xy),(.bool xy),(.bool xy)])) (.bin .sub (pI 2) (.s 9)) 5 1 xh)],[(12,pM (.ag [.bin .sub (pI 2) (.s 9),.one (.ai (.mm 5 0 5) (.bin .sub (pI 2) (.s 9)) 5 1 xh)]) 2)]⟩] (.reg ⟨[],[([],.ai (.c (.agg [(.bool xy),(.bool xy),(.bool xy),(.bool xy),(.bool xy)])) (.bin .sub (pI 2) (.s 9)) 5 1 xh)],[(5,pM (.aput (.mm 5 0 5) (.bin .sub (pI 2) (.s 9)) 5 1 (.bin .add (.ai (.mm 5 0 5) (.bin .sub (pI 2) (.s 9)) 5 1 xh) (.s 11))) 5)]⟩)) (pR [pV 6 (.bin .add (.s 6) (.s 11))])),pQ [pC [.lt 21 [] (.bin .gtr (.s 9) (pI 0))] [pV 15 (.ite (.s 21) (.s 1) pF)]] (.cond (.s 15) (pQ [pR [pV 16 (pI 3)],pQ [pR [pV 17 (.s 10)]] (.cond (.s 17) (pR [pV 16 (pI 4)]) .skip),.reg ⟨[],[([],.ai (.c (.agg [(.bool xy),(.bool xy),(.bool xy),(.bool xy),(.bool xy)])) (.s 16) 5 1 xh)],[(13,pM (.ag [.one (.s 16),.one (.ai (.mm 5 0 5) (.s 16) 5 1 xh)]) 2)]⟩] (.reg ⟨[],[([],.ai (.c (.agg [(.bool xy),(.bool xy),(.bool xy),(.bool xy),(.bool xy)])) (.s 16) 5 1 xh)],[(5,pM (.aput (.mm 5 0 5) (.s 16) 5 1 (.bin .add (.ai (.mm 5 0 5) (.s 16) 5 1 xh) (.s 11))) 5)]⟩)) .skip),pR [(4,.m [.m 4 0,.m 4 1,.m 4 2,.m 4 3,.m 4 4,.m 4 5,.m 4 6,.m 4 7,.m 4 8,.m 4 9,.m 4 10,.m 4 11,.app (.m 4 12) (.lit [.mm 12 0 2]) 2,.m 4 13])]] (pR [(4,.m [.m 4 0,.m 4 1,.m 4 2,.m 4 3,.m 4 4,.m 4 5,.m 4 6,.m 4 7,.m 4 8,.m 4 9,.m 4 10,.m 4 11,.m 4 12,.app (.m 4 13) (.lit [.mm 13 0 2]) 2])]))] (pR [pV 7 (.bin .add (.s 7) (pI 1))])))),.reg ⟨[pK 22 77 [.m 2 6,pI 2]],[([],.ai (.c (.agg [(.bool xy),(.bool xy),(.bool xy),(.bool xy),(.bool xy)])) (pI 1) 5 1 xh),([],.ai (.c (.agg [(.bool xy),(.bool xy),(.bool xy),(.bool xy),(.bool xy)])) (pI 2) 5 1 xh),([],.ai (.c (.agg [(.bool xy),(.bool xy),(.bool xy),(.bool xy),(.bool xy)])) (pI 3) 5 1 xh),([],.ai (.c (.agg [(.bool xy),(.bool xy),(.bool xy),(.bool xy),(.bool xy)])) (pI 4) 5 1 xh),([],.ag [pU 0,pI 0,.one (.s 22),.one (.s 1),pI 0,.mk (.int .u64 0) (.ai (.mm 5 0 5) (pI 1) 5 1 xh),.mk (.int .u64 0) (.ai (.mm 5 0 5) (pI 2) 5 1 xh),.mk (.int .u64 0) (.ai (.mm 5 0 5) (pI 3) 5 1 xh),.mk (.int .u64 0) (.ai (.mm 5 0 5) (pI 4) 5 1 xh),pN])],[(4,.m [pU 0,pI 0,.one (.s 22),.one (.s 1),pI 0,.mk (.int .u64 0) (.ai (.mm 5 0 5) (pI 1) 5 1 xh),.mk (.int .u64 0) (.ai (.mm 5 0 5) (pI 2) 5 1 xh),.mk (.int .u64 0) (.ai (.mm 5 0 5) (pI 3) 5 1 xh),.mk (.int .u64 0) (.ai (.mm 5 0 5) (pI 4) 5 1 xh),pN,.m 4 10,.m 4 11,.m 4 12,.m 4 13])]⟩,.reg ⟨[pK 23 77 [.m 2 4,pI 12]],[([],.ai (.c (.agg [(.bool xy),(.bool xy),(.bool xy),(.bool xy),(.bool xy)])) (pI 1) 5 1 xh),([],.ai (.c (.agg [(.bool xy),(.bool xy),(.bool xy),(.bool xy),(.bool xy)])) (pI 2) 5 1 xh),([],.ai (.c (.agg [(.bool xy),(.bool xy),(.bool xy),(.bool xy),(.bool xy)])) (pI 3) 5 1 xh),([],.ai (.c (.agg [(.bool xy),(.bool xy),(.bool xy),(.bool xy),(.bool xy)])) (pI 4) 5 1 xh)],[(4,.m [.m 4 0,.bin .add (.mx (.bin .add (.bin .add (.ai (.mm 5 0 5) (pI 1) 5 1 xh) (.ai (.mm 5 0 5) (pI 2) 5 1 xh)) (.s 6)) (.bin .add (.ai (.mm 5 0 5) (pI 3) 5 1 xh) (.ai (.mm 5 0 5) (pI 4) 5 1 xh))) (.s 23),.m 4 2,.m 4 3,.m 4 4,.m 4 5,.m 4 6,.m 4 7,.m 4 8,.m 4 9,.m 4 10,.m 4 11,.m 4 12,.m 4 13])]⟩,pR [(4,.m [.bin .add (pU 1) (.bin .rem (.m 2 3) (.bin .sub (pU 9223372036854775808) (.bin .mul (pU 2) (.conv .u64 (.m 4 1))))),.m 4 1,.m 4 2,.m 4 3,.m 4 4,.m 4 5,.m 4 6,.m 4 7,.m 4 8,.m 4 9,.m 4 10,.m 4 11,.m 4 12,.m 4 13])],.reg ⟨[],[([],.ai (.c (.agg [(.bool xy),(.bool xy),(.bool xy),(.bool xy),(.bool xy)])) (pI 1) 5 1 xh)],[(4,.m [.m 4 0,.m 4 1,.m 4 2,.m 4 3,.one (.ai (.mm 5 0 5) (pI 1) 5 1 xh),.m 4 5,.m 4 6,.m 4 7,.m 4 8,.m 4 9,.m 4 10,.m 4 11,.m 4 12,.m 4 13])]⟩,pQ [.reg ⟨[.lt 24 [] (.s 1)],[([(24,xy)],.ai (.c (.agg [(.bool xy),(.bool xy),(.bool xy),(.bool xy),(.bool xy)])) (pI 1) 5 1 xh),([(24,xy)],.bin .gtr (.ai (.mm 5 0 5) (pI 1) 5 1 xh) (pI 0))],[pV 18 (.ite (.s 24) (.bin .gtr (.ai (.mm 5 0 5) (pI 1) 5 1 xh) (pI 0)) pF)]⟩] (.cond (.s 18) (.reg ⟨[pK 25 77 [.m 2 5,.ai (.mm 5 0 5) (pI 1) 5 1 xh]],[([],.ai (.c (.agg [(.bool xy),(.bool xy),(.bool xy),(.bool xy),(.bool xy)])) (pI 1) 5 1 xh)],[(4,.m [.m 4 0,.m 4 1,.m 4 2,.m 4 3,.one (.s 25),.m 4 5,.m 4 6,.m 4 7,.m 4 8,.m 4 9,.m 4 10,.m 4 11,.m 4 12,.m 4 13])]⟩) .skip),pR [(3,pM (.mm 4 0 14) 14)]] .ret,[(3,(.ag 14))]⟩
def p7:ZK Sol.prog fresh sig [.fz,.fz] [] Try.f45=xk Ic:=Z2
def Id:Fn:=⟨17,[0,1,2,3,4,5,16,6,31,59,83,7,8,9,125,10,134],
pQ [pR [(2,pS 0 14),(3,pS 1 7),(4,pZ)],pQ [pR [pV 5 (pI 0)]] (.block 0 (.loop [0,1,2,3,4,5] (pQ [pQ [pR [pV 6 (.bin .lss (.s 5) (.len (.m 2 10)))]] (.cond (.s 6) .skip (.exit 0)),.block 1 (pQ [pR [(7,pM (.flds (.idx (.m 2 10) (.s 5) 2) 0 2) 2)],pQ [pR [pV 8 (.bin .gtr (.fld (.idx (.m 2 12) (.s 5) 2) 0) (pI 0))]] (.cond (.s 8) (pC [pK 17 78 [.mm 2 0 14,.flds (.idx (.m 2 12) (.s 5) 2) 0 2,.mm 7 0 2,.bin .add (.m 3 4) (.s 5)]] [(2,pS 17 14)]) .skip),pQ [.reg ⟨[.lt 18 [] (.bin .gtr (.fld (.idx (.m 2 13) (.s 5) 2) 0) (pI 0))],[([(18,xy)],.bin .eql (.fld (.idx (.m 2 12) (.s 5) 2) 0) (pI 0))],[pV 9 (.ite (.s 18) (.bin .eql (.fld (.idx (.m 2 12) (.s 5) 2) 0) (pI 0)) pF)]⟩] (.cond (.s 9) (pC [pK 19 78 [.mm 2 0 14,.flds (.idx (.m 2 13) (.s 5) 2) 0 2,.mm 7 0 2,pI 0]] [(2,pS 19 14)]) .skip),.reg ⟨[.lt 20 [] (.bin .gtr (.fld (.idx (.m 2 13) (.s 5) 2) 0) (pI 0))],[([(20,xy)],.bin .gtr (.fld (.idx (.m 2 12) (.s 5) 2) 0) (pI 0))],[pV 10 (.ite (.s 20) (.bin .gtr (.fld (.idx (.m 2 12) (.s 5) 2) 0) (pI 0)) pF)]⟩] (.cond (.s 10) (pQ [pC [pK 21 28 [.mm 2 0 10,.fld (.idx (.m 2 13) (.s 5) 2) 0]] [pV 11 (.app pN (.s 21) 1)],.reg ⟨[pK 22 79 [.mm 2 0 14,.flds (.idx (.m 2 12) (.s 5) 2) 0 2]],[([],.idx (.s 11) (.fld (.idx (.m 2 13) (.s 5) 2) 1) 1)],[pV 11 (.upd (.s 11) (.fld (.idx (.m 2 13) (.s 5) 2) 1) 0 (.one (.s 22)))]⟩] (pC [pK 23 29 [.mm 2 0 10,.fld (.idx (.m 2 13) (.s 5) 2) 0,.s 11]] [(2,.m [.fld (.sz (.s 23) 10) 0,.fld (.sz (.s 23) 10) 1,.fld (.sz (.s 23) 10) 2,.fld (.sz (.s 23) 10) 3,.fld (.sz (.s 23) 10) 4,.fld (.sz (.s 23) 10) 5,.fld (.sz (.s 23) 10) 6,.fld (.sz (.s 23) 10) 7,.fld (.sz (.s 23) 10) 8,.fld (.sz (.s 23) 10) 9,.m 2 10,.m 2 11,.m 2 12,.m 2 13])])) .skip))] (pR [pV 5 (.bin .add (.s 5) (pI 1))])))),pR [pV 12 pN],pQ [pR [pV 13 (pI 0)]] (.block 2 (.loop [0,1,2,3,4,5,6,12,13] (pQ [pQ [pR [pV 14 (.bin .lss (.s 13) (.len (.m 2 11)))]] (.cond (.s 14) .skip (.exit 2)),.block 3 (pQ [pR [pV 15 (pU 0)],pQ [pR [pV 16 (.bin .geq (.fld (.idx (.m 2 11) (.s 13) 1) 0) (pI 0))]] (.cond (.s 16) (pC [pK 24 79 [.mm 2 0 14,.flds (.idx (.m 2 12) (.fld (.idx (.m 2 11) (.s 13) 1) 0) 2) 0 2]] [pV 15 (.s 24)]) .skip)] (pR [pV 12 (.app (.s 12) (.lit [.one (.s 15)]) 1)]))] (pR [pV 13 (.bin .add (.s 13) (pI 1))])))),pR [(2,.m [.m 2 0,.m 2 1,.m 2 2,.m 2 3,.m 2 4,.m 2 5,.m 2 6,.m 2 7,.m 2 8,.one (.s 12),.m 2 10,.m 2 11,.m 2 12,.m 2 13])],pR [(4,pM (.mm 2 0 10) 10)]] .ret,[(4,(.ag 10))]⟩
def p8:ZK Sol.prog fresh sig [.fz,.fz] [] Try.f46=xk Id:=Z2
end Vm
end
section
namespace Vm
open Go Go.Proofs
structure Pl where
 part:Int
 at_:Int
 deriving DecidableEq,Inhabited
def XR(p:Pl):V:=.agg [vi p.part,vi p.at_]
@[simp]theorem ZbG(p:Pl):(XR p).cells=[vi p.part,vi p.at_]:=rfl
@[simp]theorem ZaB(p:Pl):U9 (XR p) 0 2=xk (XR p):=rfl
@[simp]theorem Zai(p:Pl):ZX (XR p) 0=xk (vi p.part):=rfl
@[simp]theorem Zaj(p:Pl):ZX (XR p) 1=xk (vi p.at_):=rfl
@[simp]theorem Zcf(p:Pl):Vi (XR p) 2=xk (XR p):=rfl
@[simp]theorem Zc1(l:List Pl):Xp 2 (l.map XR)=xy:=Ja λ_=>rfl
structure Rw where
 nodes:List Nd
 roots:List Int
 cls:List Int
 base:Int
 slack:Int
 scan:Int
 to:Int
 deriving Inhabited
def Wa(x:Rw):V:=.agg [.sl (x.nodes.map Ye),.sl (x.roots.map vi),.sl (x.cls.map vi),vu x.base,vi x.slack,vi x.scan,vi x.to]
@[simp]theorem Zcg(x:Rw):Vi (Wa x) 7=xk (Wa x):=rfl
@[simp]theorem ZbU(x:Rw):(Wa x).cells=[.sl (x.nodes.map Ye),.sl (x.roots.map vi),.sl (x.cls.map vi),vu x.base,vi x.slack,vi x.scan,vi x.to]:=rfl
@[simp]theorem Zak(x:Rw):ZX (Wa x) 0=xk (.sl (x.nodes.map Ye)):=rfl
@[simp]theorem Zal(x:Rw):ZX (Wa x) 1=xk (.sl (x.roots.map vi)):=rfl
@[simp]theorem Zam(x:Rw):ZX (Wa x) 2=xk (.sl (x.cls.map vi)):=rfl
@[simp]theorem Zan(x:Rw):ZX (Wa x) 3=xk (vu x.base):=rfl
@[simp]theorem Zao(x:Rw):ZX (Wa x) 4=xk (vi x.slack):=rfl
@[simp]theorem Zap(x:Rw):ZX (Wa x) 5=xk (vi x.scan):=rfl
@[simp]theorem Zaq(x:Rw):ZX (Wa x) 6=xk (vi x.to):=rfl
structure Rw.ok (x:Rw):Prop where
 ptrs:∀n∈x.nodes,∀p∈n.ptrs,Ym p
 data:∀n∈x.nodes,∀p∈n.data,ZC p
 roots:∀p∈x.roots,Ym p
 cls:∀p∈x.cls,Ym p
 base:ZC x.base
 slack:Ym x.slack
 scan:Ym x.scan
 to:Ym x.to
def VE(x:Rw)(i:Nat):Int:=if P x.cls=0 then i else(x.cls[i%P x.cls]?).getD 0
def WM(x:Rw)(i:Nat)(cycle:Bool):Int:=if pick (VE x i) 3=2/\cycle=xh then 1 else pick (VE x i) 3
def Wj(x:Rw)(i:Nat):Bool:=decide (pick ((VE x i).tdiv 3) 2=1)
def So(x:Rw)(i:Nat)(cycle:Bool):WM x i cycle=0\/WM x i cycle=1\/(WM x i cycle=2/\cycle=xy):=by
 have:=UK (c:=VE x i) (n:=3) Z0;unfold WM;grind
def Z0n{x:Rw}(hx:x.ok){i:Nat}(C:i<=1000){cycle:Bool}:VC Sol.prog 76 xh [Wa x,vi i,.bool cycle] (.tup [vi (WM x i cycle),.bool (Wj x i)]):=by
 refine ZU Sol.func76 follows Z2 c76 rfl ?_;have t:Ym (VE x i):=by
  unfold VE;split;exact⟨Z0,Z0⟩;rename_i h;have:i%P x.cls<P x.cls:=Zh0 _ Z0;rw[ZdG this];exact hx.cls _ (Ze0 this)
 have g:=Kt (c:=VE x i) (n:=3) t Z0;have p:Ym ((VE x i).tdiv 3):=by
  obtain⟨B,f⟩:=t;unfold Ym;rw[Int.tdiv_eq_ediv];have:Int.sign 3=1:=rfl;split<;>omega
 have d:=Zz _ p.1 p.2;have a:=Kt (c:=(VE x i).tdiv 3) (n:=2) p Z0;have fin:∀(b:Bool),(decide (pick ((VE x i).tdiv 3) 2=1)=b)->Wj x i=b:=λb h=>h;by_cases q:P x.cls=0;have k:VE x i=i:=by simp[VE,q]
 rw[k]at g a d;rw[Zhc Z0]at a d;simp[AY,q];refine Zy g Z1 ?_;by_cases f:pick (i:Int) 3=2;cases cycle;simp[f,d];refine Zy a Z1 ?_;simp[WM,Wj,k,f];simp[f,d];refine Zy a Z1 ?_;simp[WM,Wj,k,f];simp[f,d];refine Zy a Z1 ?_;simp[WM,Wj,k,f];have l:i%P x.cls<P x.cls:=Zh0 _ Z0;have w:x.cls[i%P x.cls]?=xk x.cls[i%P x.cls]:=ZdG l;have k:VE x i=x.cls[i%P x.cls]:=by simp[VE,q,w]
 have z:(i:Int).tmod (P x.cls:Int)=((i%P x.cls:Nat):Int):=by
  rw[ZeR Z0];rfl
 rw[k]at g a d;have u:0<P x.cls:=Z0;have r:x.cls≠[]:=λe=>ZcK;have A:((i:Int) % (P x.cls:Int))=((i%P x.cls:Nat):Int):=rfl;generalize o:x.cls[i%P x.cls]=c at*;generalize y:i%P x.cls=j at*;simp[AY,u,r,z,l,o];refine Zy g Z1 ?_;by_cases f:pick c 3=2;cases cycle;simp[f,d];refine Zy a Z1 ?_;simp[WM,Wj,k,f];simp[f,d];refine Zy a Z1 ?_;simp[WM,Wj,k,f];simp[f,d];refine Zy a Z1 ?_;simp[WM,Wj,k,f]
def ZI(n:Nd):Nat:=1+P n.ptrs+P n.data
structure St8 where
 n1:Nat
 n2:Nat
 n3:Nat
 n4:Nat
 wt:Nat
 here:List Pl
 old:List Pl
def X2(x:Rw)(cycle:Bool)(sz:Nat)(i:Nat)(s:St8):St8:=
 let k:=WM x i cycle;let a:=Wj x i;let o:Bool:=decide (0<k)&&cycle
 {n1:=if k=1 then s.n1+sz else s.n1
  n2:=if k=0 then s.n2+sz else s.n2
  n3:=if o&& !a then s.n3+sz else s.n3
  n4:=if o&&a then s.n4+sz else s.n4
  wt:=if k=2 then s.wt+sz else s.wt
  here:=s.here++[if k=0 then⟨2,s.n2⟩else if k=1 then⟨1,s.n1⟩else⟨0,0⟩]
  old:=s.old++[if o then(if a then⟨4,s.n4⟩else⟨3,s.n3⟩)else⟨0,0⟩]}
def Y0(x:Rw)(cycle:Bool)(g:Gr):Nat->St8
 |0=>⟨0,0,0,0,0,[],[]⟩
 |i+1=>X2 x cycle (ZI ((g.nodes[i]?).getD default)) i (Y0 x cycle g i)
def Z7k{x:Rw}{cycle:Bool}{sz i:Nat}(h:sz<=9)(s:St8)(d:s.n1+s.n2+s.wt<=9*i)(h2:s.n3+s.n4<=9*i)(f:P s.here=i)(g:P s.old=i):
  (X2 x cycle sz i s).n1+(X2 x cycle sz i s).n2+(X2 x cycle sz i s).wt<=9*(i+1)/\(X2 x cycle sz i s).n3+(X2 x cycle sz i s).n4<=9*(i+1)/\(X2 x cycle sz i s).here.length=i+1/\(X2 x cycle sz i s).old.length=i+1:=by
 obtain a|a|⟨a,rfl⟩:=So x i cycle;grind [X2];grind [Wj,X2];grind [Wj,X2]
def L3{x:Rw}{cycle:Bool}{g:Gr}(a:∀n∈g.nodes,ZI n<=9):∀i,i<=P g.nodes->(Y0 x cycle g i).n1+(Y0 x cycle g i).n2+(Y0 x cycle g i).wt<=9*i/\(Y0 x cycle g i).n3+(Y0 x cycle g i).n4<=9*i/\(Y0 x cycle g i).here.length=i/\(Y0 x cycle g i).old.length=i
 |0,_=>by simp[Y0]
 |i+1,k=>by
  obtain⟨d,f,h,j⟩:=L3 (x:=x) (cycle:=cycle) a i Z0;have l:=a _ (Ze0 (Z0:i<P g.nodes));simp only[Y0,ZdG (Z0:i<P g.nodes),Zec];simp_all[Z7k]
structure Bt where
 h:Hp
 g:Gr
 here:List Pl
 old:List Pl
def Xr(b:Bt):List V:=[vu b.h.base,vi b.h.cap,vi b.h.to,.bool b.h.cycle,vi b.h.scan,.sl (b.h.low.map vu),.sl (b.h.high.map vu),.sl (b.h.old.map vu),.sl (b.h.far.map vu),.sl (b.h.roots.map vu),.sl (b.g.nodes.map Ye),.sl (b.g.roots.map vi),.sl (b.here.map XR),.sl (b.old.map XR)]
def Xd(b:Bt):V:=.agg [vu b.h.base,vi b.h.cap,vi b.h.to,.bool b.h.cycle,vi b.h.scan,.sl (b.h.low.map vu),.sl (b.h.high.map vu),.sl (b.h.old.map vu),.sl (b.h.far.map vu),.sl (b.h.roots.map vu),.sl (b.g.nodes.map Ye),.sl (b.g.roots.map vi),.sl (b.here.map XR),.sl (b.old.map XR)]
def Ys(x:Rw)(cycle:Bool):Bt:=
 let g:=ZS x.nodes x.roots;let s:=Y0 x cycle g (P g.nodes);let cap:Int:=max ((s.n1:Int)+s.n2+s.wt) ((s.n3:Int)+s.n4)+pick x.slack 12
 ⟨⟨1+x.base% (9223372036854775808-2*cap),cap,pick x.to 2,cycle,if cycle=xy/\0<s.n1 then pick x.scan s.n1 else s.n1,List.replicate s.n1 0,List.replicate s.n2 0,List.replicate s.n3 0,List.replicate s.n4 0,[]⟩,g,s.here,s.old⟩
def N1{x:Rw}(hx:x.ok){cycle:Bool}:VC Sol.prog 45 xh [Wa x,.bool cycle] (Xd (Ys x cycle)):=by
 refine ZU Sol.func45 follows Z2 p7 rfl ?_;simp[Ic];refine Zy (Od hx.ptrs hx.roots) Z1 ?_;obtain⟨K,L,B⟩:=Ai x.nodes x.roots;have M:=zH x.nodes x.roots;unfold Ys;generalize ZS x.nodes x.roots=g at*;have l:∀n∈g.nodes,ZI n<=9:=λn d=>by have:=B n d;unfold ZI;omega
 simp
 refine VK 7 (xq g.nodes) (λi=>[(4,.m [.int .u64 0,.int .i64 0,.int .i64 0,.bool xh,.int .i64 0,.sl [],.sl [],.sl [],.sl [],.sl [],.sl (g.nodes.map Ye),.sl (g.roots.map vi),.sl ((Y0 x cycle g i).here.map XR),.sl ((Y0 x cycle g i).old.map XR)]),
  (5,.m [vi 0,vi (Y0 x cycle g i).n1,vi (Y0 x cycle g i).n2,vi (Y0 x cycle g i).n3,vi (Y0 x cycle g i).n4]),(6,.v (vi (Y0 x cycle g i).wt)),(7,.v (vi i))]) (λ_=>True) (by simp[Y0]) (λi=>Z1) trivial ?_
 rintro i P-;have o:=Zz ((i:Int)+1) Z0 Z0;obtain⟨s1,s2,s3,s4⟩:=L3 (x:=x) (cycle:=cycle) l i P;by_cases h:i<xq g.nodes;have d:g.nodes[i]?=xk g.nodes[i]:=ZdG h;have p:=l _ (Ze0 h);simp only[Y0,d,Zec];generalize Y0 x cycle g i=s at*;generalize g.nodes[i]=n at*;have N:=Z0n hx (i:=i) Z0 (cycle:=cycle);have C:=So x i cycle;have w1:=Zz (1+(xq n.ptrs:Int)) (by unfold ZI at p;omega) (by unfold ZI at p;omega);have w2:=Zz (1+(xq n.ptrs:Int)+xq n.data) (by unfold ZI at p;omega) (by unfold ZI at p;omega);have f:(1+(xq n.ptrs:Int)+xq n.data)=(ZI n:Nat):=by unfold ZI;omega
 rw[f]at w2;simp[h];refine Zy N Z1 ?_;generalize I:ZI n=sz at*;unfold X2;generalize Wj x i=H at*;generalize WM x i cycle=k at*;have t:=Zz ((s.n1:Int)+sz) Z0 Z0;have u:=Zz ((s.n2:Int)+sz) Z0 Z0;have w:=Zz ((s.n3:Int)+sz) Z0 Z0;have y:=Zz ((s.n4:Int)+sz) Z0 Z0;have z:=Zz ((s.wt:Int)+sz) Z0 Z0;have q:xq s.here+1<=Y4:=Zda;have r:xq s.old+1<=Y4:=Zda;obtain rfl|rfl|⟨rfl,rfl⟩:=C;cases cycle<;>simp[d,Yh d,w1,f,w2,Y5,Ut,setCells,Zz,t,u,w,y,z,q,r,XR,o];cases cycle;simp[d,Yh d,w1,f,w2,Y5,Ut,setCells,Zz,t,u,w,y,z,q,r,XR,o];cases H<;>simp[d,Yh d,w1,f,w2,Y5,Ut,setCells,Zz,t,u,w,y,z,q,r,XR,o];cases H<;>simp[d,Yh d,w1,f,w2,Y5,Ut,setCells,Zz,t,u,w,y,z,q,r,XR,o];have:i=xq g.nodes:=Z0;subst this;generalize R:Y0 x cycle g (xq g.nodes)=s at*;have G:=Kt (c:=x.to) (n:=2) hx.to Z0;have F:=Kt (c:=x.slack) (n:=12) hx.slack Z0;have S:=UK (c:=x.slack) (n:=12) Z0;simp;refine Zy G Z1 ?_;have T:s.n1<=Y4:=Zda;have U:s.n2<=Y4:=Zda;have W:s.n3<=Y4:=Zda;have X:s.n4<=Y4:=Zda;simp[Y5,T,U,W,X];refine Zy F Z1 ?_;have w1:=Zz ((s.n1:Int)+s.n2) Z0 Z0;have w2:=Zz ((s.n1:Int)+s.n2+s.wt) Z0 Z0;have w3:=Zz ((s.n3:Int)+s.n4) Z0 Z0;have j:(if(s.n1:Int)+s.n2+s.wt< (s.n3:Int)+s.n4 then(s.n3:Int)+s.n4 else(s.n1:Int)+s.n2+s.wt)=max ((s.n1:Int)+s.n2+s.wt) ((s.n3:Int)+s.n4):=by split<;>omega
 obtain⟨cap,a⟩:∃cap:Int,max ((s.n1:Int)+s.n2+s.wt) ((s.n3:Int)+s.n4)+pick x.slack 12=cap:=⟨_,rfl⟩;have O:0<=cap/\cap<=200:=Z0;have w4:=Zz cap Z0 Z0;have Y:=ZW cap Z0 Z0;have Z:=ZW (2*cap) Z0 Z0;have w7:=ZW (9223372036854775808-2*cap) Z0 Z0;obtain⟨J,b2⟩:=hx.base;have w8:x.base.tmod (9223372036854775808-2*cap)=x.base% (9223372036854775808-2*cap):=ZeR J;have h1:=ZhI x.base (Z0:(9223372036854775808-2*cap)≠0);have h2:=Zhf x.base (Z0:0< (9223372036854775808-2*cap));have w9:=ZW (1+x.base% (9223372036854775808-2*cap)) Z0 Z0;have D:¬((9223372036854775808-2*cap)=0):=Z0;simp[Y5,w1,w2,w3,j,a,w4,Y,Z,w7,w8,w9,D];cases cycle;simp[Xd,a];by_cases A:0<s.n1;have Q:=Kt (c:=x.scan) (n:=(s.n1:Int)) hx.scan Z0;simp[A];refine Zy Q Z1 ?_;simp[Xd,a,A,Y5];simp[Xd,a,A]
end Vm
namespace Vm
open Go Go.Proofs
@[simp]theorem Zc8(b:Bt):Vi (Xd b) 14=xk (Xd b):=rfl
@[simp]theorem Z8T(b:Bt):(Xd b).cells=Xr b:=rfl
@[simp]theorem Z9J(b:Bt)(i:Nat):ZX (Xd b) i=(Xr b)[i]?.bind YP:=rfl
def Z4u(s p:Int):0<=(Uf s p).1/\(Uf s p).1<100000000:=by
 grind [Uf,Yv]
def Oy(l:Ly)(g:l.fits)(p a:Int):0<=(Y1 l p a).1/\(Y1 l p a).1<=9223372036854775807:=by
 unfold Y1;split;simp;rename_i f;have d:ZH l=xy:=ZcY;split;simp;split;simp;have:=WN d p;omega
def Z59{a:Int}:0<=(XG a).1/\(XG a).1<18446744073709551616:=by
 unfold XG;split;simp;omega
def YD(h:Hp)(p:Pl):Int:=if p.part=0 then 0 else(XG (Y1 (Zu h) p.part p.at_).1).1
theorem BF(h:Hp)(p:Pl):ZC (YD h p):=by
 unfold YD;split;exact⟨Z0,Z0⟩;exact Z59
def KK{b:Bt}(f:(Zu b.h).fits){p:Pl}:VC Sol.prog 79 xh [Xd b,XR p] (vu (YD b.h p)):=by
 refine ZU Sol.func79 follows Z2 c79 rfl ?_;by_cases d:p.part=0;simp[B0,Xr,YD,d];have g:=Oy (Zu b.h) f p.part p.at_;simp[B0,Xr,d];refine Zy (Z5J (h:=b.h)) Zdy ?_;simp;refine Zy (Z5H f (part:=p.part) (at_:=p.at_)) Z1 ?_;simp;refine Zy (Z5L (a:=(Y1 (Zu b.h) p.part p.at_).1) ⟨g.1,Z0⟩) Z1 ?_;simp[YD,d]
def V4(b:Bt)(p:Pl)(to tw:Int):Int:=
 if to<0 then 0 else if 2<p.part then YD b.h ((b.old[to.toNat]?).getD ⟨0,0⟩)
 else if p.part=1/\b.h.scan<=p.at_/\(((b.here[to.toNat]?).getD ⟨0,0⟩).part=0\/0< ((b.old[to.toNat]?).getD ⟨0,0⟩).part/\tw%2=0)then YD b.h ((b.old[to.toNat]?).getD ⟨0,0⟩)
 else YD b.h ((b.here[to.toNat]?).getD ⟨0,0⟩)
theorem Z78(b:Bt)(p:Pl)(to tw:Int):ZC (V4 b p to tw):=by
 unfold V4;split;exact⟨Z0,Z0⟩;grind [BF]
def Nc(t:Int):t.tmod 2=0↔t%2=0:=by
 grind
def Z79{b:Bt}(l:(Zu b.h).fits){p:Pl}{to tw:Int}(r:to<P b.here)(h2:to<P b.old):VC Sol.prog 100 xh [Xd b,XR p,vi to,vi tw] (vu (V4 b p to tw)):=by
 refine ZU Sol.func100 follows Z2 Pj rfl ?_;by_cases o:to<0;simp[TT,Xr,V4,o];obtain⟨t,rfl⟩:=ZdV (Z0:0<=to);have g1:b.here[t]?=xk (b.here[t]'Z0):=ZdG Z0;have g2:b.old[t]?=xk (b.old[t]'Z0):=ZdG Z0;generalize b.here[t]'Z0=x at*;generalize b.old[t]'Z0=y at*;unfold V4;simp only[ZdW,g1,g2,Zec,if_neg o];by_cases a:2<p.part;simp[TT,Xr,a,g2];refine Zy (KK l (p:=y)) (by simp[Xd]) ?_;simp;have k1:=KK l (p:=x);have q:=KK l (p:=y);by_cases f:p.part=1;by_cases g:b.h.scan<=p.at_;by_cases j:x.part=0;simp[TT,Xr,a,f,g,j,g1,g2];refine Zy q (by simp[Xd]) ?_;simp;by_cases n:0<y.part;by_cases k:tw%2=0;have d:=(Nc tw).2 k;simp[TT,Xr,a,f,g,j,n,k,d,g1,g2];refine Zy q (by simp[Xd]) ?_;simp;have d:=mt (Nc tw).1 k;simp[TT,Xr,a,f,g,j,n,k,d,g1,g2];refine Zy k1 (by simp[Xd]) ?_;simp;simp[TT,Xr,a,f,g,j,n,g1,g2];refine Zy k1 (by simp[Xd]) ?_;simp;simp[TT,Xr,a,f,g,g1,g2];refine Zy k1 (by simp[Xd]) ?_;simp;simp[TT,Xr,a,f,g1,g2];refine Zy k1 (by simp[Xd]) ?_;simp
@[simp]theorem Z5h(x y:Int):V.put (vu x) 0 [vu y]=vu y:=rfl
def BY{l pre:List Int}{m:Nat}(h:P pre=m)(a:m<P l)(z:Int):(pre++l.drop m).set m z=pre++[z]++l.drop (m+1):=by
 subst h;rw[ZhO _ _ (ZdL _),ZfE,ZeF a,List.set_cons_zero,Zew];rfl
def XI(b:Bt)(p:Pl)(a:Nat)(d:List Int)(tw:Int):List Int:=(List.range (P d)).map λi=>V4 b ⟨p.part,((a+1+i:Nat):Int)⟩ ((d[i]?).getD 0) (IntKind.i64.wrap (tw+i))
def TJ(b:Bt)(p:Pl)(a:Nat)(n:Nd)(tw:Int):List Int:=
 let l:=Zx b.h p.part
 l.take a++[(Uf ((P n.ptrs:Int)+P n.data) (P n.ptrs)).1]++XI b p a n.ptrs tw++n.data++l.drop (a+ZI n)
def XX(b:Bt)(p:Pl)(n:Nd)(tw:Int):Bt:= {b with h:=Xi b.h p.part (TJ b p p.at_.toNat n tw)}
def G6{b:Bt}(hb:(Zu b.h).fits){p:Pl}{n:Nd}{tw:Int}{a:Nat}(ha:p.at_=a)(a1:xq (Zx b.h p.part)<=1000000)(d:a+ZI n<=xq (Zx b.h p.part))
  (h1:∀q∈n.ptrs,q<xq b.here/\q<xq b.old):VC Sol.prog 78 xh [Xd b,XR p,Ye n,vi tw] (Xd (XX b p n tw)):=by
 refine ZU Sol.func78 follows Z2 c78 rfl ?_;have M:xq (Zx b.h p.part)<=Y4:=Zda;have w1:=Zz ((xq n.ptrs:Int)+xq n.data) Zdc Zdc;unfold XX;rw[show p.at_.toNat=a by omega];simp[Ip,Xr];refine Zy (UV (h:=b.h) (n:=p.part)) Zdy ?_;simp[M,w1];refine Zy (Z5K (s:=(xq n.ptrs:Int)+xq n.data) (p:=xq n.ptrs)) Z1 ?_;have O:a< xq (Zx b.h p.part):=Zdc;simp[ha,O];generalize U:Zx b.h p.part=l at*;generalize T:(Uf ((xq n.ptrs:Int)+xq n.data) (xq n.ptrs)).1=A at*;have D:(l.map vu).set a (vu A)=((l.take a++[A])++l.drop (a+1)).map vu:=by
  rw[<-Zgr];congr 1;have:=BY (l:=l) (pre:=l.take a) (m:=a) ZcL O A;rw[ZfR]at this;exact this
 simp only[Z5h,D];have H:=Zz ((a:Int)+1) Z0 Z0;have a2:xq n.ptrs<=xq l:=Zdc;have P:xq (XI b p a n.ptrs tw)=xq n.ptrs:=by simp[XI]
 refine VK 11 (xq n.ptrs) (λk=>[(8,.v (.sl (((l.take a++[A]++(XI b p a n.ptrs tw).take k)++l.drop (a+1+k)).map vu))),(11,.v (vi k))]) (λ_=>True) Z1 (λi=>Z1) trivial ?_;rintro k hk-;have J:=Zz ((k:Int)+1) Z0 Z0;have X:=Zz ((a:Int)+1+k) Z0 Z0;by_cases o:k<xq n.ptrs;have K:n.ptrs[k]?=xk n.ptrs[k]:=ZdG o;obtain⟨q1,q2⟩:=h1 _ (Ze0 o);have t:=Z79 hb (p:=⟨p.part,((a+1+k:Nat):Int)⟩) (to:=n.ptrs[k]) (tw:=IntKind.i64.wrap (tw+k)) q1 q2;have W:(XI b p a n.ptrs tw)[k]?=xk (V4 b ⟨p.part,((a+1+k:Nat):Int)⟩ n.ptrs[k] (IntKind.i64.wrap (tw+k))):=by
  simp[XI,o]
 generalize n.ptrs[k]=q at*;generalize V4 b ⟨p.part,((a+1+k:Nat):Int)⟩ q (IntKind.i64.wrap (tw+k))=z at*;have G:(XI b p a n.ptrs tw).take (k+1)=(XI b p a n.ptrs tw).take k++[z]:=by rw[ZeI,W];rfl
 have r:xq (l.take a++[A]++(XI b p a n.ptrs tw).take k)=a+1+k:=by simp[P];omega
 have N:a+1+k<xq l:=Zdc;have F:=BY (l:=l) r N z;generalize C:l.take a++[A]++(XI b p a n.ptrs tw).take k=pre at*;have g:∃x,((pre++l.drop (a+1+k)).map vu)[a+1+k]?=xk (vu x):=by
  refine⟨l[a+1+k],?_⟩;rw[Ze1,Ze6 Z0,r,ZfE,ZeF N];rfl
 have f:((pre++l.drop (a+1+k)).map vu).set (a+1+k) (vu z)=(pre++[z]++l.drop (a+1+(k+1))).map vu:=by
  rw[<-Zgr,F];rfl
 obtain⟨m,B⟩:∃m:Nat,a+1+k=m:=⟨_,rfl⟩;have u:(a:Int)+1+k=m:=Z0;have w:=Zz (m:Int) Z0 Z0;rw[show a+1+(k+1)=a+1+k+1 by omega]at f⊢;rw[B]at g f t⊢;generalize S:(pre++l.drop m).map vu=LL at g f⊢;rw[G];obtain⟨y,hy⟩:=g;simp[o,K,Yh K,H,X,u,w];refine Zy t (by simp[Xd]) ?_;simp[hy,f,J,o,H,u,w];rw[<-C];simp;have:k=xq n.ptrs:=Z0;subst this;rw[show(XI b p a n.ptrs tw).take (xq n.ptrs)=XI b p a n.ptrs tw from ZeK Z0];have Y:=Zz ((a:Int)+1+xq n.ptrs) Z0 Z0;have Z:∀j:Nat,j<=1000+xq n.data->IntKind.i64.wrap ((a:Int)+1+xq n.ptrs+j)=(a:Int)+1+xq n.ptrs+j:=λj hj=>Zz _ Z0 Zdc;generalize Q:l.take a++[A]++XI b p a n.ptrs tw=sp at*;have R:xq sp=a+1+xq n.ptrs:=by rw[<-Q];simp[P];omega
 simp;refine VK 13 (xq n.data) (λk=>[(8,.v (.sl (((sp++n.data.take k)++l.drop (a+1+xq n.ptrs+k)).map vu))),(13,.v (vi k))]) (λ_=>True) Z1 (λi=>Z1) trivial ?_;rintro k hk-;have J:=Zz ((k:Int)+1) Z0 Zdc;by_cases o:k<xq n.data;have K:n.data[k]?=xk n.data[k]:=ZdG o;generalize n.data[k]=z at*;have G:n.data.take (k+1)=n.data.take k++[z]:=by rw[ZeI,K];rfl
 have r:xq (sp++n.data.take k)=a+1+xq n.ptrs+k:=by simp[R];omega
 have N:a+1+xq n.ptrs+k<xq l:=Zdc;have F:=BY (l:=l) r N z;generalize C:sp++n.data.take k=pre at*;have g:∃x,((pre++l.drop (a+1+xq n.ptrs+k)).map vu)[a+1+xq n.ptrs+k]?=xk (vu x):=by
  refine⟨l[a+1+xq n.ptrs+k],?_⟩;rw[Ze1,Ze6 Z0,r,ZfE,ZeF N];rfl
 have f:((pre++l.drop (a+1+xq n.ptrs+k)).map vu).set (a+1+xq n.ptrs+k) (vu z)=(pre++[z]++l.drop (a+1+xq n.ptrs+k+1)).map vu:=by
  rw[<-Zgr,F]
 rw[show a+1+xq n.ptrs+(k+1)=a+1+xq n.ptrs+k+1 by omega];have a0:=Z k Z0;obtain⟨m,B⟩:∃m:Nat,a+1+xq n.ptrs+k=m:=⟨_,rfl⟩;have u:(a:Int)+1+xq n.ptrs+k=m:=Z0;have w:=Zz (m:Int) Z0 Z0;rw[B]at g f⊢;generalize S:(pre++l.drop m).map vu=LL at g f⊢;rw[G];obtain⟨y,hy⟩:=g;simp[o,K,Yh K,H,Y,a0,u,w,hy,f,J];rw[<-C];simp;have:k=xq n.data:=Z0;subst this;rw[show n.data.take (xq n.data)=n.data from Zfa];have I:=De (h:=b.h) (n:=p.part) (l:=sp++n.data++l.drop (a+1+xq n.ptrs+xq n.data));have L:TJ b p a n tw=sp++n.data++l.drop (a+1+xq n.ptrs+xq n.data):=by
  unfold TJ;rw[U,T];dsimp only;rw[Q,show a+ZI n=a+1+xq n.ptrs+(xq n.data) by unfold ZI;omega]
 rw[L];generalize sp++n.data++l.drop (a+1+xq n.ptrs+xq n.data)=fin at*;simp;refine Zy I Zdy ?_;simp[Xd]
end Vm
namespace Vm
open Go Go.Proofs
def Q6(h:Hp):Prop:=(∀k,∀w∈Zx h k,ZC w)/\∀w∈h.roots,ZC w
structure BOk (b:Bt):Prop where
 lay:(Zu b.h).fits
 hl:P b.here=P b.g.nodes
 ol:P b.old=P b.g.nodes
 nn:P b.g.nodes<=10
 ptr:∀n∈b.g.nodes,∀q∈n.ptrs,q< (P b.g.nodes:Int)
 dat:∀n∈b.g.nodes,∀q∈n.data,ZC q
 rts:∀q∈b.g.roots,q< (P b.g.nodes:Int)
 rl:P b.g.roots<=5
 here:∀(i:Nat) (p:Pl) (n:Nd),b.here[i]?=xk p->b.g.nodes[i]?=xk n->p=⟨0,0⟩\/∃a:Nat,p.at_=a/\(p.part=1\/p.part=2)/\a+ZI n<=P (Zx b.h p.part)
 old:∀(i:Nat) (p:Pl) (n:Nd),b.old[i]?=xk p->b.g.nodes[i]?=xk n->p=⟨0,0⟩\/∃a:Nat,p.at_=a/\(p.part=3\/p.part=4)/\a+ZI n<=P (Zx b.h p.part)
 len:∀k,P (Zx b.h k)<=1000
 words:Q6 b.h
theorem yp{h h':Hp}(a:Zu h'=Zu h)(k:Int):P (Zx h' k)=P (Zx h k):=by
 grind [Zu,Ly.mk.injEq,Zx]
def BOk.keep{b:Bt}(hb:BOk b){h':Hp}(hl:Zu h'=Zu b.h)(hw:Q6 h'):BOk {b with h:=h'} where
 lay:=by show(Zu h').fits;rw[hl];exact hb.lay
 hl:=hb.hl
 ol:=hb.ol
 nn:=hb.nn
 ptr:=hb.ptr
 dat:=hb.dat
 rts:=hb.rts
 rl:=hb.rl
 here:=λi p n hp hn=>by
  obtain h|⟨a,h1,h2,h3⟩:=hb.here i p n hp hn;grind;grind [Zx,yp,hl]
 old:=λi p n hp hn=>by
  obtain h|⟨a,h1,h2,h3⟩:=hb.old i p n hp hn;grind;grind [Zx,yp,hl]
 len:=λk=>by show P (Zx h' k)<=1000;rw[yp hl];exact hb.len k
 words:=hw
def CF{h:Hp}{p:Int}{l:List Int}(a:P l=P (Zx h p)):Zu (Xi h p l)=Zu h:=by
 unfold Xi Zx at*;split;simp_all[if_pos,Zu];rename_i d;rw[if_neg d]at a;split;simp_all[if_pos,Zu];rename_i f;rw[if_neg f]at a;split;simp_all[if_pos,Zu];simp_all[if_neg,Zu]
def Z85{h:Hp}{p:Int}{l:List Int}(a:Q6 h)(k:∀w∈l,ZC w):Q6 (Xi h p l):=by
 have d:=a.1 1;have f:=a.1 2;have g:=a.1 3;have j:=a.1 4;grind [Vz,yo,Kr,Ks,ZC,Q6,Zx,Xi]
def Z2K{b:Bt}{p:Pl}{a:Nat}{n:Nd}{tw:Int}(d:a+ZI n<=P (Zx b.h p.part)):P (TJ b p a n tw)=P (Zx b.h p.part):=by
 grind [TJ,ZI,XI]
def Z2L{b:Bt}{p:Pl}{a:Nat}{n:Nd}{tw:Int}(f:Q6 b.h)(g:∀q∈n.data,ZC q):∀w∈TJ b p a n tw,ZC w:=by
 intro w d;unfold TJ at d;simp only[Ze8,ZeO]at d;obtain(((d|d)|d)|d)|d:=d;exact f.1 _ w (ZeD d);subst d;have:=Z4u ((P n.ptrs:Int)+P n.data) (P n.ptrs);exact⟨this.1,Z0⟩;simp only[XI,ZdX]at d;obtain⟨i,_,rfl⟩:=d;grind [Z78];grind;exact f.1 _ w (Zfd d)
def U7(x:Rw)(b:Bt)(i:Nat)(n:Nd)(p:Pl):Bt:=if 0<p.part then XX b p n (IntKind.i64.wrap (x.slack+i))else b
def U8(b:Bt)(n:Nd)(p o:Pl):Bt:=if 0<o.part/\p.part=0 then XX b o n 0 else b
def VQ(b:Bt)(p o:Pl):Bt:=if 0<o.part/\0<p.part then {b with h:=Xi b.h o.part ((Zx b.h o.part).set o.at_.toNat (YD b.h p))}else b
def Qt(x:Rw)(b:Bt)(i:Nat):Bt:=
 let n:=(b.g.nodes[i]?).getD default;let p:=(b.here[i]?).getD ⟨0,0⟩;let o:=(b.old[i]?).getD ⟨0,0⟩
 VQ (U8 (U7 x b i n p) n p o) p o
structure Like (b b':Bt):Prop where
 g:b'.g=b.g
 here:b'.here=b.here
 old:b'.old=b.old
 lay:Zu b'.h=Zu b.h
 words:Q6 b'.h
 scan:b'.h.scan=b.h.scan
 cycle:b'.h.cycle=b.h.cycle
def Like.ok{b a:Bt}(o:Like b a)(n:BOk b):BOk a:=by
 obtain⟨q,p,d,l⟩:=a;obtain⟨f,g,h,j,k,_⟩:=o;simp only at f g h j k;subst f g h;exact n.keep j k
theorem Like.trans{a b c:Bt}(h:Like a b)(k:Like b c):Like a c:=⟨k.g.trans h.g,k.here.trans h.here,k.old.trans h.old,k.lay.trans h.lay,k.words,k.scan.trans h.scan,k.cycle.trans h.cycle⟩
def ND(h:Hp)(p:Int)(l:List Int):(Xi h p l).scan=h.scan/\(Xi h p l).cycle=h.cycle:=by
 unfold Xi;grind
def Gf{b:Bt}(a:BOk b){p:Int}{l:List Int}(d:P l=P (Zx b.h p))(f:∀w∈l,ZC w):Like b {b with h:=Xi b.h p l}:=
 ⟨rfl,rfl,rfl,CF d,Z85 a.words f,(ND _ _ _).1,(ND _ _ _).2⟩
def zt{b:Bt}(a:BOk b):Like b b:=⟨rfl,rfl,rfl,rfl,a.words,rfl,rfl⟩
def Ge{b:Bt}(d:BOk b){p:Pl}{n:Nd}{tw:Int}{a:Nat}(f:p.at_=a)(g:a+ZI n<=P (Zx b.h p.part))(j:∀q∈n.data,ZC q):Like b (XX b p n tw):=by
 unfold XX;rw[f,ZdW];exact Gf d (Z2K g) (Z2L d.words j)
def A2{x:Rw}{b:Bt}(d:BOk b){i:Nat}{n:Nd}{p:Pl}(f:b.g.nodes[i]?=xk n)(l:b.here[i]?=xk p):Like b (U7 x b i n p):=by
 unfold U7;split;rename_i h;obtain rfl|⟨a,j,o,k⟩:=d.here i p n l f;simp at h;exact Ge d j k (d.dat n (ZdO f));exact zt d
def A3{b:Bt}(d:BOk b){i:Nat}{n:Nd}{p o:Pl}(f:b.g.nodes[i]?=xk n)(l:b.old[i]?=xk o):Like b (U8 b n p o):=by
 unfold U8;split;rename_i h;obtain rfl|⟨a,j,q,k⟩:=d.old i o n l f;simp at h;exact Ge d j k (d.dat n (ZdO f));exact zt d
def Z2P{b:Bt}(a:BOk b){p o:Pl}:Like b (VQ b p o):=by
 unfold VQ;split;refine Gf a Z1 λw d=> ?_;obtain h|rfl:=Zfh d;exact a.words.1 _ w h;exact BF _ _;exact zt a
def Z2Q{x:Rw}{b:Bt}(a:BOk b){i:Nat}(f:i<P b.g.nodes):Like b (Qt x b i):=by
 have h:b.g.nodes[i]?=xk b.g.nodes[i]:=ZdG f;have l:b.here[i]?=xk (b.here[i]'(by rw[a.hl];exact f)):=ZdG _;have k:b.old[i]?=xk (b.old[i]'(by rw[a.ol];exact f)):=ZdG _;unfold Qt;simp only[h,l,k,Zec];have d:=A2 (x:=x) a h l;have j:=A3 (p:=b.here[i]'(by rw[a.hl];exact f)) (d.ok a) (by rw[d.g];exact h) (by rw[d.old];exact k);exact(d.trans j).trans (Z2P (j.ok (d.ok a)))
def VR(x:Rw)(b:Bt):Nat->Bt
 |0=>b
 |i+1=>Qt x (VR x b i) i
def K4{x:Rw}{b:Bt}(a:BOk b):∀i,i<=P b.g.nodes->Like b (VR x b i)
 |0,_=>zt a
 |i+1,d=>by
  have h:=K4 (x:=x) a i Z0;exact h.trans (Z2Q (h.ok a) (by rw[h.g];omega))
def Yr(x:Rw)(b:Bt):Hp:=
 let a:=VR x b (P b.g.nodes)
 {a.h with roots:=b.g.roots.map λr=>if 0<=r then YD a.h ((b.here[r.toNat]?).getD ⟨0,0⟩)else 0}
def EB{x:Rw}(hx:x.ok){b:Bt}(H:BOk b):VC Sol.prog 46 xh [Xd b,Wa x] (ZJ (Yr x b)):=by
 refine ZU Sol.func46 follows Z2 p8 rfl ?_;simp[Id,Xr];refine VK 5 (xq b.g.nodes) (λi=>[(2,.m (Xr (VR x b i))),(5,.v (vi i))]) (λ_=>True) (by simp[VR,Xr]) (λi=>Z1) trivial ?_;rintro i hi-;have F:=K4 (x:=x) H i hi;have J:=Zz ((i:Int)+1) (by have:=H.nn;omega) (by have:=H.nn;omega);by_cases h:i<xq b.g.nodes;have f:=F.ok H;simp only[VR];have z:i< (VR x b i).g.nodes.length:=by rw[F.g];exact h
 generalize a3:VR x b i=c at*;have t:c.g.nodes[i]?=xk c.g.nodes[i]:=ZdG z;have y:c.here[i]?=xk (c.here[i]'(by rw[f.hl];exact z)):=ZdG _;have w:c.old[i]?=xk (c.old[i]'(by rw[f.ol];exact z)):=ZdG _;unfold Qt;simp only[t,y,w,Zec];generalize c.g.nodes[i]=n at*;generalize c.here[i]'(by rw[f.hl];exact z)=p at*;generalize c.old[i]'(by rw[f.ol];exact z)=o at*;have S:∀q∈n.ptrs,q< (xq c.here:Int)/\q< (xq c.old:Int):=λq T=>by
  have:=f.ptr n (ZdO t) q T;rw[f.hl,f.ol];exact⟨this,this⟩
 have kA:=A2 (x:=x) f t y;have bA:=kA.ok f;have kO:=A3 (p:=p) bA (by rw[kA.g];exact t) (by rw[kA.old];exact w);have bO:=kO.ok bA;have I:xq c.g.nodes=xq b.g.nodes:=by rw[F.g]
 have a5:c.g=b.g:=F.g;have Q:0<p.part->VC Sol.prog 78 xh [Xd c,XR p,Ye n,vi (IntKind.i64.wrap (x.slack+i))] (Xd (XX c p n (IntKind.i64.wrap (x.slack+i)))):=λN=>by
  obtain rfl|⟨a,K,X,L⟩:=f.here i p n y t;simp at N;exact G6 f.lay K (by have:=f.len p.part;omega) L S
 have M:0<o.part->VC Sol.prog 78 xh [Xd c,XR o,Ye n,vi 0] (Xd (XX c o n 0)):=λN=>by
  obtain rfl|⟨a,K,X,L⟩:=f.old i o n w t;simp at N;exact G6 f.lay K (by have:=f.len o.part;omega) L S
 have a1:p.part=0\/0<p.part:=by
  obtain rfl|⟨a,K,X,L⟩:=f.here i p n y t;exact .inl rfl;exact .inr Z0
 have R:o.part=0\/0<o.part:=by
  obtain rfl|⟨a,K,X,L⟩:=f.old i o n w t;exact .inl rfl;exact .inr Z0
 obtain u|u:=a1;obtain j|j:=R;simp[Xr,h,z,I,t,y,w,Yh t,Yh y,Yh w,U7,U8,VQ,u,j,J];have a6:¬0<p.part:=Z0;have A:Like c (XX c o n 0):=by
  have:=A3 (p:=p) f t w;unfold U8 at this;rwa[if_pos ⟨j,u⟩]at this
 have a0:=M j;simp[Xr,h,z,I,t,y,w,Yh t,Yh y,Yh w,U7,U8,VQ,u,j,J];generalize XX c o n 0=d at*;obtain⟨d1,d2,d3,d4,Y,_,_⟩:=A;refine Zy a0 (by simp[Xd]) ?_;simp[Xr,d1,d2,d3,t,y,w,Yh t,Yh y,Yh w,u,j,J,h];have C:¬p.part=0:=Z0;have A:Like c (XX c p n (IntKind.i64.wrap (x.slack+i))):=by
  have:=A2 (x:=x) f t y;unfold U7 at this;rwa[if_pos u]at this
 have P:=Q u;have W:=A.ok f;obtain j|j:=R;simp[Xr,h,z,I,t,y,w,Yh t,Yh y,Yh w,U7,U8,VQ,u,j,C,J];generalize XX c p n (IntKind.i64.wrap (x.slack+i))=d at*;obtain⟨d1,d2,d3,d4,Y,_,_⟩:=A;refine Zy P (by simp[Xd]) ?_;simp[Xr,d1,d2,d3,t,y,w,Yh t,Yh y,Yh w,u,j,C,J,h];simp[Xr,h,z,I,t,y,w,Yh t,Yh y,Yh w,U7,U8,VQ,u,j,C,J];generalize XX c p n (IntKind.i64.wrap (x.slack+i))=d at*;obtain⟨d1,d2,d3,d4,Y,_,_⟩:=A;refine Zy P (by simp[Xd]) ?_;simp[Xr,d1,d2,d3,t,y,w,Yh t,Yh y,Yh w,u,j,C,J,h];obtain rfl|⟨a,K,X,L⟩:=f.old i o n w t;simp at j;have a4:=W.len o.part;have B:xq (Zx d.h o.part)<=Y4:=Zda;have Z:a< xq (Zx d.h o.part):=by
  have:=yp d4 o.part;unfold ZI at L;omega
 refine Zy (UV (h:=d.h) (n:=o.part)) Zdy ?_;simp[B,y];refine Zy (KK (b:=⟨d.h,c.g,c.here,c.old⟩) W.lay (p:=p)) Z1 ?_;simp[K,Z,w,Yh w];have G:=De (h:=d.h) (n:=o.part) (l:=(Zx d.h o.part).set a (YD d.h p));rw[Zgr]at G;refine Zy G Zdy ?_;simp[J,h,d1,d2,d3];have:i=xq b.g.nodes:=Z0;subst this;have W:=F.ok H;unfold Yr;generalize VR x b (xq b.g.nodes)=d at*;obtain⟨d1,d2,d3,d4,Y,_,_⟩:=F;simp[Xr,d1,d2,d3];refine VK 13 (xq b.g.roots) (λk=>[(12,.v (.sl ((b.g.roots.take k).map λr=>vu (if 0<=r then YD d.h ((b.here[r.toNat]?).getD ⟨0,0⟩)else 0)))),(13,.v (vi k))]) (λ_=>True) Z1 (λi=>Z1) trivial ?_;rintro k hk-;have a7:=H.rl;have U:=Zz ((k:Int)+1) Z0 Z0;by_cases D:k<xq b.g.roots;have O:b.g.roots[k]?=xk b.g.roots[k]:=ZdG D;have a8:=H.rts _ (Ze0 D);generalize b.g.roots[k]=r at*;have a2:b.g.roots.take (k+1)=b.g.roots.take k++[r]:=by rw[ZeI,O];rfl
 have B:min k (xq b.g.roots)+1<=Y4:=Zda;by_cases N:0<=r;obtain⟨q,rfl⟩:=ZdV N;have T:b.here[q]?=xk (b.here[q]'(by rw[H.hl];omega)):=ZdG _;generalize b.here[q]'(by rw[H.hl];omega)=p at*;simp[D,O,Yh O,T,Yh T];refine Zy (KK (b:=⟨d.h,b.g,b.here,b.old⟩) W.lay (p:=p)) Z1 ?_;simp[U,B,D];rw[ZeI,Ze1,O];simp[T];simp[D,O,Yh O,N,U,B,a2,D];have:k=xq b.g.roots:=Z0;subst this;simp[ZJ]
end Vm
namespace Vm
open Go Go.Proofs
def PIn(s:St8)(p:Pl)(sz:Nat):Prop:=p=⟨0,0⟩\/∃a:Nat,p.at_=a/\((p.part=1/\a+sz<=s.n1)\/(p.part=2/\a+sz<=s.n2))
def POl(s:St8)(p:Pl)(sz:Nat):Prop:=p=⟨0,0⟩\/∃a:Nat,p.at_=a/\((p.part=3/\a+sz<=s.n3)\/(p.part=4/\a+sz<=s.n4))
def Z7l{x:Rw}{cycle:Bool}{sz i:Nat}{s:St8}:s.n1<=(X2 x cycle sz i s).n1/\s.n2<=(X2 x cycle sz i s).n2/\s.n3<=(X2 x cycle sz i s).n3/\s.n4<=(X2 x cycle sz i s).n4:=by
 grind [X2]
def PIn.mono{s t:St8}{p:Pl}{sz:Nat}(h:PIn s p sz)(g:s.n1<=t.n1)(h2:s.n2<=t.n2):PIn t p sz:=by
 obtain h|⟨a,f,⟨d,h⟩|⟨d,h⟩⟩:=h;exact .inl h;exact .inr ⟨a,f,.inl ⟨d,Z0⟩⟩;exact .inr ⟨a,f,.inr ⟨d,Z0⟩⟩
def POl.mono{s t:St8}{p:Pl}{sz:Nat}(h:POl s p sz)(g:s.n3<=t.n3)(h2:s.n4<=t.n4):POl t p sz:=by
 obtain h|⟨a,f,⟨d,h⟩|⟨d,h⟩⟩:=h;exact .inl h;exact .inr ⟨a,f,.inl ⟨d,Z0⟩⟩;exact .inr ⟨a,f,.inr ⟨d,Z0⟩⟩
def MZ{x:Rw}{cycle:Bool}{g:Gr}(k:∀n∈g.nodes,ZI n<=9):∀i,i<=P g.nodes->∀(j:Nat) (n:Nd),g.nodes[j]?=xk n->
  (∀p,(Y0 x cycle g i).here[j]?=xk p->PIn (Y0 x cycle g i) p (ZI n))/\(∀p,(Y0 x cycle g i).old[j]?=xk p->POl (Y0 x cycle g i) p (ZI n))
 |0,_,j,n,h=>⟨λp a=>by simp[Y0]at a,λp a=>by simp[Y0]at a⟩
 |i+1,C,j,n,h=>by
  obtain⟨o,q⟩:=MZ (x:=x) (cycle:=cycle) k i Z0 j n h;obtain⟨_,_,u,w⟩:=L3 (x:=x) (cycle:=cycle) k i Z0;have d:g.nodes[i]?=xk g.nodes[i]:=ZdG Z0;simp only[Y0,d,Zec];generalize Y0 x cycle g i=s at*;obtain⟨y,z,A,B⟩:=Z7l (x:=x) (cycle:=cycle) (sz:=ZI g.nodes[i]) (i:=i) (s:=s);have t:j<P g.nodes:=(ZdH.1 h).1;constructor;intro p a;by_cases r:j<i;have:s.here[j]?=xk p:=by
   simp only[X2]at a;rwa[Zea Z0]at a
  exact(o p this).mono y z;by_cases f:j=i;subst f;rw[d]at h;cases h;simp only[X2]at a;rw[Ze6 Z0,u,ZfE]at a;simp only[Zfo,ZdF]at a;subst a;unfold PIn;obtain l|l|⟨l,rfl⟩:=So x j cycle;grind [X2];grind [X2];simp_all;grind [X2,List.getElem?_eq_some_iff];intro p a;by_cases r:j<i;have:s.old[j]?=xk p:=by
   simp only[X2]at a;rwa[Zea Z0]at a
  exact(q p this).mono A B;by_cases f:j=i;subst f;rw[d]at h;cases h;simp only[X2]at a;rw[Ze6 Z0,w,ZfE]at a;grind [List.getElem?_cons_zero,Option.some.injEq,POl,decide,WM,Wj,X2];grind [X2,List.getElem?_eq_some_iff]
def GD(l:List Nd)(a:List Int):∀n∈(ZS l a).nodes,∀q∈n.ptrs,-1<=q/\q< ((ZS l a).nodes.length:Int):=by
 intro n d q f;rw[zH];simp only[ZS,ZdX]at d;obtain⟨y,_,rfl⟩:=d;simp only[UF,ZdX]at f;obtain⟨p,_,rfl⟩:=f;exact Mm
def Z3m(l:List Nd)(a:List Int):∀q∈(ZS l a).roots,-1<=q/\q< ((ZS l a).nodes.length:Int):=by
 intro q d;rw[zH];simp only[ZS]at d;split at d;grind;simp only[ZdX]at d;obtain⟨p,_,rfl⟩:=d;exact Mm
def Z3k(l:List Nd)(a:List Int)(f:∀n∈l,∀q∈n.data,ZC q):∀n∈(ZS l a).nodes,∀q∈n.data,ZC q:=by
 intro n d q g;simp only[ZS,ZdX]at d;obtain⟨y,h,rfl⟩:=d;grind [UF,List.mem_of_mem_take]
def L4{x:Rw}(hx:x.ok)(cycle:Bool):BOk (Ys x cycle)/\Ym (Ys x cycle).h.scan/\ZH (Zu (Ys x cycle).h)=xy:=by
 obtain⟨w,u,y⟩:=Ai x.nodes x.roots;have z:=zH x.nodes x.roots;have K:=GD x.nodes x.roots;have L:=Z3m x.nodes x.roots;have B:=Z3k x.nodes x.roots hx.data;unfold Ys;generalize ZS x.nodes x.roots=g at*;have t:∀n∈g.nodes,ZI n<=9:=λn J=>by grind [ZI]
 obtain⟨M,N,F,G⟩:=L3 (x:=x) (cycle:=cycle) t (P g.nodes) (ZdL _);have r:=MZ (x:=x) (cycle:=cycle) t (P g.nodes) (ZdL _);dsimp only;generalize Y0 x cycle g (P g.nodes)=s at*;have C:=UK (c:=x.slack) (n:=12) Z0;have D:=UK (c:=x.to) (n:=2) Z0;obtain⟨cap,q⟩:∃cap:Int,max ((s.n1:Int)+s.n2+s.wt) ((s.n3:Int)+s.n4)+pick x.slack 12=cap:=⟨_,rfl⟩;rw[q];have A:0<=cap/\cap<=200:=Z0;have H:=ZhI x.base (Z0:(9223372036854775808-2*cap)≠0);have I:=Zhf x.base (Z0:0< (9223372036854775808-2*cap));generalize x.base% (9223372036854775808-2*cap)=base at*;have l:Ym (if cycle=xy/\0<s.n1 then pick x.scan s.n1 else s.n1):=by
  split;rename_i h;have:=UK (c:=x.scan) (n:=s.n1) Z0;exact⟨Z0,Z0⟩;exact⟨Z0,Z0⟩
 refine⟨⟨?_,?_,?_,?_,?_,?_,?_,?_,?_,?_,?_,?_⟩,l,?_⟩;refine⟨⟨?_,?_⟩,⟨?_,?_⟩,⟨?_,?_⟩,⟨?_,?_⟩,⟨?_,?_⟩,⟨?_,?_⟩,⟨?_,?_⟩⟩<;>simp[Zu]<;>omega;exact F;exact G;simp_all;grind;exact B;simp_all;exact u;intro i p n j f;rcases(r i n f).1 p j with h|⟨a,o,⟨d,h⟩|⟨d,h⟩⟩;grind;exact .inr ⟨a,o,.inl d,ZcK⟩;exact .inr ⟨a,o,.inr d,ZcK⟩;intro i p n j f;rcases(r i n f).2 p j with h|⟨a,o,⟨d,h⟩|⟨d,h⟩⟩;grind;exact .inr ⟨a,o,.inl d,ZcK⟩;exact .inr ⟨a,o,.inr d,ZcK⟩;grind [Zx];refine⟨λk=> ?_,Z1⟩;grind [List.replicate,ZC,Zx];refine Vg.2 ?_;simp only[Zu,ZhN];omega
def Cj(x:Rw):Hp:=Yr x (Ys x xh)
def UB(x:Rw):Hp:=if(Ys x xy).h.low.length=0 then Cj x else Yr x (Ys x xy)
def Ox{x:Rw}(hx:x.ok):VC Sol.prog 35 xh [Wa x] (ZJ (Cj x)):=by
 refine ZU Sol.func35 follows Z2 PV rfl ?_;simp[I7];refine Zy (N1 hx (cycle:=xh)) (by simp[Wa]) ?_;simp;refine Zy (EB hx (L4 hx xh).1) Z1 ?_;simp;rfl
def Og{x:Rw}(hx:x.ok):VC Sol.prog 16 xh [Wa x] (ZJ (UB x)):=by
 refine ZU Sol.func16 follows Z2 PJ rfl ?_;simp[HY];refine Zy (N1 hx (cycle:=xy)) (by simp[Wa]) ?_;unfold UB;by_cases a:(Ys x xy).h.low.length=0;simp[Xr,a];refine Zy (Ox hx) Z1 ?_;simp;rfl;simp[Xr,a];refine Zy (EB hx (L4 hx xy).1) Z1 ?_;simp;rfl
def Ey{x:Rw}{b:Bt}(l:BOk b)(t:Ym b.h.scan):(Yr x b).ok/\Zu (Yr x b)=Zu b.h/\(Yr x b).scan=b.h.scan/\(Yr x b).cycle=b.h.cycle:=by
 have j:=K4 (x:=x) l (P b.g.nodes) (ZdL _);have o:=j.ok l;unfold Yr;generalize VR x b (P b.g.nodes)=d at*;obtain⟨k,B,C,D,F,G,H,I,J,p,a,f⟩:=o;have u:=a 1;have y:=a 2;have z:=a 3;have A:=a 4;have w1:=f.1 1;have w2:=f.1 2;have w3:=f.1 3;have w4:=f.1 4;simp only[Vz,yo,Kr,Ks]at u y z A w1 w2 w3 w4;have q:=l.rl;refine⟨⟨k.1,k.2.1,k.2.2.1,by rw[j.scan];exact t,?_,?_,?_,?_,?_,w1,w2,w3,w4,?_⟩,j.lay,j.scan,j.cycle⟩;grind;grind;grind;grind;simp;omega;intro w n;simp only[ZdX]at n;obtain⟨r,_,rfl⟩:=n;split;exact BF _ _;exact⟨Z0,Z0⟩
end Vm
end
section

end
section
namespace Vm
open Go Go.Proofs
structure Ob where
 at_:Int
 size:Int
 ptrs:Int
 gone:Bool
 target:Int
 deriving DecidableEq,Inhabited
def ZL(o:Ob):V:=.agg [vi o.at_,vi o.size,vi o.ptrs,.bool o.gone,vu o.target]
@[simp]theorem Zce(o:Ob):Vi (ZL o) 5=xk (ZL o):=rfl
@[simp]theorem Zaz(o:Ob):U9 (ZL o) 0 5=xk (ZL o):=rfl
@[simp]theorem Zb9(o:Ob):(ZL o).cells=[vi o.at_,vi o.size,vi o.ptrs,.bool o.gone,vu o.target]:=rfl
@[simp]theorem Zad(o:Ob):ZX (ZL o) 0=xk (vi o.at_):=rfl
@[simp]theorem Zae(o:Ob):ZX (ZL o) 1=xk (vi o.size):=rfl
@[simp]theorem Zaf(o:Ob):ZX (ZL o) 2=xk (vi o.ptrs):=rfl
@[simp]theorem Zag(o:Ob):ZX (ZL o) 3=xk (.bool o.gone):=rfl
@[simp]theorem Zah(o:Ob):ZX (ZL o) 4=xk (vu o.target):=rfl
@[simp]theorem ZaA(o:Ob):U9 (ZL o) 1 2=xk (J9 o.size o.ptrs):=rfl
abbrev Zj:=List Ob
@[simp]theorem Zc0(l:Zj):Xp 5 (l.map ZL)=xy:=Ja λ_=>rfl
def Wb(s:Int×Int):V:=J9 s.1 s.2
@[simp]theorem ZbV(s:Int×Int):(Wb s).cells=[vi s.1,vi s.2]:=rfl
@[simp]theorem Zch(s:Int×Int):Vi (Wb s) 2=xk (Wb s):=rfl
@[simp]theorem ZaC(s:Int×Int):U9 (Wb s) 0 2=xk (Wb s):=rfl
@[simp]theorem Zar(s:Int×Int):ZX (Wb s) 0=xk (vi s.1):=rfl
@[simp]theorem Zas(s:Int×Int):ZX (Wb s) 1=xk (vi s.2):=rfl
@[simp]theorem Zc2(l:List (Int×Int)):Xp 2 (l.map Wb)=xy:=Ja λ_=>rfl
def Vv(w:Int):Bool:=decide (w=0)||decide ((adr w).2=0)
def XJ(l:Z8)(gone:Bool)(ptrs:Int)(i:Nat):Bool:=
 match l with
 | []=>xy
 |w::l=>(!gone||decide (w=0))&&(!decide ((i:Int)<ptrs)||Vv w)&&XJ l gone ptrs (i+1)
def Z7c{l:Z8}{gone:Bool}{ptrs:Int}{i:Nat}{w:Int}(h:l[i]?=xk w):XJ (l.drop i) gone ptrs i=((!gone||decide (w=0))&&(!decide ((i:Int)<ptrs)||Vv w)&&XJ (l.drop (i+1)) gone ptrs (i+1)):=by
 obtain⟨a,d⟩:=ZdH.1 h;rw[ZeF a,d];rfl
def XY(shs:List (Int×Int))(old:Bool)(at_ a:Nat)(w:Int):Option (Ob×Nat):=
 if old=xy/\(adr w).2=0 then
  match shs[a]? with
  |none=>xw
  |some s=>if YJ s.1 s.2 then xk (⟨at_,s.1,s.2,xy,(adr w).1⟩,a+1)else xw
 else if(ZP w).2.2=0 then xk (⟨at_,(ZP w).1,(ZP w).2.1,xh,0⟩,a)else xw
def Ct{w:Int}(h:(ZP w).2.2=0):YJ (ZP w).1 (ZP w).2.1=xy:=by
 unfold ZP at*;grind
def zT{shs:List (Int×Int)}{old:Bool}{at_ d:Nat}{w:Int}{o:Ob}{t:Nat}(h:XY shs old at_ d w=xk (o,t)):YJ o.size o.ptrs=xy/\o.at_=at_:=by
 unfold XY at h;split at h;grind;split at h;rename_i a;cases h;exact⟨Ct a,rfl⟩;cases h
def Xl(ws:Z8)(shs:List (Int×Int))(old:Bool):Nat->Nat->Nat->List Ob->List Ob×Int
 |0,_,_,_=>([],3)
 |f+1,at_,d,a=>
  match ws[at_]? with
  |none=>if d<(P shs) then([],3)else(a,0)
  |some w=>match XY shs old at_ d w with
   |none=>([],3)
   |some (o,t)=>
    if(P ws:Int)<at_+1+o.size then([],2)
    else if XJ ((ws.drop (at_+1)).take o.size.toNat) o.gone o.ptrs 0=xh then([],3)
    else Xl ws shs old f (at_+1+o.size.toNat) t (a++[o])
def ZM(ws:Z8)(shs:List (Int×Int))(old:Bool):List Ob×Int:=Xl ws shs old (P ws+1) 0 0 []
def Jp(n:Nat)(o:Ob):Prop:=(∃a:Nat,o.at_=a/\(a:Int)+1+o.size<=n)/\YJ o.size o.ptrs=xy
def Z3T{shs:List (Int×Int)}{old:Bool}{at_ d:Nat}{w:Int}{o:Ob}{t:Nat}(a:ZC w)(h:XY shs old at_ d w=xk (o,t)):ZC o.target:=by
 unfold XY at h;split at h;split at h;cases h;split at h;cases h;obtain⟨f,g⟩:=a;show 0<=(adr w).1/\(adr w).1<18446744073709551616;grind [adr];cases h;split at h;cases h;show(0:Int)<=0/\(0:Int)<18446744073709551616;omega;cases h
def Nu{ws:Z8}{shs:List (Int×Int)}{old:Bool}(k:∀w∈ws,ZC w):∀(f at_ l:Nat) (d:Zj),(∀o∈d,Jp (P ws) o/\ZC o.target)->∀o∈(Xl ws shs old f at_ l d).1,Jp (P ws) o/\ZC o.target
 |0,_,_,_,_=>by simp[Xl]
 |f+1,at_,l,d,a=>by
  simp only[Xl];split;split;simp;exact a;rename_i w q;split;simp;rename_i o t j;split;simp;rename_i u;split;simp;refine Nu k f _ _ _ λr g=> ?_;obtain h|h:=Ze8.1 g;exact a r h;simp only[ZeO]at h;subst h;obtain⟨n,p⟩:=zT j;exact⟨⟨⟨at_,p,Z0⟩,n⟩,Z3T (k w (ZdO q)) j⟩
def Ny{ws:Z8}{shs:List (Int×Int)}{old:Bool}(a:∀w∈ws,ZC w):∀o∈(ZM ws shs old).1,Jp (P ws) o/\ZC o.target:=Nu a _ _ _ _ Z1
def Nv{ws:Z8}{shs:List (Int×Int)}{old:Bool}:∀(f at_ g:Nat) (a:Zj),at_<=P ws->P a<=at_->(Xl ws shs old f at_ g a).1.length<=P ws
 |0,_,_,_,_,_=>by simp[Xl]
 |f+1,at_,g,a,k,d=>by
  simp only[Xl];split;split;simp;simp only;omega;split;simp;rename_i o t h;split;simp;rename_i l;split;simp;have j:=Yv.1 (zT h).1;refine Nv f _ _ _ Z0 ZcL
def Nz{ws:Z8}{shs:List (Int×Int)}{old:Bool}:(ZM ws shs old).1.length<=P ws:=Nv _ _ _ _ Z0 Z1
end Vm
end
section

end
section
namespace Vm
open Go Go.Proofs
def YV(h:Hp)(part at_:Int):Int:=(Y1 (Zu h) part at_).1
def Yy(h:Hp)(part:Int)(l:Zj)(a:Int):Option Ob:=l.find? λo=>YV h part o.at_==a
theorem DD{h:Hp}{part a:Int}{l:Zj}{o:Ob}(d:Yy h part l a=xk o):o∈l:=Zgn d
def WS(h:Hp)(ws:Z8)(low:Zj):Nat->Nat->List (Int×Int)->Option (List (Int×Int))
 |0,_,_=>xw
 |f+1,i,a=>
  match ws[i]? with
  |none=>xk a
  |some w=>if(adr w).2=0 then(match Yy h 1 low (adr w).1 with|none=>xw|some o=>WS h ws low f (i+1+o.size.toNat) (a++[(o.size,o.ptrs)]))
   else if(ZP w).2.2=0 then WS h ws low f (i+1+(ZP w).1.toNat) a else xw
def Vh(h:Hp)(ws:Z8)(low:Zj):Option (List (Int×Int)):=WS h ws low (P ws+1) 0 []
structure Pts where
 low:List Ob
 high:List Ob
 old:List Ob
 far:List Ob
 deriving Inhabited
def Pts.at(p:Pts)(k:Int):List Ob:=if k=1 then p.low else if k=2 then p.high else if k=3 then p.old else p.far
@[simp]theorem Pts.at1(p:Pts):p.at 1=p.low:=rfl
@[simp]theorem Pts.at2(p:Pts):p.at 2=p.high:=rfl
@[simp]theorem Pts.at3(p:Pts):p.at 3=p.old:=rfl
@[simp]theorem Pts.at4(p:Pts):p.at 4=p.far:=rfl
def XF(h:Hp):Option Pts:=
 let low:=ZM h.low [] xh;let high:=ZM h.high [] xh
 if low.2≠0\/high.2≠0 then xw else
 let p:=Vh h h.old low.1;let q:=Vh h h.far low.1;let d:=ZM h.old (p.getD []) xy;let a:=ZM h.far (q.getD []) xy
 if p=xw\/q=xw\/d.2≠0\/a.2≠0 then xw else xk ⟨low.1,high.1,d.1,a.1⟩
def Xs(h:Hp)(p:Pts)(w one a:Int):Bool:=decide (w=0)||(decide ((adr w).2=0)&&((Yy h one (p.at one) (adr w).1).isSome||(Yy h a (p.at a) (adr w).1).isSome))
def WT(o:Ob):Nat:=if o.gone then 0 else 1+o.size.toNat
def Yx(l:Zj):Nat:=(l.map WT).sum
def NQ{l:Zj}{i:Nat}{o:Ob}(h:l[i]?=xk o):Yx (l.take (i+1))=Yx (l.take i)+WT o:=by
 simp_all[Yx,ZeI,Zf6,List.sum_append]
def Lb{l:Zj}(h:∀o∈l,YJ o.size o.ptrs=xy):Yx l<=256*P l:=by
 induction l with
 |nil=>simp[Yx]
 |cons o l a=>
  grind [Yv,WT,Yx,List.length_cons]
def Wt(p:Pts):Nat:=Yx p.old+Yx p.far
def Xw(l:Zj)(a:Int):Nat:=P (l.filter λo=>o.gone&&decide (o.target=a))
def UQ(p:Pts)(a:Int):Nat:=Xw p.old a+Xw p.far a
def Tg(h:Hp):Bool:=
 ZH (Zu h)&&decide (P h.roots<=16)&&decide (0<=h.scan)&&decide (h.scan<=P h.low)&&
  (if h.cycle then decide (h.scan<P h.low)else decide (h.scan=P h.low)&&decide (P h.old=0)&&decide (P h.far=0))
def VX(h:Hp)(p:Pts)(part:Int)(k:Nat):Bool:=
 let w:=((Zx h part)[k]?).getD 0;let a:=Xs h p w 1 2;let from_:=Xs h p w 3 4
 if 2<part then from_ else if part=1/\h.scan<=k then a||from_ else a
def zS(h:Hp)(p:Pts)(part:Int)(o:Ob):Bool:=(List.range o.ptrs.toNat).all λj=>VX h p part (o.at_.toNat+1+j)
def Wp(h:Hp)(p:Pts)(part:Int):Bool:=(p.at part).all (zS h p part)
def Dl{α:Type}{q:α->Bool}{l:List α}{i:Nat}{x:α}(h:l[i]?=xk x):(l.take (i+1)).all q=((l.take i).all q&&q x):=by
 rw[ZeI,h,ZhK];simp
def Dk{α:Type}{q:α->Bool}{l:List α}{i:Nat}{x:α}(h:l[i]?=xk x)(a:q x=xh):l.all q=xh:=by
 grind
def R0(h:Hp)(p:Pts)(o:Ob):Bool:=decide (UQ p (YV h 1 o.at_)=1)
def S5(h:Hp)(p:Pts):Bool:=
 (!h.cycle||p.low.all (R0 h p))&&h.roots.all (λw=>Xs h p w 1 2)&&Wp h p 1&&Wp h p 2&&Wp h p 3&&Wp h p 4&&decide ((P h.low:Int)+P h.high+Wt p<=h.cap)
def X5(h:Hp):Bool:=Tg h&&match XF h with
 |none=>xh
 |some p=>S5 h p
def XE{h:Hp}(a:h.ok)(k:Int):(∀w∈Zx h k,ZC w)/\P (Zx h k)<=1000000:=by
 unfold Zx;split;exact⟨a.lowW,a.low⟩;split;exact⟨a.highW,a.high⟩;split;exact⟨a.oldW,a.old⟩;exact⟨a.farW,a.far⟩
def Z63{h:Hp}(a:X5 h=xy):∃p,XF h=xk p/\S5 h p=xy/\Tg h=xy:=by
 unfold X5 at a;grind
def Ue(h:Hp)(part:Int):List Ob×Int:=if X5 h=xy/\1<=part/\part<=4 then(((XF h).getD default).at part,0)else([],1)
end Vm
end
section

end
section
namespace Vm
open Go Go.Proofs
def Ln{w:Int}(a:ZC w):ZC (adr w).1:=by
 grind [ZC,adr]
def Z0M{l:Ly}{a:Int}(h:(Ya l a).2.2=0):ZH l=xy/\1<=(Ya l a).1/\(Ya l a).1<=4/\0<=(Ya l a).2.1/\(Ya l a).2.1<YQ l (Ya l a).1/\a=fstL l (Ya l a).1+(Ya l a).2.1:=by
 unfold Ya at*;cases k:ZH l;grind;simp only[k]at h⊢;simp only[Zfn,Zeu]at h⊢;by_cases d:X0 l a 1=xy;rw[if_pos d];have:=TH.1 d;grind;rw[if_neg d]at h⊢;by_cases f:X0 l a 2=xy;rw[if_pos f];have:=TH.1 f;grind;rw[if_neg f]at h⊢;by_cases g:X0 l a 3=xy;rw[if_pos g];have:=TH.1 g;grind;rw[if_neg g]at h⊢;by_cases j:X0 l a 4=xy;rw[if_pos j];have:=TH.1 j;grind;simp_all
theorem UO{h:Hp}{k:Int}(a:1<=k/\k<=4):YQ (Zu h) k=P (Zx h k):=by
 have:k=1\/k=2\/k=3\/k=4:=Z0;obtain rfl|rfl|rfl|rfl:=this<;>rfl
def Hp.zero:Hp:=⟨0,0,0,xh,0,[],[],[],[],[]⟩
def zr(ws:List Int)(a:Nat):Nat->List Int
 |0=>ws
 |i+1=>(zr ws a i).set (a+i) 0
@[simp]theorem qu(ws:List Int)(a n:Nat):P (zr ws a n)=P ws:=by
 induction n with
 |zero=>rfl
 |succ n d=>simp[zr,d]
def Xn(h:Hp)(part:Int)(a n:Nat):Hp:= {h with low:=h.low++((Zx h part).take (a+n)).drop a}
def TB(h:Hp)(part:Int)(a n:Nat):Int×Hp×Int:=
 if P (Zx h part)<a+n then(0,Hp.zero,2)
 else if Xo (Zu h)<n then(0,Hp.zero,7)
 else
  let d:=(XG (Y1 (Zu (Xn h part a n)) 1 (P h.low)).1).1
  (d,Xi (Xn h part a n) part ((zr (Zx h part) a n).set a d),0)
def Oz{l:Ly}{k a:Int}:ZC (Y1 l k a).1:=by
 unfold Y1;cases d:ZH l;simp[ZC];simp only[Zfn,Zeu];split;simp[ZC];split;simp[ZC];have:=WN d k;grind [ZC]
def IQ{a:Int}:ZC (XG a).1:=by
 grind [XG,ZC]
def fwd(h:Hp)(w:Int):Int×Hp×Int:=
 if ZH (Zu h)=xh then(0,Hp.zero,1)
 else if w=0 then(0,h,0)
 else if(adr w).2≠0 then(0,Hp.zero,3)
 else if(Ya (Zu h) (adr w).1).2.2≠0 then(0,Hp.zero,6)
 else if(Ya (Zu h) (adr w).1).1<3 then(w,h,0)
 else if(adr ((Zx h (Ya (Zu h) (adr w).1).1).getD (Ya (Zu h) (adr w).1).2.1.toNat 0)).2=0 then((Zx h (Ya (Zu h) (adr w).1).1).getD (Ya (Zu h) (adr w).1).2.1.toNat 0,h,0)
 else if(ZP ((Zx h (Ya (Zu h) (adr w).1).1).getD (Ya (Zu h) (adr w).1).2.1.toNat 0)).2.2≠0 then(0,Hp.zero,3)
 else TB h (Ya (Zu h) (adr w).1).1 (Ya (Zu h) (adr w).1).2.1.toNat ((ZP ((Zx h (Ya (Zu h) (adr w).1).1).getD (Ya (Zu h) (adr w).1).2.1.toNat 0)).1.toNat+1)
end Vm
namespace Vm
open Go Go.Proofs
@[simp]theorem Z8u(k:IntKind)(a b c d e f:Int):Y5 (.agg [.int k a,.int k b,.int k c,.int k d,.int k e,.int k f]) (.int .i64 0) 6 1 xh=xk (.int k a):=rfl
@[simp]theorem Z8A(a b c d e f:Bool):Y5 (.agg [.bool a,.bool b,.bool c,.bool d,.bool e,.bool f]) (.int .i64 0) 6 1 xh=xk (.bool a):=rfl
@[simp]theorem Z8v(k:IntKind)(a b c d e f:Int):Y5 (.agg [.int k a,.int k b,.int k c,.int k d,.int k e,.int k f]) (.int .i64 1) 6 1 xh=xk (.int k b):=rfl
@[simp]theorem Z8B(a b c d e f:Bool):Y5 (.agg [.bool a,.bool b,.bool c,.bool d,.bool e,.bool f]) (.int .i64 1) 6 1 xh=xk (.bool b):=rfl
@[simp]theorem Z8w(k:IntKind)(a b c d e f:Int):Y5 (.agg [.int k a,.int k b,.int k c,.int k d,.int k e,.int k f]) (.int .i64 2) 6 1 xh=xk (.int k c):=rfl
@[simp]theorem Z8C(a b c d e f:Bool):Y5 (.agg [.bool a,.bool b,.bool c,.bool d,.bool e,.bool f]) (.int .i64 2) 6 1 xh=xk (.bool c):=rfl
@[simp]theorem Z8x(k:IntKind)(a b c d e f:Int):Y5 (.agg [.int k a,.int k b,.int k c,.int k d,.int k e,.int k f]) (.int .i64 3) 6 1 xh=xk (.int k d):=rfl
@[simp]theorem Z8D(a b c d e f:Bool):Y5 (.agg [.bool a,.bool b,.bool c,.bool d,.bool e,.bool f]) (.int .i64 3) 6 1 xh=xk (.bool d):=rfl
@[simp]theorem Z8y(k:IntKind)(a b c d e f:Int):Y5 (.agg [.int k a,.int k b,.int k c,.int k d,.int k e,.int k f]) (.int .i64 4) 6 1 xh=xk (.int k e):=rfl
@[simp]theorem Z8E(a b c d e f:Bool):Y5 (.agg [.bool a,.bool b,.bool c,.bool d,.bool e,.bool f]) (.int .i64 4) 6 1 xh=xk (.bool e):=rfl
@[simp]theorem Z8z(k:IntKind)(a b c d e f:Int):Y5 (.agg [.int k a,.int k b,.int k c,.int k d,.int k e,.int k f]) (.int .i64 5) 6 1 xh=xk (.int k f):=rfl
@[simp]theorem Z8F(a b c d e f:Bool):Y5 (.agg [.bool a,.bool b,.bool c,.bool d,.bool e,.bool f]) (.int .i64 5) 6 1 xh=xk (.bool f):=rfl
end Vm
namespace Vm
open Go Go.Proofs
def Z84{h:Hp}(A:h.ok){k:Int}{l:List Int}(o:P l<=1000000)(h2:∀w∈l,ZC w):(Xi h k l).ok:=by
 obtain⟨a,d,f,g,p,q,r,t,j,u,x,y,z,n⟩:=A;unfold Xi;split;exact⟨a,d,f,g,o,q,r,t,j,h2,x,y,z,n⟩;split;exact⟨a,d,f,g,p,o,r,t,j,u,h2,y,z,n⟩;split;exact⟨a,d,f,g,p,q,o,t,j,u,x,h2,z,n⟩;exact⟨a,d,f,g,p,q,r,o,j,u,x,y,h2,n⟩
end Vm
end
section
namespace Vm
open Go Go.Proofs
def L8{n:Nat}{x:V}(h:Xh Try.prog (n+1) 3 x):∃m,x=vi m/\Ym m:=by
 obtain⟨m,rfl,a,d⟩:=Ni Try.underlying3 h;exact⟨m,rfl,a,d⟩
def Nk{n:Nat}{x:V}(h:Xh Try.prog (n+1) 24 x):∃m,x=vu m/\ZC m:=by
 obtain⟨m,rfl,a,d⟩:=Ni Try.underlying24 h;exact⟨m,rfl,a,Int.lt_of_le_of_lt d (by decide)⟩
def Cs{n:Nat}{x:V}(h:Xh Try.prog (n+2) 23 x):∃l:Z8,x=.sl (l.map vi)/\P l<=maxLen/\∀p∈l,Ym p:=
 Cr Try.underlying23 h λy a=>L8 a
def Z7I{n:Nat}{x:V}(h:Xh Try.prog (n+2) 35 x):∃l:Z8,x=.sl (l.map vu)/\P l<=maxLen/\∀p∈l,ZC p:=
 Cr Try.underlying35 h λy a=>Nk a
def Nd.fits(x:Nd):Prop:=(P x.ptrs<=maxLen/\∀p∈x.ptrs,Ym p)/\P x.data<=maxLen/\∀p∈x.data,ZC p
def Z7F{n:Nat}{x:V}(h:Xh Try.prog (n+3) 105 x):∃a:Nd,x=Ye a/\a.fits:=by
 obtain⟨q,rfl,o,d⟩:=Nj Try.underlying105 h
 match q,o with
 | [a,b],_=>
   obtain⟨p,rfl,g,j⟩:=Cs (d 0 _ a rfl rfl);obtain⟨f,rfl,k,l⟩:=Z7I (d 1 _ b rfl rfl);exact⟨⟨p,f⟩,rfl,⟨g,j⟩,k,l⟩
def Z7G{n:Nat}{x:V}(h:Xh Try.prog (n+4) 22 x):∃l:List Nd,x=.sl (l.map Ye)/\P l<=maxLen/\∀a∈l,a.fits:=
 Cr Try.underlying22 h λy d=>Z7F d
def Z7H{n:Nat}{x:V}(h:Xh Try.prog (n+5) 26 x):∃r:Rw,x=Wa r/\r.ok:=by
 obtain⟨F,rfl,B,j⟩:=Nj Try.underlying26 h
 match F,B with
 | [a,b,c,d,e,f,g],_=>
   obtain⟨C,rfl,_,o⟩:=Z7G (j 0 _ a rfl rfl);obtain⟨D,rfl,_,t⟩:=Cs (j 1 _ b rfl rfl);obtain⟨q,rfl,_,u⟩:=Cs (j 2 _ c rfl rfl);obtain⟨d,rfl,w⟩:=Nk (j 3 _ d rfl rfl);obtain⟨e,rfl,y⟩:=L8 (j 4 _ e rfl rfl);obtain⟨f,rfl,z⟩:=L8 (j 5 _ f rfl rfl);obtain⟨g,rfl,A⟩:=L8 (j 6 _ g rfl rfl);exact⟨⟨C,D,q,d,e,f,g⟩,rfl,λn k p l=>(o n k).1.2 p l,λn k p l=>(o n k).2.2 p l,t,u,w,y,z,A⟩
def own:ownKnob Try.prog.godebug=xw:=Z2
def laidOut:laidOutB Try.prog=xy:=Z2
end Vm
end
section
namespace Vm
open Go Go.Proofs Go.RowKit
section
section
variable {P:Z5}{w:Z4}
def Z8f{o:Oper}{a:Act}{K:Act->World->Prop}{Q:Zh}(s x:Operand)(t:Zg)
  (H:o.op=.call {callee:=.builtin .append,args:=#[s,x],argTypes:=#[t,t]}) {e:Zg} (L:P.underlying t=xk (.slice e)) (p:U5 P e=xy)
  {B n:Nat} {v y:Ze} {xs:Zl} (J:a.eval s=v) (hx:a.eval x=y) (k:w.ownsRow B e (P.cellsOf e) v n xs) (D:B<=U (R w))
  {Gy:Z3} {l:Zn} (M:Rd w Gy (.sl l) y) (F:Xp (P.cellsOf e) l=xy) (j:n+xq l<=Y4)
  (h:∀g f d,f.ownsRow B e (P.cellsOf e) g (n+xq l) (xs++d)->w.grownBy f v.ownBlock->(g.ownBlock=v.ownBlock\/(w.grownBy f xw/\f.ownsRow (U (R w)) e (P.cellsOf e) g (n+xq l) (xs++d)))->
   (∀(i:Nat) (q:V),(flat l)[i]?=xk q->∃u,d[i]?=xk u/\Rd w Gy q u)->K (a.put o.dst g) f):o.wp P a w K Q:=by
 obtain⟨g,f,d,I,r,z,A,_,C⟩:=yQ (ty:=o.type) L p k D M F j;unfold Oper.wp execOp;simp only[H,resolve,invoke,builtin,Zel,ZfC,Zem,Zhy,Zee,Zfm,J,hx,I];exact h g f d r z A C
def NL{ops:Zq}{rest:List Oper}{o:Oper}{a:Act}{Q:Zh}(q:o.guard=xw)(s x:Operand)(t:Zg)
  (J:o.op=.call {callee:=.builtin .append,args:=#[s,x],argTypes:=#[t,t]}) {e:Zg} (L:P.underlying t=xk (.slice e)) (p:U5 P e=xy)
  {B n:Nat} {v y:Ze} {xs:Zl} (K:a.eval s=v) (hx:a.eval x=y) (k:w.ownsRow B e (P.cellsOf e) v n xs) (F:B<=U (R w))
  {Gy:Z3} {l:Zn} (M:Rd w Gy (.sl l) y) (I:Xp (P.cellsOf e) l=xy) (j:n+xq l<=Y4)
  (h:∀g f d,f.ownsRow B e (P.cellsOf e) g (n+xq l) (xs++d)->w.grownBy f v.ownBlock->(g.ownBlock=v.ownBlock\/(w.grownBy f xw/\f.ownsRow (U (R w)) e (P.cellsOf e) g (n+xq l) (xs++d)))->
   (∀(i:Nat) (r:V),(flat l)[i]?=xk r->∃u,d[i]?=xk u/\Rd w Gy r u)->wpList P ops Q rest (a.put o.dst g) f):wpList P ops Q (o::rest) a w:=
 wpList_plain q λ_ H=>Z8f s x t J L p K hx k F M I j λg f d z A C D=>H _ _ (h g f d z A C D)
end
def YO(k:Zs)(l:Z8):List Value:=l.map (Value.int k)
def As{w:Z4}{G:Z3}{k:Zs}{l:Z8}{d:Zl}(h:∀(i:Nat) (g:V),(flat (l.map (V.int k)))[i]?=xk g->∃u,d[i]?=xk u/\Rd w G g u)(n:P d=P l):d=YO k l:=by
 have f:flat (l.map (V.int k))=l.map (V.int k):=by
  clear h n;induction l with
  |nil=>rfl
  |cons a l q=>rw[Zee,Sw,q];rfl
 apply ZfF;intro i;unfold YO;by_cases j:i<P l;obtain⟨u,p,o⟩:=h i (.int k l[i]) (by rw[f,Ze1,ZdG j];rfl);rw[p,Ze1,ZdG j];cases o;rfl;rw[ZeJ Z0,ZeJ ZcL]
def Yw{w:Z4}{B:Nat}{e:Zg}{z n:Nat}{v:Ze}{xs:Zl}(h:w.ownsRow B e z v n xs):∃a c,v=.slice a n c:=by
 obtain⟨rfl,rfl⟩|⟨g,cap,d,rfl,_⟩:=h.2;exact⟨_,_,rfl⟩;exact⟨_,_,rfl⟩
theorem Wy{w w':Z4}{B:Nat}{e:Zg}{z n:Nat}{v:Ze}{xs:Zl}(h:w.ownsRow B e z v n xs)(l:∀b,v.ownBlock=xk b->w'.heap[b]?=w.heap[b]?):w'.ownsRow B e z v n xs:=by
 refine⟨h.1,?_⟩;obtain⟨f,d⟩|⟨g,cap,a,rfl,d,j,k⟩:=h.2;exact .inl ⟨f,d⟩;exact .inr ⟨g,cap,a,rfl,d,by rw[l g rfl];exact j,k⟩
def Yz{w:Z4}{b o:Nat}{cs:Za}{T:Zg}(h:w.heap[b]?=xk (.cells cs T (0,0))):w.frozen? ⟨b,o,xw⟩=xh:=by
 simp[World.frozen?,h]
def JG:U5 Sol.prog 24=xy:=Z2
theorem Rf:Sol.prog.cellsOf 24=1:=Z2
def Yf{w:Z4}{b:Nat}{o:Obj}(h:w.heap[b]?=xk o):b<U (R w):=(ZdM.1 h).1
def ye{w:Z4}{B B':Nat}{e:Zg}{z n:Nat}{v:Ze}{xs:Zl}(h:w.ownsRow B e z v n xs)(j:B'<=B):w.ownsRow B' e z v n xs:=by
 refine⟨h.1,?_⟩;obtain d|⟨g,cap,a,l,k,f⟩:=h.2;exact .inl d;exact .inr ⟨g,cap,a,l,Zeh j k,f⟩
def AB(k:Zs)(l:Z8)(i:Nat)(x:Int):YO k (l.set i x)=(YO k l).set i (.int k x):=by unfold YO;rw[Zgr]
def Z2x:(Sol.prog.info? 24).map (λi=>(i.zero,i.size,i.bytes))=xk (xk (.int .u64 0),1,8):=Z2
section
variable {w:Z4}{B:Nat}{G:Z3}
def LT{k:Zs}(l:Z8):flat (l.map (V.int k))=l.map (V.int k):=by
 induction l with
 |nil=>rfl
 |cons a l d=>rw[Zee,Sw,d];rfl
def yf{k:Zs}{e:Zg}{v:Ze}{l:Z8}(h:w.ownsRow B e 1 v (P l) (YO k l))(r:∀c,B<=c->c<U (R w)->G c):Rd w G (.sl (l.map (V.int k))) v:=by
 obtain⟨rfl,q⟩|⟨g,cap,p,rfl,t,u,o,f,_⟩:=h.2;have:l=[]:=ZfB.1 q;subst this;exact .nil _ _ Zdl
 have:=Rd.sl (w:=w) (G:=G) (l.map (V.int k)) g 0 cap 1 (λi=>(YO k l).getD i undef) (by simpa using o) f (r g t (Yf u)) (λx y=>by
  obtain⟨n,_,rfl⟩:=ZdX.1 y
  exact⟨rfl,λc d=>by simp[V.cells]at d;subst d;rfl⟩) (λi j=>by
   have a:i<P l:=ZdD;rw[Zet,h.cellAt i Z0];simp[YO,a]) (λi c d=>by
   rw[LT]at d;obtain⟨j,rfl⟩:=ZdH.1 d;have a:i<P l:=ZdD;simp[YO,a];exact .int _ _)
 simpa using this
end
def Z4x(w:Z4)(b k:Nat)(a:k=1\/k=2\/k=3\/k=4):
  Calls Sol.prog 92 #[.pointer (xk ⟨b,0,xw⟩),.int .i64 k] w λe d=>e=.returned (.pointer (xk ⟨b,4+k,xw⟩))/\Below (U (R w)) w d:=by
 go_enter Sol.func92,Try.ntmps92;obtain rfl|rfl|rfl|rfl:=a;all_goals
  go_wp2;go_region;go_wp2;go_ret
  exact⟨rfl,((Zef _ _).alloc (ZdL _) _).drew⟩
def YF:Array Value:=#[.int .u64 0,.int .i64 0,.int .i64 0,.bool xh,.int .i64 0,.slice xw 0 0,.slice xw 0 0,.slice xw 0 0,.slice xw 0 0,.slice xw 0 0]
abbrev SO(w:Z4)(b:Nat)(v0 v1 v2 v3 v4 v5 v6 v7 v8 v9:Ze):World:=(((((((((w.setCell ⟨b,0,xw⟩ v0).setCell ⟨b,1,xw⟩ v1).setCell ⟨b,2,xw⟩ v2).setCell ⟨b,3,xw⟩ v3).setCell ⟨b,4,xw⟩ v4).setCell ⟨b,5,xw⟩ v5).setCell ⟨b,6,xw⟩ v6).setCell ⟨b,7,xw⟩ v7).setCell ⟨b,8,xw⟩ v8).setCell ⟨b,9,xw⟩ v9
def IS{w2:Z4}{b:Nat}{T:Zg}(a:w2.heap[b]?=xk (.cells YF T (0,0)))(v0 v1 d f v4 g v6 h j k:Ze):(SO w2 b v0 v1 d f v4 g v6 h j k).heap[b]?=xk (.cells #[v0,v1,d,f,v4,g,v6,h,j,k] T (0,0)):=by
 unfold YF at a;simp[World.setCell,Zep,a]
def UM{w2:Z4}{b:Nat}{T:Zg}(l:w2.heap[b]?=xk (.cells YF T (0,0)))(v0 v1 a d v4 f v6 g h k:Ze)(j:Nat):(SO w2 b v0 v1 a d v4 f v6 g h k).cell? ⟨b,j,xw⟩=(#[v0,v1,a,d,v4,f,v6,g,h,k]:Array Value)[j]? :=
 ZdT _ _ _ _ _ _ (IS l v0 v1 a d v4 f v6 g h k)
def VY{B:Nat}{w0 w2:Z4}{b:Nat}(h:Below B w0 w2)(a:B<=b)(v0 v1 d f v4 g v6 j k l:Ze):Below B w0 (SO w2 b v0 v1 d f v4 g v6 j k l):=
 (((((((((h.setCell a _).setCell a _).setCell a _).setCell a _).setCell a _).setCell a _).setCell a _).setCell a _).setCell a _).setCell a _
def Kz{w2:Z4}{b c:Nat}(hc:c≠b)(v0 v1 a d v4 f v6 g h j:Ze):(SO w2 b v0 v1 a d v4 f v6 g h j).heap[c]?=w2.heap[c]? :=by
 have:¬b=c:=λe=>hc e.symm;simp[World.setCell,Zep,this]
end
def Zv(h:Hp)(j:Nat):List Int:=if j=0 then h.low else if j=1 then h.high else if j=2 then h.old else if j=3 then h.far else h.roots
structure OwSt (w:World) (b:Nat) (el:Nat->Option Obj) (T:TypeId) (hd src:Nat->Value) (L:Nat->List Int) (k:Nat) (xs:Nat->Value) (wr:World):Prop where
 below:Below (U (R w)) w wr
 new:U (R w)<=b
 blk:wr.heap[b]?=xk (.cells #[hd 0,hd 1,hd 2,hd 3,hd 4,xs 0,xs 1,xs 2,xs 3,src 4] T (0,0))
 elder:∀c,U (R w)<=c->c<b->wr.heap[c]?=el c
 rest:∀j,k<=j->xs j=src j
 own:∀j,j<k->wr.ownsRow (U (R w)) 24 1 (xs j) (P (L j)) (YO .u64 (L j))
 newer:∀j,j<k->∀c,(xs j).ownBlock=xk c->b<c
 apart:∀i j,i<j->j<k->∀c,(xs i).ownBlock=xk c->(xs j).ownBlock≠xk c
abbrev Z9:=Nat->Value
def OwSt.next{w wr w1 o:Z4}{b:Nat}{z:Nat->Option Obj}{T:Zg}{g l:Z9}{L:Nat->List Int}{k:Nat}{xs:Z9}(h:OwSt w b z T g l L k xs wr)(H:k<4)
  (p:Below (U (R wr)) wr w1) (q:w1.grownBy o xw) {v:Ze} (I:o.ownsRow (U (R w)) 24 1 v (P (L k)) (YO .u64 (L k))) (D:∀c,v.ownBlock=xk c->U (R w1)<=c):
  OwSt w b z T g l L (k+1) (λj=>if j=k then v else xs j) (o.setCell ⟨b,5+k,xw⟩ v):=by
 have r:b<U (R wr):=Yf h.blk;have F:=p.size;have y:=h.below.size;have G:=q.size;have f:∀c,c<U (R wr)->c≠b->(o.setCell ⟨b,5+k,xw⟩ v).heap[c]?=wr.heap[c]? :=λc d x=>by
  rw[Ze5 _ _ _ _ x,q.block c Z0 Z1,p.block c d]
 have C:o.heap[b]?=xk (.cells #[g 0,g 1,g 2,g 3,g 4,xs 0,xs 1,xs 2,xs 3,l 4] T (0,0)):=by
  rw[q.block b Z0 Z1,p.block b r,h.blk]
 refine⟨((h.below.trans (p.mono y)).grown q Z0 Z1).setCell h.new _,h.new,?_,?_,?_,?_,?_,?_⟩;have:k=0\/k=1\/k=2\/k=3:=Z0;obtain rfl|rfl|rfl|rfl:=this<;>simp[World.setCell,Zep,C];intro c A B;rw[f c Z0 Z0];exact h.elder c A B;intro j u;rw[if_neg Z0];exact h.rest j Z0;intro j u;by_cases a:j=k;subst a;rw[if_pos rfl];grind [Wy,Below.heap_setCell];rw[if_neg a];have n:=h.own j Z0;exact Wy n λc d=>f c (n.lt c d).2 (by have:=h.newer j Z0 c d;omega);intro j u c d;by_cases a:j=k;grind;rw[if_neg a]at d;exact h.newer j Z0 c d;intro i j t u c d;rw[if_neg Z0]at d;by_cases a:j=k;rw[if_pos a];intro e;have:=D c e;have:=((h.own i Z0).lt c d).2;omega;rw[if_neg a];exact h.apart i j t Z0 c d
structure HOwn (B:Nat) (w:World) (h:Hp) (x:Nat->Value):Prop where
 own:∀j,j<5->w.ownsRow B 24 1 (x j) (P (Zv h j)) (YO .u64 (Zv h j))
 apart:∀i j,i<j->j<5->∀c,(x i).ownBlock=xk c->(x j).ownBlock≠xk c
def ZO(h:Hp)(x:Z9):Value:=.agg #[.int .u64 h.base,.int .i64 h.cap,.int .i64 h.to,.bool h.cycle,.int .i64 h.scan,x 0,x 1,x 2,x 3,x 4]
abbrev Q9(W:Z4)(b:Nat)(h:Hp)(x:Z9):World:=SO W b (.int .u64 h.base) (.int .i64 h.cap) (.int .i64 h.to) (.bool h.cycle) (.int .i64 h.scan) (x 0) (x 1) (x 2) (x 3) (x 4)
def Oe(w:Z4)(h:Hp)(e:Ending)(w':Z4):Prop:=∃x,e=.returned (ZO h x)/\Below (U (R w)) w w'/\HOwn (U (R w)) w' h x
def QL{h:Hp}(a:h.ok)(k:Nat):P (Zv h k)<=1000000:=by
 unfold Zv;split;exact a.low;split;exact a.high;split;exact a.old;split;exact a.far;exact a.roots
def Z4y(w:Z4)(b k:Nat)(d:k<4):
  Calls Sol.prog 92 #[.pointer (xk ⟨b,0,xw⟩),.int .i64 ((k+1:Nat):Int)] w λe a=>e=.returned (.pointer (xk ⟨b,5+k,xw⟩))/\Below (U (R w)) w a:=by
 have:=Z4x w b (k+1) Z0;grind
def Li(w:Z4)(G:Z3)(hG:∀b,G b->b<xz (xj w))(h:Hp)(hh:h.ok)(d:Z9)(hs:∀j,j<5->Rd w G (.sl ((Zv h j).map vu)) (d j)):
  Calls Sol.prog 66 #[ZO h d] w (Oe w h):=by
 have HS:=ZdP hs;have HH:=ZdP hh;clear hs hh;unfold ZO;go_enter Sol.func66,Try.ntmps66;go_wp2
 go_loopw [4] (λi wr=>∃(k:Nat) (xs:Z9),i=.int .i64 ((k+1:Nat):Int)/\k<=4/\Hid (OwSt w (xz (xj w)+2) (λc=>if c=(xz (xj w)) then xk (.cells #[.int .u64 h.base,.int .i64 h.cap,.int .i64 h.to,.bool h.cycle,.int .i64 h.scan,d 0,d 1,d 2,d 3,d 4] 37 (0,0))else xk (.cells #[.int .u64 0,.int .i64 0,.int .i64 0,.bool xh,.int .i64 0,.slice xw 0 0,.slice xw 0 0,.slice xw 0 0,.slice xw 0 0,.slice xw 0 0] 37 (0,0))) 151 (λj=>if j=0 then .int .u64 h.base else if j=1 then .int .i64 h.cap else if j=2 then .int .i64 h.to else if j=3 then .bool h.cycle else .int .i64 h.scan) d (Zv h) k xs wr))
  (λi _=>5- (intOf i).toNat)
 case atStart=>
  refine⟨0,d,rfl,Z0,ZdP ⟨(((Zef _ _).alloc (ZdL _) _).alloc Z1 _).alloc ZcL _,Z0,?_,?_,λ_ _=>rfl,λj hj=>Z0,λj hj=>Z0,λi j _ hj=>Z0⟩⟩;have:=Ze7 ((w.alloc (.cells #[.int .u64 h.base,.int .i64 h.cap,.int .i64 h.to,.bool h.cycle,.int .i64 h.scan,d 0,d 1,d 2,d 3,d 4] 37)).alloc (.cells #[.int .u64 0,.int .i64 0,.int .i64 0,.bool xh,.int .i64 0,.slice xw 0 0,.slice xw 0 0,.slice xw 0 0,.slice xw 0 0,.slice xw 0 0] 37)) (.cells #[.int .u64 h.base,.int .i64 h.cap,.int .i64 h.to,.bool h.cycle,.int .i64 h.scan,d 0,d 1,d 2,d 3,d 4] 151);simp_all;intro c h1 Y;have:c=(xz (xj w))\/c=xz (xj w)+1:=Z0;obtain rfl|rfl:=this;rw[if_pos rfl,ZdN _ _ _ ZcL,ZdN _ _ _ Z1];exact Ze7 _ _;rw[if_neg Z0,ZdN _ _ _ Z1];have:=Ze7 (w.alloc (.cells #[.int .u64 h.base,.int .i64 h.cap,.int .i64 h.to,.bool h.cycle,.int .i64 h.scan,d 0,d 1,d 2,d 3,d 4] 37)) (.cells #[.int .u64 0,.int .i64 0,.int .i64 0,.bool xh,.int .i64 0,.slice xw 0 0,.slice xw 0 0,.slice xw 0 0,.slice xw 0 0,.slice xw 0 0] 37);simp_all
 case round=>
  obtain⟨k,xs,rfl,hk,g⟩:=hrel;have a3:=Yf g.out.blk;by_cases a1:k<4
  .have b3:((k+1:Nat):Int)<=4:=Z0;have c0:wr.cell? ⟨xz (xj w)+2,5+k,xw⟩=xk (d k):=by
    rw[ZdT _ _ _ _ _ _ g.out.blk];have h3:k=0\/k=1\/k=2\/k=3:=Z0;have hr:=g.out.rest k (ZdL _);obtain rfl|rfl|rfl|rfl:=h3<;>simp[<-hr]
   have f0:wr.frozen? ⟨xz (xj w)+2,5+k,xw⟩=xh:=Yz g.out.blk;have a9:xq (Zv h k)<=1000000:=QL HH.out k
   go_wp2_with (first
    |(go_at_call 92;refine(Z4y _ _ _ a1).mono ?_;rintro e w1 ⟨rfl,C⟩;have c1:=(C.cell (p:=⟨xz (xj w)+2,5+k,xw⟩) (by exact a3)).trans c0;have f1:=(C.frozen (p:=⟨xz (xj w)+2,5+k,xw⟩) (by exact a3)).trans f0;have Q:=ZdP ((HS.out k (by omega)).keep (w':=w1) (λb hb=>by rw[C.block b (by have:=hG b hb;omega)];exact g.out.below.block b (hG b hb)) (λ_ h=>h));have a4:=ZdP C;have b4:=C.size;have a2:=g.out.below.size;clear C)
    |(at_builtin;refine NL (B:=xz (xj w)) (n:=0) (xs:=[]) rfl _ _ _ rfl Sol.underlying35 JG rfl rfl (Zf7 _ _ _ _) (by omega) (l:=(Zv h k).map vu) (Gy:=G) Q.out (by grind [Rf,qe]) (by grind [Y4]) ?_))
   intro v6 w6 x a f A O;simp only[Rf]at a;have S:xq x=xq (Zv h k):=by have:=a.1;simp_all
   rw[As O S]at a;try simp only[Zek,Zet,ZeA]at a
   obtain⟨N,P,T⟩:=Yw a;subst T;have u:(Value.slice xw 0 0).ownBlock=xw:=rfl;rw[u]at f;have c6:=(f.cell_far ⟨xz (xj w)+2,5+k,xw⟩ ZcJ Z1).trans c1;have f6:=(f.frozen_far ⟨xz (xj w)+2,5+k,xw⟩ ZcJ Z1).trans f1;have q:∀c,(Value.slice N (xq (Zv h k)) P).ownBlock=xk c->xz (xj w1)<=c:=by
    intro c t;obtain e|⟨_,e⟩:=A;simp_all;exact(e.lt c t).1
   have HN:=ZdP (g.out.next a1 a4.out f a q);clear a f A O q;go_wp2;go_roundw
   case rel=>grind
   case measure=>grind [intOf]
  .have a8:k=4:=Z0;subst a8;have b0:=g.out.elder (xz (xj w)) Z0 Z0;rw[if_pos rfl]at b0;have b1:=g.out.elder (xz (xj w)+1) Z0 Z0;rw[if_neg Z0]at b1;have c9:wr.cell? ⟨xz (xj w),9,xw⟩=xk (d 4):=by rw[ZdT _ _ _ _ _ _ b0];rfl
   have a9:xq (Zv h 4)<=1000000:=QL HH.out 4;have Q:=ZdP ((HS.out 4 Z0).keep (w':=wr) (λb hb=>g.out.below.block b (hG b hb)) (λ_ h=>h));have a2:=g.out.below.size;go_wp2_with (at_builtin;refine NL (B:=xz (xj w)) (n:=0) (xs:=[]) rfl _ _ _ rfl Sol.underlying35 JG rfl rfl (Zf7 _ _ _ _) Z0 (l:=(Zv h 4).map vu) (Gy:=G) Q.out (by grind [Rf,qe]) (by grind [Y4]) ?_)
   intro v6 w6 x a f A O;simp only[Rf]at a;have S:xq x=xq (Zv h 4):=by have:=a.1;simp_all
   rw[As O S]at a;try simp only[Zek,Zet,ZeA]at a
   obtain⟨N,P,T⟩:=Yw a;subst T;have u:(Value.slice xw 0 0).ownBlock=xw:=rfl;rw[u]at f;obtain⟨D,J,e0⟩:=Yw (g.out.own 0 Z0);obtain⟨F,K,e1⟩:=Yw (g.out.own 1 Z0);obtain⟨H,L,e2⟩:=Yw (g.out.own 2 Z0);obtain⟨I,M,e3⟩:=Yw (g.out.own 3 Z0);have blk:wr.heap[xz (xj w)+2]?=xk (.cells #[.int .u64 h.base,.int .i64 h.cap,.int .i64 h.to,.bool h.cycle,.int .i64 h.scan,.slice D (xq (Zv h 0)) J,.slice F (xq (Zv h 1)) K,.slice H (xq (Zv h 2)) L,.slice I (xq (Zv h 3)) M,d 4] 151 (0,0)):=by rw[<-e0,<-e1,<-e2,<-e3];exact g.out.blk
   have y:=(f.block (xz (xj w)+2) Z0 Z1).trans blk;have W:=(f.block (xz (xj w)+1) Z0 Z1).trans b1;have x9:w6.cell? ⟨xz (xj w)+2,9,xw⟩=xk (d 4):=by rw[ZdT _ _ _ _ _ _ y];rfl
   have y9:w6.frozen? ⟨xz (xj w)+2,9,xw⟩=xh:=Yz y;obtain⟨U,h7⟩:∃U,w6.setCell ⟨xz (xj w)+2,9,xw⟩ (.slice N (xq (Zv h 4)) P)=U:=⟨_,rfl⟩;have X:U.heap[xz (xj w)+2]?=xk (.cells #[.int .u64 h.base,.int .i64 h.cap,.int .i64 h.to,.bool h.cycle,.int .i64 h.scan,.slice D (xq (Zv h 0)) J,.slice F (xq (Zv h 1)) K,.slice H (xq (Zv h 2)) L,.slice I (xq (Zv h 3)) M,.slice N (xq (Zv h 4)) P] 151 (0,0)):=by
    rw[<-h7];simp[World.setCell,Zep,y]
   have R:U.heap[xz (xj w)+1]?=xk (.cells YF 37 (0,0)):=by
    rw[<-h7,Ze5 _ _ _ _ Z1];exact W
   have l:=λj=>ZdT _ _ j _ _ _ X;have m:=λj=>ZdT _ _ j _ _ _ R;unfold YF at m;have r:=λj=>Yz (o:=j) R;have z:=UM R (.int .u64 h.base) (.int .i64 h.cap) (.int .i64 h.to) (.bool h.cycle) (.int .i64 h.scan) (.slice D (xq (Zv h 0)) J) (.slice F (xq (Zv h 1)) K) (.slice H (xq (Zv h 2)) L) (.slice I (xq (Zv h 3)) M) (.slice N (xq (Zv h 4)) P);have a5:Below (xz (xj w)) w U:=by rw[<-h7];exact(g.out.below.grown f a2 Z1).setCell Z1 _
   have b2:∀c,c≠xz (xj w)+2->U.heap[c]?=w6.heap[c]? :=λc t=>by rw[<-h7];exact Ze5 _ _ _ _ t
   have q:∀c,(Value.slice N (xq (Zv h 4)) P).ownBlock=xk c->xz (xj wr)<=c:=by
    intro c t;obtain e|⟨_,e⟩:=A;simp_all;exact(e.lt c t).1
   clear y W blk b0 b1 c9;go_wp2;refine Zey (v:=.agg #[.int .u64 h.base,.int .i64 h.cap,.int .i64 h.to,.bool h.cycle,.int .i64 h.scan,.slice D (xq (Zv h 0)) J,.slice F (xq (Zv h 1)) K,.slice H (xq (Zv h 2)) L,.slice I (xq (Zv h 3)) M,.slice N (xq (Zv h 4)) P]) (by simp[results,Try.results66,go_sem,z]) rfl ⟨λj=>if j=4 then .slice N (xq (Zv h 4)) P else xs j,by simp[ZO,e0,e1,e2,e3],VY a5 Z1 _ _ _ _ _ _ _ _ _ _,?_⟩;have a0:=λc h1 Y=>(Kz (w2:=U) (b:=xz (xj w)+1) (c:=c) h1 (.int .u64 h.base) (.int .i64 h.cap) (.int .i64 h.to) (.bool h.cycle) (.int .i64 h.scan) (.slice D (xq (Zv h 0)) J) (.slice F (xq (Zv h 1)) K) (.slice H (xq (Zv h 2)) L) (.slice I (xq (Zv h 3)) M) (.slice N (xq (Zv h 4)) P)).trans (b2 c Y);refine⟨λj hj=> ?_,λi j a7 hj c t=> ?_⟩;by_cases Z:j=4;subst Z;rw[if_pos rfl];exact Wy a λc t=>a0 c (by have:=q c t;omega) (by have:=q c t;omega);rw[if_neg Z];have ho:=g.out.own j Z0;exact Wy ho λc t=>by
    have h1:=g.out.newer j Z0 c t;have Y:=(ho.lt c t).2;rw[a0 c Z0 Z0,f.block c Y Z1]
   rw[if_neg Z0]at t;by_cases Z:j=4;subst Z;rw[if_pos rfl];intro e;have h1:=q c e;have Y:=((g.out.own i Z0).lt c t).2;omega;rw[if_neg Z];exact g.out.apart i j a7 Z0 c t
def Z8l(z:Ze)(n:Nat):(Builtin.zeroCells #[z] n).toList=List.replicate n z:=by
 simp[Builtin.zeroCells];apply List.ext_getElem;simp;intro i a d;simp[Nat.mod_one]
def Z6h{P:Z5}{w:Z4}{T tI ty e:Zg}{i:TypeInfo}{z:Ze}{Y:Zs}(W:P.underlying T=xk (.slice e))(O:P.underlying tI=xk (.int Y))(U:P.info? e=xk i)(X:i.zero=xk z)
  (H:z.cells=#[z]) (h1:z.oneCell'=xy) (hs:i.size=1) (K:i.bytes=8) {B n m:Nat} {v:Ze} {xs:Zl} (l:w.ownsRow B e 1 v n xs) (Z:B<=xz (xj w)) (hm:0<m) (a1:n+m<=4294967296) (L:Zs):
  ∃M I,(Builtin.append_ #[T,tI] ty #[v,.int L m]).run P w=.ok M I/\I.ownsRow B e 1 M (n+m) (xs++List.replicate m z)/\w.grownBy I v.ownBlock/\
   (M.ownBlock=v.ownBlock\/(w.grownBy I xw/\I.ownsRow (xz (xj w)) e 1 M (n+m) (xs++List.replicate m z))):=by
 have q:xq xs=n:=by have:=l.1;simpa using this
 have f:xq (xs++List.replicate m z)=n+m:=by simp[q]
 have N:n+m<=maxLen:=by simp only[maxLen];omega
 have d:∀(a:Nat),a<n+m->∀(row:ZcI) (J:Za),J=xs.toArray++(List.replicate m z).toArray->
   (w.drew.alloc (.cells (J++Builtin.zeroCells z.cells (grownCap w (n+m) a e- (n+m))) e)).ownsRow (xz (xj w)) e 1
    (.slice (xk ⟨xz (xj w),0,xw⟩) (n+m) (grownCap w (n+m) a e)) (n+m) (xs++List.replicate m z)/\
   w.grownBy (w.drew.alloc (.cells (J++Builtin.zeroCells z.cells (grownCap w (n+m) a e- (n+m))) e)) row:=by
  rintro a ho row J rfl;have S:=grownCap_ge w (n+m) a e;have x:grownCap w (n+m) a e<=maxLen:=grownCap_le_maxLen w (n+m) a e N;refine⟨⟨ZcY,.inr ⟨xz (xj w),_,_,rfl,ZdL _,Ze7 w.drew _,S,x,?_,?_⟩⟩,⟨rfl,rfl,rfl,Z1,λk F _=>ZdN w.drew _ k F⟩⟩;simp only[Array.size_append,ZeW,size_zeroCells,H];simp[q];omega;simp only[Array.toList_append,Zew];rw[<-Zew,Zi1,<-f];exact ZgM
 have A:Builtin.zeroCells z.cells m=(List.replicate m z).toArray:=by
  rw[H];apply Array.ext';rw[Z8l]
 obtain⟨rfl,rfl⟩|⟨g,cap,h,rfl,Q,hg,a2,x,a0,p⟩:=l.2;have hx:xs=[]:=ZeB q;subst hx;have t:=Lib.run_append_nil_zeros (P:=P) w T tI ty e i z L Y W O U X m hm Z0 Z0 (by rw[K];omega);have D:=d 0 Z0;simp only[Zet,ZeA,Array.empty_append]at D t⊢;rw[A]at t;obtain⟨g1,g2⟩:=D xw _ rfl;exact⟨_,_,t,ye g1 Z,g2,.inr ⟨g2,g1⟩⟩;by_cases o:n+m<=cap;have r:n+xq (List.replicate m z)<=h.size:=ZcL;have y:=run_storeCells_at P g n e (List.replicate m z) 0 h w hg (by simpa using r) (by intro v hv;rw[Zho hv];exact h1);simp only[Zfr]at y;have hw:IntKind.i64.wrap (m:Int)=m:=by rw[IntKind.wrap_i64];omega
 have G:¬((m:Int)<0):=Z0;have C:¬(281474976710656< (m:Int)*8):=Z0;have F:m≠0:=Z0
 have t:(Builtin.append_ #[T,tI] ty #[.slice (xk ⟨g,0,xw⟩) n cap,.int L m]).run P w=
   .ok (.slice (xk ⟨g,0,xw⟩) (n+m) cap) (w.setRow g (h.toList.take n++List.replicate m z++h.toList.drop (n+xq (List.replicate m z))).toArray):=by
  simp[Builtin.append_,Zev W,Zev O,Go.sizeOf,typeInfo,zeroValue,U,X,asInt,asIntOf,hw,G,hs,K,C,F,o,A,Zfp];simp at y;rw[y];simp
 refine⟨_,_,t,⟨ZcY,.inr ⟨g,cap,_,rfl,Q,Zi0 w g h _ e _ hg,o,x,?_,?_⟩⟩,⟨rfl,rfl,rfl,Z1,λk _ F=>ZfD w g k _ (λe=>F (by simp[Value.ownBlock,e]))⟩,.inl rfl⟩;simp only[ZeW,Zes,ZeU,ZfM,Zg2];simp at r⊢;omega;rw[Zi1]at p⊢;rw[p,<-f];exact ZgM;have holds:∀j u,xs[j]?=xk u->w.cell? ((⟨g,0,xw⟩:Addr).add j)=xk u:=l.cells (g:=g) rfl;have R:=run_firstCells_some (P:=P) w.drew i.size n ⟨g,0,xw⟩ n cap xs (by rw[hs,Zi1];exact q) (by simpa using holds);have t:=Lib.run_append_grow_zeros (P:=P) w T tI ty e i z L Y W O U X (xk ⟨g,0,xw⟩) n cap xs R m hm Z0 Z0 Z0 (by rw[K];omega) (ZhY Z0 (by rw[K];omega));rw[A]at t;obtain⟨g1,g2⟩:=d cap Z0 xw _ rfl;obtain⟨_,g3⟩:=d cap Z0 (Value.ownBlock (.slice (xk ⟨g,0,xw⟩) n cap)) _ rfl;exact⟨_,_,t,ye g1 Z,g3,.inr ⟨g2,g1⟩⟩
end Vm
end
section
namespace Vm
open Go Go.Proofs
def Hp.zero_ok:Hp.zero.ok:=by
 refine⟨?_,?_,?_,?_,?_,?_,?_,?_,?_,?_,?_,?_,?_,?_⟩<;>simp[Hp.zero,ZC,Ym]
def GI{h:Hp}(d:h.ok){part:Int}{a n:Nat}(o:a+n<=P (Zx h part))(h2:(n:Int)<=Xo (Zu h))(p:0<n):(Xn h part a n).ok:=by
 have g:ZH (Zu h)=xy:=by
  cases j:ZH (Zu h);have:Xo (Zu h)=0:=by unfold Xo;rw[j];rfl
  omega;rfl
 have l:Xo (Zu h)=(Zu h).cap- (Zu h).low- (Zu h).high:=by unfold Xo;rw[g];rfl
 have k:=Vg.1 g;have q:(Zu h).low=P h.low:=rfl;have r:(Zu h).high=P h.high:=rfl;refine⟨d.base,d.cap,d.to,d.scan,?_,d.high,d.old,d.far,d.roots,?_,d.highW,d.oldW,d.farW,d.rootsW⟩;simp only[Xn,Zes,ZfM,ZeU];omega;intro w f;simp only[Xn]at f;obtain f|f:=Ze8.1 f;exact d.lowW w f;exact(XE d part).1 w (ZeD (Zfd f))
def NY{ws:Z8}{a:Nat}(h:∀w∈ws,ZC w):∀n,∀w∈zr ws a n,ZC w
 |0=>h
 |n+1=>by
  intro w d;obtain d|d:=Zfh d;exact NY h n w d;subst d;unfold ZC;omega
def Z13{h:Hp}(f:h.ok){part:Int}{a n:Nat}(g:0<n):(TB h part a n).2.1.ok/\ZC (TB h part a n).1:=by
 unfold TB;split;exact⟨Hp.zero_ok,by simp[ZC]⟩;split;exact⟨Hp.zero_ok,by simp[ZC]⟩;rename_i g1 g2;have j:=XE f part;refine⟨Z84 (GI f Z0 Z0 g) ZcL ?_,IQ⟩;intro w d;obtain d|d:=Zfh d;exact NY j.1 _ w d;subst d;exact IQ
def F3{h:Hp}(a:h.ok){w:Int}(j:ZC w):(fwd h w).2.1.ok/\ZC (fwd h w).1:=by
 unfold fwd;split;exact⟨Hp.zero_ok,by simp[ZC]⟩;split;exact⟨a,by simp[ZC]⟩;split;exact⟨Hp.zero_ok,by simp[ZC]⟩;split;exact⟨Hp.zero_ok,by simp[ZC]⟩;split;exact⟨a,j⟩;split;refine⟨a,?_⟩;generalize (Ya (Zu h) (adr w).1).2.1.toNat=k;have g:=(XE a (Ya (Zu h) (adr w).1).1).1;generalize Zx h (Ya (Zu h) (adr w).1).1=d at*;by_cases f:k<P d;have e:d.getD k 0=d[k]:=by simp[List.getD,f]
 simp only[e];exact g _ (Ze0 f);have e:d.getD k 0=0:=by simp[List.getD,f]
 simp only[e];unfold ZC;omega;split;exact⟨Hp.zero_ok,by simp[ZC]⟩;exact Z13 a Z0
def Z1h{x:Rw}(hx:x.ok):(UB x).ok/\ZH (Zu (UB x))=xy/\(UB x).roots.length<=5:=by
 have key:∀c,(Yr x (Ys x c)).ok/\ZH (Zu (Yr x (Ys x c)))=xy/\(Yr x (Ys x c)).roots.length<=5:=λc=>by
  obtain⟨a,d,f⟩:=L4 hx c;obtain⟨k1,g,_,_⟩:=Ey (x:=x) a d;refine⟨k1,by rw[g];exact f,?_⟩;simp only[Yr,Zek];exact a.rl
 unfold UB Cj;split;exact key xh;exact key xy
end Vm
end
section
namespace Vm
open Go Go.Proofs Go.RowKit
section
def Qp:V->Value
 |.int k n=>.int k n
 |.bool b=>.bool b
 |_=>undef
def T7:V->Bool
 |.int _ _=>xy
 |.bool _=>xy
 |_=>xh
def Sp:V->Value
 |.agg a=>.agg (a.map Qp).toArray
 |x=>Qp x
def T8:V->Bool
 |.agg a=>a.all T7
 |x=>T7 x
def qV:V->Value
 |.tup l=>.tuple (l.map Sp).toArray
 |x=>Sp x
def LR:V->Bool
 |.tup l=>l.all T8
 |x=>T8 x
variable {w:Z4}{G:Z3}
def Z5t{x:V}(h:T7 x=xy):Rd w G x (Qp x):=by
 cases x<;>simp[T7]at h;exact .int _ _;exact .bool _
def Z5u{x:V}(h:T8 x=xy):Rd w G x (Sp x):=by
 cases x with
 |agg d=>
  simp only[T8,ZdR]at h;refine .agg _ _ Z1 (λc a=> ?_) λi c a=> ?_;have:=h c a;cases c<;>simp[T7]at this<;>rfl;have f:=Z5t (w:=w) (G:=G) (h c (ZdO a));have:((d.map Qp).toArray).getD i undef=Qp c:=by
   obtain⟨g,rfl⟩:=ZdH.1 a;simp[Array.getD,g]
  rw[this];exact f
 |int k n=>exact .int _ _
 |bool b=>exact .bool _
 |_=>simp[T8,T7]at h
def Z0q{x:V}{v:Ze}(h:T7 x=xy)(r:Rd w G x v):v=Qp x:=by
 cases x<;>simp[T7]at h;cases r;rfl;cases r;rfl
def E8{x:V}{v:Ze}(h:T8 x=xy)(r:Rd w G x v):v=Sp x:=by
 cases x with
 |agg a=>
  simp only[T8,ZdR]at h;cases r with
  |agg _ vs j _ l=>
   simp only[Sp,Value.agg.injEq];apply ZgO;simpa using j;intro i f o;have d:i<P a:=Z0;have g:a[i]?=xk a[i]:=ZdG d;have:=Z0q (h _ (Ze0 d)) (l i _ g);simp[Array.getD,f]at this;simpa using this
 |int k n=>cases r;rfl
 |bool b=>cases r;rfl
 |_=>simp[T8,T7]at h
def E9{x:V}{v:Ze}(h:LR x=xy)(r:Rd w G x v):v=qV x:=by
 cases x with
 |tup a=>
  simp only[LR,ZdR]at h;cases r with
  |tup _ vs j l=>
   simp only[qV,Value.tuple.injEq];apply ZgO;simpa using j;intro i f o;have d:i<P a:=Z0;have g:a[i]?=xk a[i]:=ZdG d;have:=E8 (h _ (Ze0 d)) (l i _ g);simp[Array.getD,f]at this;simpa using this
 |agg a=>exact E8 (x:=.agg a) h r
 |int k n=>cases r;rfl
 |bool b=>cases r;rfl
 |_=>simp[LR,T8,T7]at h
def Tv{P:Z5}{f:Zo}{fr:Bool}{args:Zn}{r:V}(h:VC P f fr args r)(a:args.all T8=xy)(k:LR r=xy)(w:Z4):
  Calls P f (args.map Sp).toArray w λe g=>e=.returned (qV r)/\Below (U (R w)) w g:=by
 simp only[ZdR]at a;refine Zhn (h.2 w (λ_=>False) _ Z1 Z1 ?_) ?_;intro i x n;obtain⟨d,rfl⟩:=ZdH.1 n;have:((args.map Sp).toArray).getD i undef=Sp args[i]:=by simp[Array.getD,d]
 rw[this];exact Z5u (a _ (Ze0 d));rintro e g ⟨v,rfl,j,l⟩;exact⟨by rw[E9 k l],j⟩
def Ve(l:Ly):Value:=.agg #[.int .u64 l.base,.int .i64 l.cap,.int .i64 l.to,.int .i64 l.low,.int .i64 l.high,.int .i64 l.old,.int .i64 l.far]
def RY{l:Ly}(a:l.fits)(w:Z4):Calls Sol.prog 65 #[Ve l] w λe d=>e=.returned (.bool (ZH l))/\Below (U (R w)) w d:=
 Tv (KQ a) rfl rfl w
def Mk{l:Ly}(a:l.fits)(w:Z4):Calls Sol.prog 70 #[Ve l] w λe d=>e=.returned (.int .i64 (Xo l))/\Below (U (R w)) w d:=
 Tv (Z65 a) rfl rfl w
def Df{l:Ly}(a:l.fits)(part at_:Int)(w:Z4):Calls Sol.prog 75 #[Ve l,.agg #[.int .i64 part,.int .i64 at_]] w λe d=>e=.returned (.tuple #[.int .u64 (Y1 l part at_).1,.int .i64 (Y1 l part at_).2])/\Below (U (R w)) w d:=
 Tv (Dg a) rfl rfl w
def LN{l:Ly}(f:l.fits){a:Int}(d:ZC a)(w:Z4):Calls Sol.prog 67 #[Ve l,.int .u64 a] w λe g=>e=.returned (.tuple #[.agg #[.int .i64 (Ya l a).1,.int .i64 (Ya l a).2.1],.int .i64 (Ya l a).2.2])/\Below (U (R w)) w g:=
 Tv (Z0N f d) rfl rfl w
def VL{x:Int}(hx:ZC x)(w:Z4):Calls Sol.prog 44 #[.int .u64 x] w λe a=>e=.returned (.tuple #[.int .u64 (adr x).1,.int .i64 (adr x).2])/\Below (U (R w)) w a:=
 Tv (Js hx) rfl rfl w
def Z58{x:Int}(hx:ZC x)(w:Z4):Calls Sol.prog 95 #[.int .u64 x] w λe a=>e=.returned (.tuple #[.int .u64 (XG x).1,.int .i64 (XG x).2])/\Below (U (R w)) w a:=
 Tv (Z5a hx) rfl rfl w
def Je{x:Int}(hx:ZC x)(w:Z4):Calls Sol.prog 69 #[.int .u64 x] w λe a=>e=.returned (.tuple #[.agg #[.int .i64 (ZP x).1,.int .i64 (ZP x).2.1],.int .i64 (ZP x).2.2])/\Below (U (R w)) w a:=
 Tv (Nl hx) rfl rfl w
def Tr{h:Hp}{x:Z9}(g:∀b,G b->b<U (R w))(d:∀j,j<5->Rd w G (.sl ((Zv h j).map vu)) (x j)):
  Calls Sol.prog 64 #[ZO h x] w λe f=>e=.returned (Ve (Zu h))/\Below (U (R w)) w f:=by
 refine Zhn ((CW (h:=h)).2 w G _ g rfl ?_) ?_;intro i y a
 match i,a with
 |0,a=>
  cases a;refine .agg _ _ rfl (by simp[V.one]) ?_;intro i y a
  match i,a with
  |0,a=>cases a;exact .int _ _
  |1,a=>cases a;exact .int _ _
  |2,a=>cases a;exact .int _ _
  |3,a=>cases a;exact .bool _
  |4,a=>cases a;exact .int _ _
  |5,a=>cases a;exact d 0 Z0
  |6,a=>cases a;exact d 1 Z0
  |7,a=>cases a;exact d 2 Z0
  |8,a=>cases a;exact d 3 Z0
  |9,a=>cases a;exact d 4 Z0
 rintro e f ⟨v,rfl,k,l⟩;exact⟨by rw[E9 Zdz l];rfl,k⟩
end
end Vm
end
section
namespace Vm
open Go Go.Proofs Go.RowKit
structure Now (B:Nat) (w:World) (b:Nat) (h:Hp) (x:Nat->Value):Prop where
 blk:w.heap[b]?=xk (.cells #[.int .u64 h.base,.int .i64 h.cap,.int .i64 h.to,.bool h.cycle,.int .i64 h.scan,x 0,x 1,x 2,x 3,x 4] 127 (0,0))
 own:HOwn B w h x
 far:∀j,j<5->∀c,(x j).ownBlock=xk c->c≠b
 new:B<=b
def Tp(h:Hp)(part:Int)(a n:Nat):Int:=(XG (Y1 (Zu (Xn h part a n)) 1 (P h.low)).1).1
def O4(B:Nat)(w:World)(b:Nat)(h:Hp)(p a n:Nat)(e:Ending)(w':World):Prop:=
 ∃d,e=.returned (.int .u64 (Tp h (p+1) a n))/\Below B w w'/\Now B w' b (Xi (Xn h (p+1) a n) (p+1) ((zr (Zv h p) a n).set a (Tp h (p+1) a n))) d
def Z8g{P:Program}(w:World){o:Oper}{a:Act}{K:Act->World->Prop}{Q:Exit->Act->World->Prop}(s:Operand)(t:TypeId)
  (d:o.op=.call {callee:=.builtin .clear,args:=#[s],argTypes:=#[t]}) (vs:Value) (g:a.eval s=vs)
  (w':World) (f:(Builtin.clear_ #[t] o.type #[vs]).run P w=.ok (.tuple #[]) w') (h:K (a.put o.dst (.tuple #[])) w'):o.wp P a w K Q:=by
 unfold Oper.wp execOp;simp only[d,resolve,invoke,builtin,Zel,ZfC,Zem,Zhy,Zee,Zfm,g,f];exact h
def Z8d{P:Program}(w:World){ops:Array Oper}{rest:List Oper}{o:Oper}{a:Act}{Q:Exit->Act->World->Prop}(d:o.guard=xw)(s:Operand)(t:TypeId)
  (g:o.op=.call {callee:=.builtin .clear,args:=#[s],argTypes:=#[t]}) (vs:Value) (k:a.eval s=vs)
  (w':World) (j:(Builtin.clear_ #[t] o.type #[vs]).run P w=.ok (.tuple #[]) w') (h:wpList P ops Q rest (a.put o.dst (.tuple #[])) w'):wpList P ops Q (o::rest) a w:=
 wpList_plain d λ_ f=>Z8g w s t g vs k w' j (f _ _ h)
def MJ{b c:Nat}(hc:c≠b):∀(vs:List Value) (o:Nat) (w:World),(w.setCells b o vs).heap[c]?=w.heap[c]?
 | [],_,_=>rfl
 |v::r,o,w=>by
  show((w.setCell ⟨b,o,xw⟩ v).setCells b (o+1) r).heap[c]?=_;rw[MJ hc r];exact Ze5 _ _ _ _ hc
def MK(b:Nat):∀(vs:List Value) (o:Nat) (w:World),U (R (w.setCells b o vs))=U (R w)
 | [],_,_=>rfl
 |v::r,o,w=>by
  show U (R ((w.setCell ⟨b,o,xw⟩ v).setCells b (o+1) r))=_;rw[MK b r];simp[World.setCell]
def MH{B b:Nat}(d:B<=b):∀(vs:List Value) (o:Nat) (a w:World),Below B a w->Below B a (w.setCells b o vs)
 | [],_,_,_,h=>h
 |v::r,o,a,w,h=>MH d r (o+1) a _ (h.setCell d _)
def Hq{B g len cap:Nat}{L:List Int}(a:Nat):∀(n k:Nat) (w:World),a+k+n<=len->w.ownsRow B 24 1 (.slice (xk ⟨g,0,xw⟩) len cap) len (YO .u64 (zr L a k))->
  (w.setCells g (a+k) (List.replicate n (.int .u64 0))).ownsRow B 24 1 (.slice (xk ⟨g,0,xw⟩) len cap) len (YO .u64 (zr L a (k+n)))
 |0,k,w,_,h=>h
 |n+1,k,w,j,h=>by
  have d:=(h.stored (a+k) (.int .u64 0)).1;have f:(YO .u64 (zr L a k)).set (a+k) (.int .u64 0)=YO .u64 (zr L a (k+1)):=by rw[zr,AB]
  rw[f]at d;have:=Hq a n (k+1) _ Z0 d;rw[show k+1+n=k+(n+1)by omega]at this;exact this
def Z0d(w:World)(B b:Nat)(h:Hp)(x:Nat->Value)(q:Now B w b h x)(hB:B<=xz (xj w))(hh:h.ok)(p a n:Nat)(hp:p=2\/p=3)(Q:0<n)(hn:n<=1000)(e5:(n:Int)<=Xo (Zu h))
  (g cap:Nat) (hx:x p=.slice (xk ⟨g,0,xw⟩) (xq (Zv h p)) cap) (i5:a+n<=xq (Zv h p)) (c':Nat):
  Calls Sol.prog 71 #[.pointer (xk ⟨b,0,xw⟩),.slice (xk ⟨g,a,xw⟩) n c'] w (O4 B w b h p a n):=by
 obtain⟨iU,c5,i2,h9,i6⟩:=info_parts Z2x;have j9:xq (Zv h 0)<=1000000:=QL hh 0;obtain⟨v1,w1,h8,e4,z,a6⟩:=Z6h (P:=Sol.prog) (w:=w) (T:=35) (tI:=3) (ty:=35) Sol.underlying35 Sol.underlying3 c5 i2 rfl rfl h9 i6 (q.own.own 0 Z0) hB Q Z0 .i64;obtain⟨a0,q0,e0⟩:=Yw (q.own.own 0 Z0);have b0:w.cell? ⟨b,5,xw⟩=xk (x 0):=by rw[ZdT _ _ _ _ _ _ q.blk];rfl
 have f0:w.frozen? ⟨b,5,xw⟩=xh:=Yz q.blk;have b8:=Yf q.blk;have F:xk b≠(x 0).ownBlock:=λe=>q.far 0 Z0 b e.symm rfl;have c1:=(z.cell_far ⟨b,5,xw⟩ b8 F).trans b0;have f1:=(z.frozen_far ⟨b,5,xw⟩ b8 F).trans f0;rw[e0]at h8 b0 c1;have h5:xq (YO .u64 (Zv h 0))=xq (Zv h 0):=by simp[YO]
 obtain⟨_,j5⟩|⟨g0,q1,y,j4,a9,f8,j2,j3,a7,e8⟩:=e4.2;omega;subst j4;have j6:¬q1=xq (Zv h 0):=Z0;have O:g0≠b:=by
  intro e;obtain r|⟨_,r⟩:=a6;exact F (by rw[<-r,e];rfl);have:=(r.lt g0 rfl).1;omega
 have b9:g≠b:=q.far p Z0 g (by rw[hx];rfl);have g7:g<xz (xj w):=((q.own.own p Z0).lt g (by rw[hx];rfl)).2;have c0:xk g≠(x 0).ownBlock:=λe=>q.own.apart 0 p Z0 Z0 g e.symm (by rw[hx];rfl);have b1:g≠g0:=by
  intro e;obtain r|⟨_,r⟩:=a6;exact c0 (by rw[<-r,e];rfl);have:=(r.lt g0 rfl).1;omega
 obtain⟨w2,H⟩:∃w2,w2=w1.setCell ⟨b,5,xw⟩ (.slice (xk ⟨g0,0,xw⟩) (xq (Zv h 0)+n) q1):=⟨_,rfl⟩;have N:w2.heap[g0]?=xk (.cells y 24 (0,0)):=by rw[H,Ze5 _ _ _ _ O];exact f8
 have g5:∀c,c≠b->c<xz (xj w)->xk c≠(x 0).ownBlock->w2.heap[c]?=w.heap[c]? :=λc A h2 h3=>by
  rw[H,Ze5 _ _ _ _ A,z.block c h2 h3]
 have K:w2.heap[b]?=xk (.cells #[.int .u64 h.base,.int .i64 h.cap,.int .i64 h.to,.bool h.cycle,.int .i64 h.scan,.slice (xk ⟨g0,0,xw⟩) (xq (Zv h 0)+n) q1,x 1,x 2,x 3,x 4] 127 (0,0)):=by
  have:=(z.block b b8 F).trans q.blk;rw[H];simp[World.setCell,Zep,this]
 have i3:w2.cell? ⟨b,5,xw⟩=xk (.slice (xk ⟨g0,0,xw⟩) (xq (Zv h 0)+n) q1):=by rw[ZdT _ _ _ _ _ _ K];rfl
 have R:w2.ownsRow B 24 1 (x p) (xq (Zv h p)) (YO .u64 (Zv h p)):=Wy (q.own.own p Z0) λc f=>by
  rw[hx]at f;cases f;exact g5 g b9 g7 c0
 obtain⟨J,a5⟩:∃J,J=YO .u64 (((Zv h p).take (a+n)).drop a):=⟨_,rfl⟩;have M:xq J=n:=by rw[a5];simp[YO];omega
 have i0:∀j v,J[j]?=xk v->w2.cell? ((⟨g,a,xw⟩:Addr).add j)=xk v:=by
  intro j v hv;have o:j<n:=by rw[<-M];exact(ZdH.1 hv).1
  rw[hx]at R;have:=R.cellAt (a+j) Z0;rw[Zfp,this];rw[a5]at hv;simp only[YO]at hv⊢;rw[<-hv];simp[Zej,show a+j<a+n by omega]
 obtain⟨w3,I⟩:∃w3,w3=w2.setRow g0 (y.toList.take (xq (Zv h 0))++(J++y.toList.drop (xq (Zv h 0)+xq J))).toArray:=⟨_,rfl⟩;have a8:xq (Zv h 0)+xq J<=y.size:=by rw[M];simp at a7;omega
 have h7:∀v∈J,v.oneCell'=xy:=by
  intro v hv;rw[a5]at hv;obtain⟨_,_,rfl⟩:=ZdX.1 hv;rfl
 have h6:xq J=Nat.min n n:=by rw[M];simp
 have i1:(Sol.prog.info? 24).map (·.size)=xk 1:=by rw[c5];simp[h9]
 have d:w3.heap[b]?=xk (.cells #[.int .u64 h.base,.int .i64 h.cap,.int .i64 h.to,.bool h.cycle,.int .i64 h.scan,.slice (xk ⟨g0,0,xw⟩) (xq (Zv h 0)+n) q1,x 1,x 2,x 3,x 4] 127 (0,0)):=by
  rw[I,ZfD _ _ _ _ O.symm];exact K
 have g8:∀c,c≠b->c≠g0->c<xz (xj w)->xk c≠(x 0).ownBlock->w3.heap[c]?=w.heap[c]? :=λc A h2 h3 h4=>by
  rw[I,ZfD _ _ _ _ h2];exact g5 c A h3 h4
 have j7:xz (xj w)<=xz (xj w3):=by
  have:=z.size;have e2:xz (xj w2)=xz (xj w1):=by rw[H];simp[World.setCell]
  have e3:xz (xj w3)=xz (xj w2):=by rw[I];simp[World.setRow]
  omega
 have i9:Zv (Xn h (p+1) a n) 0=Zv h 0++((Zv h p).take (a+n)).drop a:=by
  obtain rfl|rfl:=hp<;>rfl
 have g9:∀j,j≠0->Zv (Xn h (p+1) a n) j=Zv h j:=λj o=>by
  unfold Zv Xn;simp[o]
 have S:∀j,j<5->w3.ownsRow B 24 1 (if j=0 then .slice (xk ⟨g0,0,xw⟩) (xq (Zv h 0)+n) q1 else x j) (xq (Zv (Xn h (p+1) a n) j)) (YO .u64 (Zv (Xn h (p+1) a n) j)):=by
  intro j o;by_cases c8:j=0;subst c8;rw[if_pos rfl,i9];have hd:xq (((Zv h p).take (a+n)).drop a)=n:=ZcL;refine⟨by simp[YO],.inr ⟨g0,q1,(y.toList.take (xq (Zv h 0))++(J++y.toList.drop (xq (Zv h 0)+xq J))).toArray,?_,a9,?_,?_,j3,?_,?_⟩⟩;rw[Zes,hd];rw[I];exact Zi0 _ _ _ _ _ _ N;rw[Zes,hd];exact j2;simp[M]at a7 a8⊢;omega;have ht:y.toList.take (xq (Zv h 0))=YO .u64 (Zv h 0):=by
   have:=ZeX (List.take (xq (Zv h 0))) e8;rw[List.take_take,ZhT Z0]at this;rw[this,List.take_left' h5]
  rw[Zes,hd,ht];simp only[Zi1];rw[<-Zew,List.take_left' (by simp[h5,M]),a5];simp[YO];rw[if_neg c8,g9 j c8];have ho:=q.own.own j o
  exact Wy ho λc f=>g8 c (q.far j o c f) (λe=>by
   obtain r|⟨_,r⟩:=a6;exact q.own.apart 0 j Z0 o c (by rw[<-r,e];rfl) f;have A:=(r.lt g0 rfl).1;have h2:=(ho.lt c f).2;omega) (ho.lt c f).2 (λe=>q.own.apart 0 j Z0 o c e.symm f)
 have f9:∀j,0<j->j<5->(x j).ownBlock≠xk g0:=λj h0 o f=>by
  obtain r|⟨_,r⟩:=a6;exact q.own.apart 0 j h0 o g0 (by rw[<-r];rfl) f;have A:=(r.lt g0 rfl).1;have h2:=((q.own.own j o).lt g0 f).2;omega
 have i7:∀j,j<5->j≠p->(x j).ownBlock≠xk g:=λj o F f=>by
  have g6:(x p).ownBlock=xk g:=by rw[hx];rfl
  obtain A|A:=ZgB F;exact q.own.apart j p A Z0 g f g6;exact q.own.apart p j A o g g6 f
 have g4:B<=g:=((q.own.own p Z0).lt g (by rw[hx];rfl)).1;have b2:=q.own.own p Z0;rw[hx]at b2;have U:∀W:World,W.heap[g]?=w.heap[g]? ->W.ownsRow B 24 1 (.slice (xk ⟨g,0,xw⟩) (xq (Zv h p)) cap) (xq (Zv h p)) (YO .u64 (Zv h p)):=λW hW=>Wy b2 λc f=>by
  cases f;exact hW
 have j0:xq (YO .u64 (Zv h p))=xq (Zv h p):=by simp[YO]
 have l:∀W:World,W.heap[g]?=w.heap[g]? ->(∀j,j<n->(W.cell? ⟨g,a+j,xw⟩).isSome=xy)/\(∀j,j<n->W.frozen? ⟨g,a+j,xw⟩=xh):=λW hW=>⟨λj o=>by
  rw[(U W hW).cellAt (a+j) Z0];simp[j0];omega,λj o=>(U W hW).frozenAt _⟩
 have g3:w3.heap[g]?=w.heap[g]? :=g8 g b9 b1 g7 c0;have HN:=ZdP q;have HO:=ZdP e4;have HG:=ZdP z;have f2:=ZdP H;have f3:=ZdP I;have e9:=ZdP S;have d0:w3.cell? ⟨b,0,xw⟩=xk (Value.int .u64 h.base):=ZcU;have d1:w3.cell? ⟨b,1,xw⟩=xk (Value.int .i64 h.cap):=ZcU;have d2:w3.cell? ⟨b,2,xw⟩=xk (Value.int .i64 h.to):=ZcU;have d3:w3.cell? ⟨b,3,xw⟩=xk (Value.bool h.cycle):=ZcU;have d4:w3.cell? ⟨b,4,xw⟩=xk (Value.int .i64 h.scan):=ZcU;have d5:w3.cell? ⟨b,5,xw⟩=xk (Value.slice (xk ⟨g0,0,xw⟩) (xq (Zv h 0)+n) q1):=ZcU;have d6:w3.cell? ⟨b,6,xw⟩=xk (x 1):=ZcU;have d7:w3.cell? ⟨b,7,xw⟩=xk (x 2):=ZcU;have d8:w3.cell? ⟨b,8,xw⟩=xk (x 3):=ZcU;have d9:w3.cell? ⟨b,9,xw⟩=xk (x 4):=ZcU;have j1:(Xn h (p+1) a n).ok:=GI hh (by obtain rfl|rfl:=hp<;>exact i5) e5 Q;clear q e4 z H I S;go_enter Sol.func71,Try.ntmps71
 go_wp2_with (first
  |(at_builtin;refine Lib.wpList_append_run _ rfl _ _ 35 3 rfl _ _ rfl rfl _ _ h8 ?_)
  |(rw[<-f2.out];refine wpList_copy_own rfl _ _ 35 35 rfl 24 Sol.underlying35 i1 g0 (xq (Zv h 0)) n (q1- xq (Zv h 0)) ⟨g,a,xw⟩ n c' rfl rfl y 24 N J h6 i0 a8 h7 ?_;rw[<-f3.out])
  |(go_at_call 64;refine(Tr (h:=Xn h (p+1) a n) (x:=λj=>if j=0 then .slice (xk ⟨g0,0,xw⟩) (xq (Zv h 0)+n) q1 else x j) (G:=λc=>B<=c/\c<xz (xj w3)) (λc f=>f.2) (λj o=>yf (e9.out j o) (λc A h2=>⟨A,h2⟩))).mono ?_;rintro e w4 ⟨rfl,f5⟩;have t:=ZdP f5;clear f5)
  |(go_at_call 75;refine(Df j1.lay _ _ _).mono ?_;rintro e C ⟨rfl,a3⟩;have D:C.heap[g]?=w.heap[g]? :=(a3.block g (by have:=t.out.size;omega)).trans ((t.out.block g (by omega)).trans g3);have k2:xz (xj w3)<=xz (xj C):=Zeh t.out.size a3.size;have a1:=ZdP a3;clear a3;obtain⟨w6,Z⟩:∃w6,w6=C.setCells g a (List.replicate n (.int .u64 0)):=⟨_,rfl⟩;have k3:xz (xj w6)=xz (xj C):=by {rw[Z];exact MK _ _ _ _};have c6:w6.cell? ⟨g,a,xw⟩=xk (.int .u64 0):=by {rw[Z];have:=World.cell?_setCells_in g (List.replicate n (Value.int .u64 0)) a C (by simpa using(l C D).1) 0 (by simpa using Q);simpa using this};have f6:w6.frozen? ⟨g,a,xw⟩=xh:=by {rw[Z,World.frozen?_setCells];exact(l C D).2 0 Q};have a2:=ZdP Z;clear Z)
  |(refine Z8d _ rfl _ 35 rfl _ rfl _ (Lib.run_clear_slice _ _ 24 _ (.int .u64 0) Sol.underlying35 (yU c5 i2) rfl rfl g a n c' Q (l C D).1 (l C D).2) ?_;rw[<-a2.out])
  |(go_at_call 95;refine(Z58 Oz _).mono ?_;rintro e w7 ⟨rfl,a4⟩;have c7:=(a4.cell (p:=⟨g,a,xw⟩) (by show g<xz (xj w6);omega)).trans c6;have f7:=(a4.frozen (p:=⟨g,a,xw⟩) (by show g<xz (xj w6);omega)).trans f6;have b3:=ZdP a4;clear a4))
 go_ret
 have b4:Below B w w3:=by
  rw[f3.out,f2.out];exact Go.below_setRow (Below.setCell (p:=⟨b,5,xw⟩) ((Zef B w).grown HG.out hB (λk hk=>((HN.out.own.own 0 Z0).lt k hk).1)) HN.out.new _) a9 _
 have i4:B<=xz (xj w3):=Z0;have b5:Below B w C:=(b4.trans (t.out.mono i4)).trans (a1.out.mono (by have:=t.out.size;omega));have b6:Below B w w6:=by rw[a2.out];exact MH g4 _ _ _ _ b5
 have b7:Below B w w7:=b6.trans (b3.out.mono Z0);have k0:=t.out.size;have j8:=a1.out.size;have f4:∀(c:Nat) (u:Value),c≠g->c<xz (xj w3)->(w7.setCell ⟨g,a,xw⟩ u).heap[c]?=w3.heap[c]? :=λc u A h2=>by
  rw[Ze5 _ _ _ _ A,b3.out.block c Z0,a2.out,MJ A,a1.out.block c Z0,t.out.block c h2]
 have D:C.heap[g]?=w.heap[g]? :=(a1.out.block g Z0).trans ((t.out.block g Z0).trans g3);have X:=Hq (L:=Zv h p) a n 0 C Z0 (U C D);have e6:C.setCells g (a+0) (List.replicate n (.int .u64 0))=w6:=a2.out.symm;rw[e6,Zet]at X;have e7:=Wy (w':=w7) X λc f=>by
  cases f;exact b3.out.block g Z0
 have Y:=(e7.stored a (.int .u64 (Tp h (p+1) a n))).1;rw[<-AB]at Y;refine⟨λj=>if j=0 then .slice (xk ⟨g0,0,xw⟩) (xq (Zv h 0)+n) q1 else x j,rfl,b7.setCell g4 _,?_,⟨?_,?_⟩,?_,HN.out.new⟩;rw[f4 b _ (λe=>b9 e.symm) Z0,d];obtain rfl|rfl:=hp<;>rfl;intro j o;by_cases c9:j=p;subst c9;have r:Zv (Xi (Xn h (j+1) a n) (j+1) ((zr (Zv h j) a n).set a (Tp h (j+1) a n))) j=(zr (Zv h j) a n).set a (Tp h (j+1) a n):=by
  obtain rfl|rfl:=hp<;>rfl
 rw[r,if_neg Z0,hx,Zgx,qu];exact Y;have r:Zv (Xi (Xn h (p+1) a n) (p+1) ((zr (Zv h p) a n).set a (Tp h (p+1) a n))) j=Zv (Xn h (p+1) a n) j:=by
  have:j=0\/j=1\/j=2\/j=3\/j=4:=Z0;obtain rfl|rfl:=hp<;>obtain rfl|rfl|rfl|rfl|rfl:=this<;>first|rfl|exact(c9 rfl).elim
 rw[r];have ho:=e9.out j o;refine Wy ho λc f=>f4 c _ (λe=> ?_) (ho.lt c f).2;subst e;by_cases h0:j=0;rw[if_pos h0]at f;cases f;exact b1 rfl;rw[if_neg h0]at f;exact i7 j o c9 f;intro i j i8 o c f;rw[if_neg (Z0:¬j=0)];by_cases h0:i=0;rw[if_pos h0]at f;cases f;exact f9 j Z0 o;rw[if_neg h0]at f;exact HN.out.own.apart i j i8 o c f;intro j o c f;by_cases h0:j=0;rw[if_pos h0]at f;cases f;exact O;rw[if_neg h0]at f;exact HN.out.far j o c f
end Vm
namespace Vm
open Go Go.Proofs Go.RowKit
def EY(w:World)(B b:Nat)(h:Hp)(x:Nat->Value)(j:Now B w b h x)(o:h.ok)(p a:Nat)(q:p=2\/p=3)(g cap:Nat)
  (hx:x p=.slice (xk ⟨g,0,xw⟩) (P (Zv h p)) cap) (y:a< P (Zv h p)):
  Calls Sol.prog 68 #[.pointer (xk ⟨b,0,xw⟩),.agg #[.int .i64 ((p:Int)+1),.int .i64 a]] w λe r=>e=.returned (.slice (xk ⟨g,a,xw⟩) (P (Zv h p)-a) (cap-a))/\Below (U (R w)) w r:=by
 have f:=Yf j.blk;have z:=QL o p;have l:P (Zv h p)<=cap:=by
  have:=(j.own.own p Z0).2;rw[hx]at this;obtain⟨k,_⟩|⟨_,_,_,k,_,_,n,_⟩:=this;cases k;cases k;exact n
 obtain rfl|rfl:=q
 .have t:(w.alloc (.cells #[.int .i64 3,.int .i64 a] 72)).cell? ⟨b,7,xw⟩=xk (.slice (xk ⟨g,0,xw⟩) (P (Zv h 2)) cap):=by
   rw[Zfb _ _ _ f,ZdT _ _ _ _ _ _ j.blk,<-hx];rfl
  have d:(P (Zv h 2):Int)<=9223372036854775807:=Z0;go_enter Sol.func68,Try.ntmps68;go_wp2;go_region;go_wp2;go_ret
  exact⟨rfl,((Zef _ _).alloc (ZdL _) _).drew⟩
 .have u:(w.alloc (.cells #[.int .i64 4,.int .i64 a] 72)).cell? ⟨b,8,xw⟩=xk (.slice (xk ⟨g,0,xw⟩) (P (Zv h 3)) cap):=by
   rw[Zfb _ _ _ f,ZdT _ _ _ _ _ _ j.blk,<-hx];rfl
  have d:(P (Zv h 3):Int)<=9223372036854775807:=Z0;go_enter Sol.func68,Try.ntmps68;go_wp2;go_region;go_wp2;go_ret
  exact⟨rfl,((Zef _ _).alloc (ZdL _) _).drew⟩
end Vm
namespace Vm
open Go Go.Proofs Go.RowKit
def Qd(w:World)(r:Int×Hp×Int)(e:Ending)(w':World):Prop:=
 ∃x,e=.returned (.tuple #[.int .u64 r.1,ZO r.2.1 x,.int .i64 r.2.2])/\Below (U (R w)) w w'/\HOwn (U (R w)) w' r.2.1 x
def yg{B' B:Nat}{w:World}{e:TypeId}{n:Nat}{v:Value}{l:List Value}(h:w.ownsRow B' e 1 v n l)(j:∀c,B'<=c->c<U (R w)->B<=c/\c<U (R w)):w.ownsRow B e 1 v n l:=by
 refine⟨h.1,?_⟩;obtain f|⟨g,cap,a,o,k,d,r⟩:=h.2;exact .inl f;exact .inr ⟨g,cap,a,o,(j g k (Yf d)).1,d,r⟩
def Jl(B:Nat)(w':World):HOwn B w' Hp.zero (λ_=>.slice xw 0 0):=⟨λj d=>by
 have:Zv Hp.zero j=[]:=by
  unfold Zv Hp.zero;split;rfl;split;rfl;split;rfl;split<;>rfl
 rw[this];exact Zf7 _ _ _ _,λi j _ _ c a=>by cases a⟩
def Qa(w:World)(o:Obj):((w.alloc o).alloc (.cells #[.int .u64 0,.int .i64 0,.int .i64 0,.bool xh,.int .i64 0,.slice xw 0 0,.slice xw 0 0,.slice xw 0 0,.slice xw 0 0,.slice xw 0 0] 37)).heap[U (R w)+1]?=xk (.cells YF 37 (0,0)):=by
 have e:U (R (w.alloc o))=U (R w)+1:=Z1;have:=Ze7 (w.alloc o) (.cells YF 37);rw[e]at this;exact this
end Vm
namespace Vm
open Go Go.Proofs Go.RowKit
def qr(h:Hp)(x:Nat->Value):Obj:=.cells #[.int .u64 h.base,.int .i64 h.cap,.int .i64 h.to,.bool h.cycle,.int .i64 h.scan,x 0,x 1,x 2,x 3,x 4] 127
def AA{B:Nat}{a:World}{h:Hp}{x:Nat->Value}(f:HOwn B a h x)(k:B<=U (R a)):Now B (a.alloc (qr h x)) (U (R a)) h x:=by
 refine⟨Ze7 a _,⟨λj d=> ?_,f.apart⟩,λj d c g=> ?_,k⟩;exact Wy (f.own j d) λc g=>ZdN _ _ _ ((f.own j d).lt c g).2;have:=((f.own j d).lt c g).2;omega
def Z0u(W:World):W.drew.heap=W.heap:=rfl
def Bv{w2:World}{b c:Nat}(hc:c≠b)(v0 v1 a d v4 f v6 g h j:Value):(SO w2 b v0 v1 a d v4 f v6 g h j).drew.heap[c]?=w2.heap[c]? :=by
 rw[Z0u];exact Kz hc v0 v1 a d v4 f v6 g h j
def AM{w:World}{B n q:Nat}{e:TypeId}{z:Nat}{a:Option Addr}{v:Value}{xs:List Value}(h:w.ownsRow B e z v n xs)(j:v=.slice a n q)(l:0<n):∃g,a=xk ⟨g,0,xw⟩:=by
 subst j;obtain⟨_,k⟩|⟨g,cap,d,f,_⟩:=h.2;omega;cases f;exact⟨g,rfl⟩
def Z4q{w:World}{B n q:Nat}{e:TypeId}{z:Nat}{a:Option Addr}{xs:List Value}(h:w.ownsRow B e z (.slice a n q) n xs)(o:0<n):n<=q/\q<=maxLen:=by
 obtain⟨_,l⟩|⟨g,cap,d,k,_,_,f,j,_⟩:=h.2;omega;cases k;exact⟨f,j⟩
def RS{w:World}{B g cap:Nat}{l:List Int}(h:w.ownsRow B 24 1 (.slice (xk ⟨g,0,xw⟩) (P l) cap) (P l) (YO .u64 l)){i:Nat}{v:Int}(a:l[i]?=xk v):w.cell? ⟨g,i,xw⟩=xk (.int .u64 v):=by
 obtain⟨d,f⟩:=ZdH.1 a;rw[h.cellAt i Z0];simp[YO,a]
structure FwSt (w W:World) (rb lb kb b B:Nat) (part at_:Int) (h:Hp) (x:Nat->Value):Prop where
 res:W.heap[rb]?=xk (.cells YF 37 (0,0))
 lay:W.heap[lb]?=xk (.cells #[.int .u64 (Zu h).base,.int .i64 (Zu h).cap,.int .i64 (Zu h).to,.int .i64 (Zu h).low,.int .i64 (Zu h).high,.int .i64 (Zu h).old,.int .i64 (Zu h).far] 69 (0,0))
 plc:W.heap[kb]?=xk (.cells #[.int .i64 part,.int .i64 at_] 72 (0,0))
 now:Now B W b h x
 bel:Below (U (R w)) w W
 old:U (R w)<=rb
 rbB:rb<B
 lbB:lb<B
 kbB:kb<B
 sz:B<=U (R W)
def FwSt.below{w W f:World}{k lb kb b B:Nat}{part at_:Int}{h:Hp}{x:Nat->Value}(s:FwSt w W k lb kb b B part at_ h x)(a:Below (U (R W)) W f):FwSt w f k lb kb b B part at_ h x:=by
 have r:=s.sz;have l:=s.rbB;have n:=s.lbB;have o:=s.kbB;have q:=a.size;have d:=s.bel.size;refine⟨(a.block _ Z0).trans s.res,(a.block _ Z0).trans s.lay,(a.block _ Z0).trans s.plc,⟨(a.block _ (Yf s.now.blk)).trans s.now.blk,⟨λj g=> ?_,s.now.own.apart⟩,s.now.far,s.now.new⟩,s.bel.trans (a.mono d),s.old,l,n,o,Z0⟩;exact Wy (s.now.own.own j g) λc p=>a.block _ ((s.now.own.own j g).lt c p).2
def FwSt.drew{w W:World}{a lb kb b B:Nat}{part at_:Int}{h:Hp}{x:Nat->Value}(s:FwSt w W a lb kb b B part at_ h x):FwSt w W.drew a lb kb b B part at_ h x:=
 ⟨s.res,s.lay,s.plc,⟨s.now.blk,⟨λj d=>Wy (s.now.own.own j d) λc f=>rfl,s.now.own.apart⟩,s.now.far,s.now.new⟩,s.bel.drew,s.old,s.rbB,s.lbB,s.kbB,s.sz⟩
def FwSt.F{w W:World}{a lb kb b B:Nat}{part at_:Int}{h:Hp}{x:Nat->Value}(s:FwSt w W a lb kb b B part at_ h x):(∀j,W.cell? ⟨a,j,xw⟩=(#[.int .u64 0,.int .i64 0,.int .i64 0,.bool xh,.int .i64 0,.slice xw 0 0,.slice xw 0 0,.slice xw 0 0,.slice xw 0 0,.slice xw 0 0]:Array Value)[j]?)/\(∀j,W.frozen? ⟨a,j,xw⟩=xh)/\
  (∀j,W.cell? ⟨b,j,xw⟩=(#[.int .u64 h.base,.int .i64 h.cap,.int .i64 h.to,.bool h.cycle,.int .i64 h.scan,x 0,x 1,x 2,x 3,x 4]:Array Value)[j]?)/\(∀j,W.cell? ⟨kb,j,xw⟩=(#[.int .i64 part,.int .i64 at_]:Array Value)[j]?)/\∀j,W.cell? ⟨lb,j,xw⟩=(#[.int .u64 (Zu h).base,.int .i64 (Zu h).cap,.int .i64 (Zu h).to,.int .i64 (Zu h).low,.int .i64 (Zu h).high,.int .i64 (Zu h).old,.int .i64 (Zu h).far]:Array Value)[j]? :=
 ⟨λj=>ZdT _ _ _ _ _ _ s.res,λj=>Yz s.res,λj=>ZdT _ _ _ _ _ _ s.now.blk,λj=>ZdT _ _ _ _ _ _ s.plc,λj=>ZdT _ _ _ _ _ _ s.lay⟩
def Oa(w:World)(G:Nat->Prop)(O:∀b,G b->b<xz (xj w))(h:Hp)(hh:h.ok)(p:Nat->Value)(hs:∀j,j<5->Rd w G (.sl ((Zv h j).map vu)) (p j))(v:Int)(hv:ZC v)
  (hr:ZH (Zu h)=xy) (Z:¬v=0) (h1:(adr v).2=0) (part:Int) (at_:Nat) (hf:Ya (Zu h) (adr v).1=(part,(at_:Int),0)) (hp:part=1\/part=2):
  Calls Sol.prog 33 #[ZO h p,.int .u64 v] w (Qd w (fwd h v)):=by
 have HS:=ZdP hs;have R:=ZdP hh;clear hs hh;unfold ZO;go_enter Sol.func33,Try.ntmps33;obtain rfl|rfl:=hp;all_goals
  go_wp2_with (first
   |(go_at_call 64;go_loud (refine(Tr (h:=h) (x:=p) (G:=G) (λc T=>by have:=O c T;simp;omega) (λj M=>(HS.out j M).keep (λb L=>by have:=O b L;rw[ZdN _ _ _ (by simp;omega),ZdN _ _ _ (by omega)]) (λ_ h=>h))).mono ?_;rintro e w1 ⟨rfl,n⟩;unfold Ve;have z1:=(n.block (xz (xj w)+1) (by simp)).trans (Qa w _);have p1:=(n.block (xz (xj w)) (by simp;omega)).trans ((ZdN _ _ (xz (xj w)) (by simp)).trans (Ze7 w _));have W:=n.size;simp at W;have P:=ZdP n;clear n))
   |(go_at_call 65;go_loud (refine(RY R.out.lay _).mono ?_;rintro e w2 ⟨rfl,d⟩;rw[hr];have z2:=(d.block (xz (xj w)+1) (by simp;omega)).trans ((ZdN w1 _ (xz (xj w)+1) (by omega)).trans z1);have p2:=(d.block (xz (xj w)) (by simp;omega)).trans ((ZdN w1 _ (xz (xj w)) (by omega)).trans p1);have x2:=λj=>ZdT _ _ j _ _ _ p2;have r:Below (xz (xj w)) w w2:=((((((Zef _ _).alloc (ZdL _) _).alloc (by simp) _).trans (P.out.mono (by simp;omega))).alloc (by omega) _).trans (d.mono (by simp;omega)));have X:=d.size;simp at X;have m2:=(d.block (xz (xj w1)) (by simp)).trans (Ze7 w1 _);have A:=ZdP r;clear d r))
   |(go_at_call 44;go_loud (refine(VL hv _).mono ?_;rintro e w3 ⟨rfl,f⟩;have z3:=(f.block (xz (xj w)+1) (by omega)).trans z2;have p3:=(f.block (xz (xj w)) (by omega)).trans p2;have m3:=(f.block (xz (xj w1)) (by omega)).trans m2;have l3:=λj=>ZdT _ _ j _ _ _ m3;have a7:=f.size;have Q:=ZdP f;clear f))
   |(go_at_call 67;go_loud (refine(LN R.out.lay (Ln hv) _).mono ?_;rintro e w4 ⟨rfl,g⟩;rw[hf];dsimp only;have a8:=g.size;have z4:=λo=>(ZdN w4 o (xz (xj w)+1) (by omega)).trans ((g.block (xz (xj w)+1) (by omega)).trans z3);have p4:=λo=>(ZdN w4 o (xz (xj w)) (by omega)).trans ((g.block (xz (xj w)) (by omega)).trans p3);have x4:=λo j=>ZdT _ _ j _ _ _ (p4 o);have t:∀o,Below (xz (xj w)) w (w4.alloc o):=λo=>((A.out.trans (Q.out.mono (by omega))).trans (g.mono (by omega))).alloc (by omega) o;have m4:=λo=>(ZdN w4 o (xz (xj w1)) (by omega)).trans ((g.block (xz (xj w1)) (by omega)).trans m3);have q:=ZdP t;clear g t z3 p3 m3 l3 z2 p2 x2 m2))
   |(go_at_call 66;go_loud (refine(Li _ G (λb L=>by have:=O b L;simp;omega) h R.out p (λj M=>(HS.out j M).keep (λb L=>(q.out _).block b (O b L)) (λ_ h=>h))).mono ?_;rintro e z ⟨x,rfl,k,a⟩;obtain⟨a0,q0,C⟩:=Yw (a.own 0 Z0);obtain⟨a1,q1,D⟩:=Yw (a.own 1 Z0);obtain⟨a2,q2,H⟩:=Yw (a.own 2 Z0);obtain⟨a3,q3,I⟩:=Yw (a.own 3 Z0);obtain⟨a4,q4,J⟩:=Yw (a.own 4 Z0);unfold ZO;rw[C,D,H,I,J];have Y:=k.size;simp at Y;have N:∀o,xz (xj (w4.alloc o))=xz (xj w4)+1:=λo=>Z1;rw[N]at a;have K:=AA a Z0;unfold qr at K;rw[C,D,H,I,J]at K;have l:∀o,Below (xz (xj w)) w (z.alloc o):=λo=>((q.out _).trans (k.mono ZcL)).alloc Z0 o;have z6:=λo=>(ZdN z o (xz (xj w)+1) Z0).trans ((k.block (xz (xj w)+1) ZcL).trans (z4 _));have u:FwSt w (z.alloc _) (xz (xj w)+1) (xz (xj w1)) (xz (xj w4)) (xz (xj z)) (xz (xj w4)+1) _ (at_:Nat) h x:=⟨z6 _,(ZdN z _ (xz (xj w1)) Z0).trans ((k.block (xz (xj w1)) ZcL).trans (m4 _)),(ZdN z _ (xz (xj w4)) Z0).trans ((k.block (xz (xj w4)) Z1).trans (Ze7 w4 _)),K,l _,Z0,Z0,Z0,Z0,ZcL⟩;obtain⟨y6,f6,a5,a9,b0⟩:=u.F;rw[C,D,H,I,J]at a5;have S:=ZdP u;clear u;have B:=ZdP l;have HN:=ZdP K;have E0:=ZdP C;have E1:=ZdP D;have E2:=ZdP H;have E3:=ZdP I;have E4:=ZdP J;clear l K C D H I J a k z4 p4 x4 m4)))
  go_region;all_goals
   go_wp2;try simp only[Exit.inBlock,Exit.then]
   have y:=UM S.out.res (.int .u64 h.base) (.int .i64 h.cap) (.int .i64 h.to) (.bool h.cycle) (.int .i64 h.scan) (.slice a0 (xq (Zv h 0)) q0) (.slice a1 (xq (Zv h 1)) q1) (.slice a2 (xq (Zv h 2)) q2) (.slice a3 (xq (Zv h 3)) q3) (.slice a4 (xq (Zv h 4)) q4);have U:fwd h v=(v,h,0):=by simp[fwd,hr,Z,h1,hf]
   rw[U];refine Zey (v:=.tuple #[.int .u64 v,ZO h x,.int .i64 0]) ?_ rfl ?_
   .unfold ZO;rw[E0.out,E1.out,E2.out,E3.out,E4.out];simp[results,Try.results33,go_sem,y]
   refine⟨x,rfl,?_,?_⟩;exact(VY (B.out _) Z0 _ _ _ _ _ _ _ _ _ _).drew;refine⟨λj M=> ?_,HN.out.own.apart⟩;have ho:=HN.out.own.own j M;refine yg (Wy ho ?_) ?_;intro c T;have a6:=(ho.lt c T).1;exact Bv Z0 _ _ _ _ _ _ _ _ _ _;intro c h1 h2;exact⟨Z0,h2⟩
def O9(w:World)(G:Nat->Prop)(hG:∀b,G b->b<xz (xj w))(h:Hp)(hh:h.ok)(A:Nat->Value)(hs:∀j,j<5->Rd w G (.sl ((Zv h j).map vu)) (A j))(v:Int)(hv:ZC v)
  (hr:ZH (Zu h)=xy) (b7:¬v=0) (h1:(adr v).2=0) (part:Int) (at_:Nat) (hf:Ya (Zu h) (adr v).1=(part,(at_:Int),0)) (j:Nat) (M:((j:Nat):Int)+1=part) (hp:part=3\/part=4)
  (C:Int) (z:(Zv h j)[at_]?=xk C) (d0:at_< xq (Zv h j)) (b8:ZC C) (b1:(adr C).2=0):
  Calls Sol.prog 33 #[ZO h A,.int .u64 v] w (Qd w (fwd h v)):=by
 have HS:=ZdP hs;have HH:=ZdP hh;clear hs hh;unfold ZO;go_enter Sol.func33,Try.ntmps33;obtain rfl|rfl:=hp;all_goals
  have d6:j=2\/j=3:=Z0
  go_wp2_with (first
   |(go_at_call 68;go_loud (have L:=EY _ (xz (xj w4)+1) (xz (xj P)) h x R.out.now HH.out j at_ (by omega) g qj EP.out (by omega);rw[M]at L;refine L.mono ?_;clear L;rintro e w7 ⟨rfl,J⟩;obtain⟨m,hm⟩:∃m,xq (Zv h j)-at_=m:=⟨_,rfl⟩;obtain⟨qm,b2⟩:∃qm,qj-at_=qm:=⟨_,rfl⟩;rw[hm,b2];have d7:0<m:=(by omega);have c9:(0:Int)< (m:Int):=(by omega);have c6:at_+0=at_:=rfl;have d:=R.out.below J;have b6:=J.size;simp at b6;obtain⟨y7,f7,c0,e9,f2⟩:=d.F;rw[E0.out,E1.out,E2.out,E3.out,E4.out]at c0;have r:=d.now.own.own j (by omega);rw[EP.out]at r;have c7:=RS r z;have a9:=ZdP d;clear J d r))
   |(go_at_call 44;go_loud (have d:=a9.out;refine(VL b8 _).mono ?_;rintro e w8 ⟨rfl,K⟩;have B:=d.below K;have e7:=K.size;obtain⟨y8,f8,c1,f0,f3⟩:=B.F;rw[E0.out,E1.out,E2.out,E3.out,E4.out]at c1;have t:=B.now.own.own j (by omega);rw[EP.out]at t;have c8:=RS t z;have u:=ZdP B;clear K B d t))
   |(go_at_call 64;go_loud (refine(Tr (h:=h) (x:=A) (G:=G) (λc hc=>by have:=hG c hc;simp;omega) (λj M=>(HS.out j M).keep (λb Z=>by have:=hG b Z;rw[ZdN _ _ _ (by simp;omega),ZdN _ _ _ (by omega)]) (λ_ h=>h))).mono ?_;rintro e w1 ⟨rfl,q⟩;unfold Ve;have z1:=(q.block (xz (xj w)+1) (by simp)).trans (Qa w _);have p1:=(q.block (xz (xj w)) (by simp;omega)).trans ((ZdN _ _ (xz (xj w)) (by simp)).trans (Ze7 w _));have b3:=q.size;simp at b3;have a7:=ZdP q;clear q))
   |(go_at_call 65;go_loud (refine(RY HH.out.lay _).mono ?_;rintro e w2 ⟨rfl,f⟩;rw[hr];have z2:=(f.block (xz (xj w)+1) (by simp;omega)).trans ((ZdN w1 _ (xz (xj w)+1) (by omega)).trans z1);have p2:=(f.block (xz (xj w)) (by simp;omega)).trans ((ZdN w1 _ (xz (xj w)) (by omega)).trans p1);have x2:=λj=>ZdT _ _ j _ _ _ p2;have H:Below (xz (xj w)) w w2:=((((((Zef _ _).alloc (ZdL _) _).alloc (by simp) _).trans (a7.out.mono (by simp;omega))).alloc (by omega) _).trans (f.mono (by simp;omega)));have b4:=f.size;simp at b4;have m2:=(f.block (xz (xj w1)) (by simp)).trans (Ze7 w1 _);have Q:=ZdP H;clear f H))
   |(go_at_call 44;go_loud (refine(VL hv _).mono ?_;rintro e w3 ⟨rfl,k⟩;have z3:=(k.block (xz (xj w)+1) (by omega)).trans z2;have p3:=(k.block (xz (xj w)) (by omega)).trans p2;have m3:=(k.block (xz (xj w1)) (by omega)).trans m2;have l3:=λj=>ZdT _ _ j _ _ _ m3;have e5:=k.size;have a8:=ZdP k;clear k))
   |(go_at_call 67;go_loud (refine(LN HH.out.lay (Ln hv) _).mono ?_;rintro e w4 ⟨rfl,l⟩;rw[hf];dsimp only;have e6:=l.size;have z4:=λo=>(ZdN w4 o (xz (xj w)+1) (by omega)).trans ((l.block (xz (xj w)+1) (by omega)).trans z3);have p4:=λo=>(ZdN w4 o (xz (xj w)) (by omega)).trans ((l.block (xz (xj w)) (by omega)).trans p3);have x4:=λo j=>ZdT _ _ j _ _ _ (p4 o);have I:∀o,Below (xz (xj w)) w (w4.alloc o):=λo=>((Q.out.trans (a8.out.mono (by omega))).trans (l.mono (by omega))).alloc (by omega) o;have m4:=λo=>(ZdN w4 o (xz (xj w1)) (by omega)).trans ((l.block (xz (xj w1)) (by omega)).trans m3);have D:=ZdP I;clear l I z3 p3 m3 l3 z2 p2 x2 m2))
   |(go_at_call 66;go_loud (refine(Li _ G (λb Z=>by have:=hG b Z;simp;omega) h HH.out A (λj M=>(HS.out j M).keep (λb Z=>(D.out _).block b (hG b Z)) (λ_ h=>h))).mono ?_;rintro e P ⟨x,rfl,n,a⟩;obtain⟨a0,q0,S⟩:=Yw (a.own 0 Z0);obtain⟨a1,q1,T⟩:=Yw (a.own 1 Z0);obtain⟨a2,q2,U⟩:=Yw (a.own 2 Z0);obtain⟨a3,q3,W⟩:=Yw (a.own 3 Z0);obtain⟨a4,q4,X⟩:=Yw (a.own 4 Z0);obtain⟨aj,qj,ej⟩:=Yw (a.own j Z0);obtain⟨g,hg⟩:=AM (a.own j Z0) ej Z0;subst hg;unfold ZO;rw[S,T,U,W,X];have b5:=n.size;simp at b5;have a6:∀o,xz (xj (w4.alloc o))=xz (xj w4)+1:=λo=>Z1;rw[a6]at a;have Y:=AA a Z0;unfold qr at Y;rw[S,T,U,W,X]at Y;have p:∀o,Below (xz (xj w)) w (P.alloc o):=λo=>((D.out _).trans (n.mono ZcL)).alloc Z0 o;have z6:=λo=>(ZdN P o (xz (xj w)+1) Z0).trans ((n.block (xz (xj w)+1) ZcL).trans (z4 _));have O:FwSt w (P.alloc _) (xz (xj w)+1) (xz (xj w1)) (xz (xj w4)) (xz (xj P)) (xz (xj w4)+1) _ (at_:Nat) h x:=⟨z6 _,(ZdN P _ (xz (xj w1)) Z0).trans ((n.block (xz (xj w1)) ZcL).trans (m4 _)),(ZdN P _ (xz (xj w4)) Z0).trans ((n.block (xz (xj w4)) Z1).trans (Ze7 w4 _)),Y,p _,Z0,Z0,Z0,Z0,ZcL⟩;obtain⟨y6,f6,b9,e8,f1⟩:=O.F;rw[S,T,U,W,X]at b9;have R:=ZdP O;have EP:=ZdP ej;clear ej;clear O;have c5:=ZdP p;have HN:=ZdP Y;have E0:=ZdP S;have E1:=ZdP T;have E2:=ZdP U;have E3:=ZdP W;have E4:=ZdP X;clear p Y S T U W X a n z4 p4 x4 m4)))
  have b0:fwd h v=(C,h,0):=by
   first
   | (have N:j=2:=by omega
      subst N)
   | (have N:j=3:=by omega
      subst N)
   first
   |have a5:h.old.getD at_ 0=C:=by show(Zv h 2).getD at_ 0=C;simp[List.getD,z]
   |have a5:h.far.getD at_ 0=C:=by show(Zv h 3).getD at_ 0=C;simp[List.getD,z]
   have d8:xq h.old=xq (Zv h 2):=rfl;have d9:xq h.far=xq (Zv h 3):=rfl;simp[fwd,hr,b7,h1,hf,-List.getD_eq_getElem?_getD,a5,b1]
  go_region;all_goals
   go_wp2;try simp only[Exit.inBlock,Exit.then]
   have y:=UM u.out.res (.int .u64 h.base) (.int .i64 h.cap) (.int .i64 h.to) (.bool h.cycle) (.int .i64 h.scan) (.slice a0 (xq (Zv h 0)) q0) (.slice a1 (xq (Zv h 1)) q1) (.slice a2 (xq (Zv h 2)) q2) (.slice a3 (xq (Zv h 3)) q3) (.slice a4 (xq (Zv h 4)) q4);rw[b0];refine Zey (v:=.tuple #[.int .u64 C,ZO h x,.int .i64 0]) ?_ rfl ?_
   .unfold ZO;rw[E0.out,E1.out,E2.out,E3.out,E4.out];simp[results,Try.results33,go_sem,y]
   refine⟨x,rfl,?_,?_⟩;exact(VY u.out.bel Z0 _ _ _ _ _ _ _ _ _ _).drew;refine⟨λj M=> ?_,u.out.now.own.apart⟩;have ho:=u.out.now.own.own j M;refine yg (Wy ho ?_) ?_;intro c hc;have d5:=(ho.lt c hc).1;exact Bv Z0 _ _ _ _ _ _ _ _ _ _;intro c h1 h2;exact⟨Z0,h2⟩
def CU(w:World)(G:Nat->Prop)(hG:∀b,G b->b<xz (xj w))(h:Hp)(hh:h.ok)(e9:Nat->Value)(hs:∀j,j<5->Rd w G (.sl ((Zv h j).map vu)) (e9 j))(v:Int)(hv:ZC v)
  (hr:ZH (Zu h)=xy) (e8:¬v=0) (h1:(adr v).2=0) (part:Int) (at_:Nat) (hf:Ya (Zu h) (adr v).1=(part,(at_:Int),0)) (j:Nat) (hj:((j:Nat):Int)+1=part) (hp:part=3\/part=4)
  (I:Int) (q:(Zv h j)[at_]?=xk I) (m9:at_< xq (Zv h j)) (j4:ZC I) (e7:¬(adr I).2=0) (sz:Nat) (pt er:Int) (d8:ZP I=((sz:Int),pt,er)) (n8:sz<=255)
  (hc:¬er=0\/(er=0/\xq (Zv h j)<at_+(sz+1))\/(er=0/\at_+(sz+1)<=xq (Zv h j)/\Xo (Zu h)< ((sz+1:Nat):Int))\/(er=0/\at_+(sz+1)<=xq (Zv h j)/\¬Xo (Zu h)< ((sz+1:Nat):Int))):
  Calls Sol.prog 33 #[ZO h e9,.int .u64 v] w (Qd w (fwd h v)):=by
 have HS:=ZdP hs;have HH:=ZdP hh;clear hs hh;unfold ZO;go_enter Sol.func33,Try.ntmps33;obtain S|⟨S,k7⟩|⟨S,O,X⟩|⟨S,O,X⟩:=hc;all_goals obtain rfl|rfl:=hp
 all_goals
  have n1:j=2\/j=3:=Z0
  go_wp2_with (first
   |(go_at_call 68;go_loud (have h7:=EY _ (xz (xj w4)+1) (xz (xj K)) h x i7.out.now HH.out j at_ (by omega) g qj EP.out (by omega);rw[hj]at h7;refine h7.mono ?_;clear h7;rintro e w7 ⟨rfl,h4⟩;obtain⟨m,hm⟩:∃m,xq (Zv h j)-at_=m:=⟨_,rfl⟩;obtain⟨qm,h8⟩:∃qm,qj-at_=qm:=⟨_,rfl⟩;rw[hm,h8];have n2:0<m:=(by omega);have m0:(0:Int)< (m:Int):=(by omega);have f4:at_+0=at_:=rfl;have Y:=i7.out.below h4;have l1:=h4.size;simp at l1;obtain⟨y7,f7,h9,j5,j7⟩:=Y.F;rw[E0.out,E1.out,E2.out,E3.out,E4.out]at h9;have d5:=Y.now.own.own j (by omega);rw[EP.out]at d5;have c7:=RS d5 q;have k5:=ZdP Y;clear h4 Y d5))
   |(go_at_call 44;go_loud (have Y:=k5.out;refine(VL j4 _).mono ?_;rintro e w8 ⟨rfl,h5⟩;have f0:=Y.below h5;have n6:=h5.size;obtain⟨y8,f8,i0,j6,j8⟩:=f0.F;rw[E0.out,E1.out,E2.out,E3.out,E4.out]at i0;have d6:=f0.now.own.own j (by omega);rw[EP.out]at d6;have c8:=RS d6 q;have k6:=ZdP f0;clear h5 f0 Y d6))
   |(go_at_call 69;go_loud (refine(Je j4 _).mono ?_;rintro e t ⟨rfl,h6⟩;rw[d8];dsimp only;have n7:=h6.size;have a8:FwSt w (t.alloc (.cells #[.int .i64 (sz:Nat),.int .i64 pt] 52)) _ _ _ _ _ _ _ h x:=(k6.out.below h6).below ((Zef _ _).alloc (ZdL _) _);obtain⟨k0,i9,d9,g5,d⟩:=a8.F;rw[E0.out,E1.out,E2.out,E3.out,E4.out]at d9;have T:=a8.now.own.own j (by omega);rw[EP.out]at T;have DM:=RS T q;have a7:=λj=>ZdT _ _ j _ _ _ (Ze7 t (.cells #[.int .i64 (sz:Nat),.int .i64 pt] 52));have z:=ZdP a8;have n3:m<=1000000:=(by have:=QL HH.out j;omega);have l9:at_+m=xq (Zv h j):=(by omega);clear h6 a8 T))
   |(go_at_call 64;go_loud (refine(Tr (h:=h) (x:=e9) (G:=G) (λc hc=>by have:=hG c hc;simp;omega) (λj hj=>(HS.out j hj).keep (λb p=>by have:=hG b p;rw[ZdN _ _ _ (by simp;omega),ZdN _ _ _ (by omega)]) (λ_ h=>h))).mono ?_;rintro e w1 ⟨rfl,b9⟩;unfold Ve;have z1:=(b9.block (xz (xj w)+1) (by simp)).trans (Qa w _);have p1:=(b9.block (xz (xj w)) (by simp;omega)).trans ((ZdN _ _ (xz (xj w)) (by simp)).trans (Ze7 w _));have k8:=b9.size;simp at k8;have k3:=ZdP b9;clear b9))
   |(go_at_call 65;go_loud (refine(RY HH.out.lay _).mono ?_;rintro e w2 ⟨rfl,a9⟩;rw[hr];have z2:=(a9.block (xz (xj w)+1) (by simp;omega)).trans ((ZdN w1 _ (xz (xj w)+1) (by omega)).trans z1);have p2:=(a9.block (xz (xj w)) (by simp;omega)).trans ((ZdN w1 _ (xz (xj w)) (by omega)).trans p1);have x2:=λj=>ZdT _ _ j _ _ _ p2;have f5:Below (xz (xj w)) w w2:=((((((Zef _ _).alloc (ZdL _) _).alloc (by simp) _).trans (k3.out.mono (by simp;omega))).alloc (by omega) _).trans (a9.mono (by simp;omega)));have k9:=a9.size;simp at k9;have m2:=(a9.block (xz (xj w1)) (by simp)).trans (Ze7 w1 _);have i2:=ZdP f5;clear a9 f5))
   |(go_at_call 44;go_loud (refine(VL hv _).mono ?_;rintro e w3 ⟨rfl,b5⟩;have z3:=(b5.block (xz (xj w)+1) (by omega)).trans z2;have p3:=(b5.block (xz (xj w)) (by omega)).trans p2;have m3:=(b5.block (xz (xj w1)) (by omega)).trans m2;have l3:=λj=>ZdT _ _ j _ _ _ m3;have n4:=b5.size;have k4:=ZdP b5;clear b5))
   |(go_at_call 67;go_loud (refine(LN HH.out.lay (Ln hv) _).mono ?_;rintro e w4 ⟨rfl,b6⟩;rw[hf];dsimp only;have n5:=b6.size;have z4:=λo=>(ZdN w4 o (xz (xj w)+1) (by omega)).trans ((b6.block (xz (xj w)+1) (by omega)).trans z3);have p4:=λo=>(ZdN w4 o (xz (xj w)) (by omega)).trans ((b6.block (xz (xj w)) (by omega)).trans p3);have x4:=λo j=>ZdT _ _ j _ _ _ (p4 o);have f9:∀o,Below (xz (xj w)) w (w4.alloc o):=λo=>((i2.out.trans (k4.out.mono (by omega))).trans (b6.mono (by omega))).alloc (by omega) o;have m4:=λo=>(ZdN w4 o (xz (xj w1)) (by omega)).trans ((b6.block (xz (xj w1)) (by omega)).trans m3);have f2:=ZdP f9;clear b6 f9 z3 p3 m3 l3 z2 p2 x2 m2))
   |(go_at_call 66;go_loud (refine(Li _ G (λb p=>by have:=hG b p;simp;omega) h HH.out e9 (λj hj=>(HS.out j hj).keep (λb p=>(f2.out _).block b (hG b p)) (λ_ h=>h))).mono ?_;rintro e K ⟨x,rfl,b7,D⟩;obtain⟨a0,q0,e0⟩:=Yw (D.own 0 Z0);obtain⟨a1,q1,e1⟩:=Yw (D.own 1 Z0);obtain⟨a2,q2,e2⟩:=Yw (D.own 2 Z0);obtain⟨a3,q3,e3⟩:=Yw (D.own 3 Z0);obtain⟨a4,q4,e4⟩:=Yw (D.own 4 Z0);obtain⟨aj,qj,ej⟩:=Yw (D.own j Z0);obtain⟨g,hg⟩:=AM (D.own j Z0) ej Z0;subst hg;unfold ZO;rw[e0,e1,e2,e3,e4];have l0:=b7.size;simp at l0;have j3:∀o,xz (xj (w4.alloc o))=xz (xj w4)+1:=λo=>Z1;rw[j3]at D;have hN:=AA D Z0;unfold qr at hN;rw[e0,e1,e2,e3,e4]at hN;have b8:∀o,Below (xz (xj w)) w (K.alloc o):=λo=>((f2.out _).trans (b7.mono ZcL)).alloc Z0 o;have z6:=λo=>(ZdN K o (xz (xj w)+1) Z0).trans ((b7.block (xz (xj w)+1) ZcL).trans (z4 _));have i1:FwSt w (K.alloc _) (xz (xj w)+1) (xz (xj w1)) (xz (xj w4)) (xz (xj K)) (xz (xj w4)+1) _ (at_:Nat) h x:=⟨z6 _,(ZdN K _ (xz (xj w1)) Z0).trans ((b7.block (xz (xj w1)) ZcL).trans (m4 _)),(ZdN K _ (xz (xj w4)) Z0).trans ((b7.block (xz (xj w4)) Z1).trans (Ze7 w4 _)),hN,b8 _,Z0,Z0,Z0,Z0,ZcL⟩;obtain⟨y6,f6,l4,o0,o1⟩:=i1.F;rw[e0,e1,e2,e3,e4]at l4;have i7:=ZdP i1;have EP:=ZdP ej;clear ej;clear i1;have l6:=ZdP b8;have HN:=ZdP hN;have E0:=ZdP e0;have E1:=ZdP e1;have E2:=ZdP e2;have E3:=ZdP e3;have E4:=ZdP e4;clear b8 hN e0 e1 e2 e3 e4 D b7 z4 p4 x4 m4)))
 iterate 2
  focus
   have N:fwd h v=(0,Hp.zero,3):=by
    first
    | (have k:j=2:=by omega
       subst k)
    | (have k:j=3:=by omega
       subst k)
    first
    |have B:h.old.getD at_ 0=I:=by show(Zv h 2).getD at_ 0=I;simp[List.getD,q]
    |have B:h.far.getD at_ 0=I:=by show(Zv h 3).getD at_ 0=I;simp[List.getD,q]
    have U:xq h.old=xq (Zv h 2):=rfl;have W:xq h.far=xq (Zv h 3):=rfl;simp[fwd,TB,hr,e8,h1,hf,-List.getD_eq_getElem?_getD,B,U,W,e7,d8,S]
   have y:=UM z.out.res (.int .u64 0) (.int .i64 0) (.int .i64 0) (.bool xh) (.int .i64 0) (.slice xw 0 0) (.slice xw 0 0) (.slice xw 0 0) (.slice xw 0 0) (.slice xw 0 0);rw[N];refine Zey (v:=.tuple #[.int .u64 0,.agg YF,.int .i64 3]) ?_ rfl ?_
   .simp[results,Try.results33,go_sem,y,YF]
   refine⟨λ_=>.slice xw 0 0,?_,?_,Jl _ _⟩;simp[ZO,Hp.zero,YF];exact VY z.out.bel Z0 _ _ _ _ _ _ _ _ _ _
 iterate 2
  focus
   have N:fwd h v=(0,Hp.zero,2):=by
    first
    | (have k:j=2:=by omega
       subst k)
    | (have k:j=3:=by omega
       subst k)
    first
    |have B:h.old.getD at_ 0=I:=by show(Zv h 2).getD at_ 0=I;simp[List.getD,q]
    |have B:h.far.getD at_ 0=I:=by show(Zv h 3).getD at_ 0=I;simp[List.getD,q]
    have U:xq h.old=xq (Zv h 2):=rfl;have W:xq h.far=xq (Zv h 3):=rfl;simp[fwd,TB,hr,e8,h1,hf,-List.getD_eq_getElem?_getD,B,U,W,e7,d8,S,k7]
   have y:=UM z.out.res (.int .u64 0) (.int .i64 0) (.int .i64 0) (.bool xh) (.int .i64 0) (.slice xw 0 0) (.slice xw 0 0) (.slice xw 0 0) (.slice xw 0 0) (.slice xw 0 0);rw[N];refine Zey (v:=.tuple #[.int .u64 0,.agg YF,.int .i64 2]) ?_ rfl ?_
   .simp[results,Try.results33,go_sem,y,YF]
   refine⟨λ_=>.slice xw 0 0,?_,?_,Jl _ _⟩;simp[ZO,Hp.zero,YF];exact VY z.out.bel Z0 _ _ _ _ _ _ _ _ _ _
 iterate 2
  focus
   obtain⟨H,P⟩:∃H:Nat,sz+1=H:=⟨_,rfl⟩;have l2:IntKind.i64.wrap ((sz:Int)+1)=(H:Int):=by rw[Zz ((sz:Int)+1) Z0 Z0];omega
   have j1:Xo (Zu h)< (H:Int):=Z0;have g9:=ZdP P;have i6:=ZdP X;have g8:=ZdP O;clear P X O;have d0:xz (xj t)< xz (xj ((t.alloc (.cells #[.int .i64 (sz:Nat),.int .i64 pt] 52)))):=Z1;clear j7 j8 g5 j5 j6 y7 y8 f7 f8 h9 i0 c7 c8;generalize (t.alloc (.cells #[.int .i64 (sz:Nat),.int .i64 pt] 52))=e6 at*;have A:FwSt w e6 (xz (xj w)+1) (xz (xj w1)) (xz (xj w4)) (xz (xj K)) (xz (xj w4)+1) (((j:Nat):Int)+1) (at_:Nat) h x:=by rw[hj];exact z.out
   have Q:(λa=>a.cell? ⟨xz (xj w1),0,xw⟩=xk (.int .u64 (Zu h).base)/\a.cell? ⟨xz (xj w1),1,xw⟩=xk (.int .i64 (Zu h).cap)/\a.cell? ⟨xz (xj w1),2,xw⟩=xk (.int .i64 (Zu h).to)/\a.cell? ⟨xz (xj w1),3,xw⟩=xk (.int .i64 (Zu h).low)/\a.cell? ⟨xz (xj w1),4,xw⟩=xk (.int .i64 (Zu h).high)/\a.cell? ⟨xz (xj w1),5,xw⟩=xk (.int .i64 (Zu h).old)/\a.cell? ⟨xz (xj w1),6,xw⟩=xk (.int .i64 (Zu h).far)/\a.cell? ⟨xz (xj t),0,xw⟩=xk (.int .i64 (sz:Nat))/\FwSt w a (xz (xj w)+1) (xz (xj w1)) (xz (xj w4)) (xz (xj K)) (xz (xj w4)+1) (((j:Nat):Int)+1) (at_:Nat) h x/\xz (xj t)<xz (xj a)) e6.drew:=⟨d 0,d 1,d 2,d 3,d 4,d 5,d 6,a7 0,A.drew,d0⟩;have L:∀(u u':World),(λa=>a.cell? ⟨xz (xj w1),0,xw⟩=xk (.int .u64 (Zu h).base)/\a.cell? ⟨xz (xj w1),1,xw⟩=xk (.int .i64 (Zu h).cap)/\a.cell? ⟨xz (xj w1),2,xw⟩=xk (.int .i64 (Zu h).to)/\a.cell? ⟨xz (xj w1),3,xw⟩=xk (.int .i64 (Zu h).low)/\a.cell? ⟨xz (xj w1),4,xw⟩=xk (.int .i64 (Zu h).high)/\a.cell? ⟨xz (xj w1),5,xw⟩=xk (.int .i64 (Zu h).old)/\a.cell? ⟨xz (xj w1),6,xw⟩=xk (.int .i64 (Zu h).far)/\a.cell? ⟨xz (xj t),0,xw⟩=xk (.int .i64 (sz:Nat))/\FwSt w a (xz (xj w)+1) (xz (xj w1)) (xz (xj w4)) (xz (xj K)) (xz (xj w4)+1) (((j:Nat):Int)+1) (at_:Nat) h x/\xz (xj t)<xz (xj a)) u->Below (xz (xj u)) u u'->(λa=>a.cell? ⟨xz (xj w1),0,xw⟩=xk (.int .u64 (Zu h).base)/\a.cell? ⟨xz (xj w1),1,xw⟩=xk (.int .i64 (Zu h).cap)/\a.cell? ⟨xz (xj w1),2,xw⟩=xk (.int .i64 (Zu h).to)/\a.cell? ⟨xz (xj w1),3,xw⟩=xk (.int .i64 (Zu h).low)/\a.cell? ⟨xz (xj w1),4,xw⟩=xk (.int .i64 (Zu h).high)/\a.cell? ⟨xz (xj w1),5,xw⟩=xk (.int .i64 (Zu h).old)/\a.cell? ⟨xz (xj w1),6,xw⟩=xk (.int .i64 (Zu h).far)/\a.cell? ⟨xz (xj t),0,xw⟩=xk (.int .i64 (sz:Nat))/\FwSt w a (xz (xj w)+1) (xz (xj w1)) (xz (xj w4)) (xz (xj K)) (xz (xj w4)+1) (((j:Nat):Int)+1) (at_:Nat) h x/\xz (xj t)<xz (xj a)) u':=by
    rintro u u' ⟨c0,c1,c2,c3,c4,c5,c6,c7,st,hs⟩ p;have hl:=st.lbB;have hz:=st.sz;exact⟨(p.cell ZcS).trans c0,(p.cell ZcS).trans c1,(p.cell ZcS).trans c2,(p.cell ZcS).trans c3,(p.cell ZcS).trans c4,(p.cell ZcS).trans c5,(p.cell ZcS).trans c6,(p.cell hs).trans c7,st.below p,by have:=p.size;omega⟩
   go_region_held3 (λa=>a.cell? ⟨xz (xj w1),0,xw⟩=xk (.int .u64 (Zu h).base)/\a.cell? ⟨xz (xj w1),1,xw⟩=xk (.int .i64 (Zu h).cap)/\a.cell? ⟨xz (xj w1),2,xw⟩=xk (.int .i64 (Zu h).to)/\a.cell? ⟨xz (xj w1),3,xw⟩=xk (.int .i64 (Zu h).low)/\a.cell? ⟨xz (xj w1),4,xw⟩=xk (.int .i64 (Zu h).high)/\a.cell? ⟨xz (xj w1),5,xw⟩=xk (.int .i64 (Zu h).old)/\a.cell? ⟨xz (xj w1),6,xw⟩=xk (.int .i64 (Zu h).far)/\a.cell? ⟨xz (xj t),0,xw⟩=xk (.int .i64 (sz:Nat))/\FwSt w a (xz (xj w)+1) (xz (xj w1)) (xz (xj w4)) (xz (xj K)) (xz (xj w4)+1) (((j:Nat):Int)+1) (at_:Nat) h x/\xz (xj t)<xz (xj a)) (first|exact Q|assumption)
    (first|(go_at_call 70;refine(Mk HH.out.lay _).mono ?_;rintro e j9 ⟨rfl,M⟩;have h3:=L _ _ Q M))
   obtain⟨-,-,-,-,-,-,-,DN,n,j2⟩:=h3;clear Q A L a7 k0 i9 d9 d M d0;rename_i R;clear R;obtain⟨k2,j0,a6,g6,g7⟩:=n.F;rw[E0.out,E1.out,E2.out,E3.out,E4.out]at a6;have l:=n.now.own.own j Z0;rw[EP.out]at l;have i8:=RS l q;clear l hm h8 f4;have f:=ZdP n;clear n;go_wp2;have a5:Xo (Zu h)< (sz:Int)+1:=by have:=g9.out;omega
   have N:fwd h v=(0,Hp.zero,7):=by
    first
    | (have k:j=2:=by omega
       subst k)
    | (have k:j=3:=by omega
       subst k)
    first
    |have B:h.old.getD at_ 0=I:=by show(Zv h 2).getD at_ 0=I;simp[List.getD,q]
    |have B:h.far.getD at_ 0=I:=by show(Zv h 3).getD at_ 0=I;simp[List.getD,q]
    have U:xq h.old=xq (Zv h 2):=rfl;have W:xq h.far=xq (Zv h 3):=rfl;simp[fwd,TB,hr,e8,h1,hf,-List.getD_eq_getElem?_getD,B,U,W,e7,d8,S,Zhs.2 g8.out,a5]
   have y:=UM f.out.res (.int .u64 0) (.int .i64 0) (.int .i64 0) (.bool xh) (.int .i64 0) (.slice xw 0 0) (.slice xw 0 0) (.slice xw 0 0) (.slice xw 0 0) (.slice xw 0 0);rw[N];refine Zey (v:=.tuple #[.int .u64 0,.agg YF,.int .i64 7]) ?_ rfl ?_
   .simp[results,Try.results33,go_sem,y,YF]
   refine⟨λ_=>.slice xw 0 0,?_,?_,Jl _ _⟩;simp[ZO,Hp.zero,YF];exact VY f.out.bel Z0 _ _ _ _ _ _ _ _ _ _
 iterate 2
  focus
   obtain⟨H,P⟩:∃H:Nat,sz+1=H:=⟨_,rfl⟩;have l2:IntKind.i64.wrap ((sz:Int)+1)=(H:Int):=by rw[Zz ((sz:Int)+1) Z0 Z0];omega
   have j1:¬(Xo (Zu h)< (H:Int)):=Z0;have d7:=z.out.now.own.own j Z0;rw[EP.out]at d7;have l8:=Z4q d7 Z0;have m6:(H:Int)<=(qm:Int):=Z0;have m5:(0:Int)<=(H:Int):=Z0;clear d7;have g9:=ZdP P;have i6:=ZdP X;have g8:=ZdP O;clear P X O;have d0:xz (xj t)< xz (xj ((t.alloc (.cells #[.int .i64 (sz:Nat),.int .i64 pt] 52)))):=Z1;clear j7 j8 g5 j5 j6 y7 y8 f7 f8 h9 i0 c7 c8;generalize (t.alloc (.cells #[.int .i64 (sz:Nat),.int .i64 pt] 52))=e6 at*;have A:FwSt w e6 (xz (xj w)+1) (xz (xj w1)) (xz (xj w4)) (xz (xj K)) (xz (xj w4)+1) (((j:Nat):Int)+1) (at_:Nat) h x:=by rw[hj];exact z.out
   have Q:(λa=>a.cell? ⟨xz (xj w1),0,xw⟩=xk (.int .u64 (Zu h).base)/\a.cell? ⟨xz (xj w1),1,xw⟩=xk (.int .i64 (Zu h).cap)/\a.cell? ⟨xz (xj w1),2,xw⟩=xk (.int .i64 (Zu h).to)/\a.cell? ⟨xz (xj w1),3,xw⟩=xk (.int .i64 (Zu h).low)/\a.cell? ⟨xz (xj w1),4,xw⟩=xk (.int .i64 (Zu h).high)/\a.cell? ⟨xz (xj w1),5,xw⟩=xk (.int .i64 (Zu h).old)/\a.cell? ⟨xz (xj w1),6,xw⟩=xk (.int .i64 (Zu h).far)/\a.cell? ⟨xz (xj t),0,xw⟩=xk (.int .i64 (sz:Nat))/\FwSt w a (xz (xj w)+1) (xz (xj w1)) (xz (xj w4)) (xz (xj K)) (xz (xj w4)+1) (((j:Nat):Int)+1) (at_:Nat) h x/\xz (xj t)<xz (xj a)) e6.drew:=⟨d 0,d 1,d 2,d 3,d 4,d 5,d 6,a7 0,A.drew,d0⟩;have L:∀(u u':World),(λa=>a.cell? ⟨xz (xj w1),0,xw⟩=xk (.int .u64 (Zu h).base)/\a.cell? ⟨xz (xj w1),1,xw⟩=xk (.int .i64 (Zu h).cap)/\a.cell? ⟨xz (xj w1),2,xw⟩=xk (.int .i64 (Zu h).to)/\a.cell? ⟨xz (xj w1),3,xw⟩=xk (.int .i64 (Zu h).low)/\a.cell? ⟨xz (xj w1),4,xw⟩=xk (.int .i64 (Zu h).high)/\a.cell? ⟨xz (xj w1),5,xw⟩=xk (.int .i64 (Zu h).old)/\a.cell? ⟨xz (xj w1),6,xw⟩=xk (.int .i64 (Zu h).far)/\a.cell? ⟨xz (xj t),0,xw⟩=xk (.int .i64 (sz:Nat))/\FwSt w a (xz (xj w)+1) (xz (xj w1)) (xz (xj w4)) (xz (xj K)) (xz (xj w4)+1) (((j:Nat):Int)+1) (at_:Nat) h x/\xz (xj t)<xz (xj a)) u->Below (xz (xj u)) u u'->(λa=>a.cell? ⟨xz (xj w1),0,xw⟩=xk (.int .u64 (Zu h).base)/\a.cell? ⟨xz (xj w1),1,xw⟩=xk (.int .i64 (Zu h).cap)/\a.cell? ⟨xz (xj w1),2,xw⟩=xk (.int .i64 (Zu h).to)/\a.cell? ⟨xz (xj w1),3,xw⟩=xk (.int .i64 (Zu h).low)/\a.cell? ⟨xz (xj w1),4,xw⟩=xk (.int .i64 (Zu h).high)/\a.cell? ⟨xz (xj w1),5,xw⟩=xk (.int .i64 (Zu h).old)/\a.cell? ⟨xz (xj w1),6,xw⟩=xk (.int .i64 (Zu h).far)/\a.cell? ⟨xz (xj t),0,xw⟩=xk (.int .i64 (sz:Nat))/\FwSt w a (xz (xj w)+1) (xz (xj w1)) (xz (xj w4)) (xz (xj K)) (xz (xj w4)+1) (((j:Nat):Int)+1) (at_:Nat) h x/\xz (xj t)<xz (xj a)) u':=by
    rintro u u' ⟨c0,c1,c2,c3,c4,c5,c6,c7,st,hs⟩ p;have hl:=st.lbB;have hz:=st.sz;exact⟨(p.cell ZcS).trans c0,(p.cell ZcS).trans c1,(p.cell ZcS).trans c2,(p.cell ZcS).trans c3,(p.cell ZcS).trans c4,(p.cell ZcS).trans c5,(p.cell ZcS).trans c6,(p.cell hs).trans c7,st.below p,by have:=p.size;omega⟩
   go_region_held3 (λa=>a.cell? ⟨xz (xj w1),0,xw⟩=xk (.int .u64 (Zu h).base)/\a.cell? ⟨xz (xj w1),1,xw⟩=xk (.int .i64 (Zu h).cap)/\a.cell? ⟨xz (xj w1),2,xw⟩=xk (.int .i64 (Zu h).to)/\a.cell? ⟨xz (xj w1),3,xw⟩=xk (.int .i64 (Zu h).low)/\a.cell? ⟨xz (xj w1),4,xw⟩=xk (.int .i64 (Zu h).high)/\a.cell? ⟨xz (xj w1),5,xw⟩=xk (.int .i64 (Zu h).old)/\a.cell? ⟨xz (xj w1),6,xw⟩=xk (.int .i64 (Zu h).far)/\a.cell? ⟨xz (xj t),0,xw⟩=xk (.int .i64 (sz:Nat))/\FwSt w a (xz (xj w)+1) (xz (xj w1)) (xz (xj w4)) (xz (xj K)) (xz (xj w4)+1) (((j:Nat):Int)+1) (at_:Nat) h x/\xz (xj t)<xz (xj a)) (first|exact Q|assumption)
    (first|(go_at_call 70;refine(Mk HH.out.lay _).mono ?_;rintro e j9 ⟨rfl,M⟩;have h3:=L _ _ Q M))
   obtain⟨-,-,-,-,-,-,-,DN,n,j2⟩:=h3;clear Q A L a7 k0 i9 d9 d M d0;rename_i R;clear R;obtain⟨k2,j0,a6,g6,g7⟩:=n.F;rw[E0.out,E1.out,E2.out,E3.out,E4.out]at a6;have l:=n.now.own.own j Z0;rw[EP.out]at l;have i8:=RS l q;clear l hm h8 f4;have f:=ZdP n;clear n;have P:=g9.out;have X:=i6.out;have O:=g8.out;have a5:¬Xo (Zu h)< (sz:Int)+1:=Z0;have N:fwd h v=(Tp h (((j:Nat):Int)+1) at_ H,Xi (Xn h (((j:Nat):Int)+1) at_ H) (((j:Nat):Int)+1) ((zr (Zv h j) at_ H).set at_ (Tp h (((j:Nat):Int)+1) at_ H)),0):=by
    first
    | (have k:j=2:=by omega
       subst k)
    | (have k:j=3:=by omega
       subst k)
    first
    |have B:h.old.getD at_ 0=I:=by show(Zv h 2).getD at_ 0=I;simp[List.getD,q]
    |have B:h.far.getD at_ 0=I:=by show(Zv h 3).getD at_ 0=I;simp[List.getD,q]
    have U:xq h.old=xq (Zv h 2):=rfl;have W:xq h.far=xq (Zv h 3):=rfl;subst P;simp only[fwd,hr,e8,h1,hf,Zeu,Zer,Zfn,ne_eq,Zht];simp[-List.getD_eq_getElem?_getD,B,e7,d8,S,TB,U,W,Zhs.2 O,a5];exact⟨rfl,rfl⟩
   have HC:=ZdP (Z0d j9 (xz (xj w4)+1) (xz (xj K)) h x f.out.now f.out.sz HH.out j at_ H Z0 Z0 Z0 Z0 g qj EP.out Z0 qm);have i4:=ZdP N;clear P X O N a5;have i5:=ZdP f.out.res;go_wp2_with (first|(go_at_call 71;go_loud (refine HC.out.mono ?_;rintro e f1 ⟨x',rfl,Z,r⟩;have J:=(Z.block _ f.out.rbB).trans i5.out;have c9:=f.out.bel.trans (Z.mono (by have:=f.out.old;have:=f.out.rbB;omega));obtain⟨b0,r0,g0⟩:=Yw (r.own.own 0 Z0);obtain⟨b1,r1,g1⟩:=Yw (r.own.own 1 Z0);obtain⟨b2,r2,g2⟩:=Yw (r.own.own 2 Z0);obtain⟨b3,r3,g3⟩:=Yw (r.own.own 3 Z0);obtain⟨b4,r4,g4⟩:=Yw (r.own.own 4 Z0);have e5:=r.blk;have e1:fwd h v=(Tp h (((j:Nat):Int)+1) at_ H,_,0):=i4.out;generalize n9:Tp h (((j:Nat):Int)+1) at_ H=to at*;generalize Xi (Xn h (((j:Nat):Int)+1) at_ H) (((j:Nat):Int)+1) ((zr (Zv h j) at_ H).set at_ to)=C at*;rw[g0,g1,g2,g3,g4]at e5)))
   have l5:∀j,f1.cell? ⟨xz (xj w)+1,j,xw⟩=YF[j]? :=λj=>ZdT _ _ _ _ _ _ J;unfold YF at l5;have m8:∀j,f1.frozen? ⟨xz (xj w)+1,j,xw⟩=xh:=λj=>Yz J;have m7:∀j,f1.cell? ⟨xz (xj K),j,xw⟩=(#[.int .u64 C.base,.int .i64 C.cap,.int .i64 C.to,.bool C.cycle,.int .i64 C.scan,.slice b0 (xq (Zv C 0)) r0,.slice b1 (xq (Zv C 1)) r1,.slice b2 (xq (Zv C 2)) r2,.slice b3 (xq (Zv C 3)) r3,.slice b4 (xq (Zv C 4)) r4]:Array Value)[j]? :=λj=>ZdT _ _ _ _ _ _ e5;have m1:=c9.size;have l7:xz (xj w4)+1<=xz (xj f1):=by have:=Z.size;have:=f.out.sz;omega
   have f3:=ZdP r;have i3:=ZdP c9;have h0:=ZdP J;have G0:=ZdP g0;have G1:=ZdP g1;have G2:=ZdP g2;have G3:=ZdP g3;have G4:=ZdP g4;clear e5 r c9 Z J g0 g1 g2 g3 g4 k2 j0 a6 g6 g7;go_region;all_goals
    go_wp2;try simp only[Exit.inBlock,Exit.then]
    have y:=UM h0.out (.int .u64 C.base) (.int .i64 C.cap) (.int .i64 C.to) (.bool C.cycle) (.int .i64 C.scan) (.slice b0 (xq (Zv C 0)) r0) (.slice b1 (xq (Zv C 1)) r1) (.slice b2 (xq (Zv C 2)) r2) (.slice b3 (xq (Zv C 3)) r3) (.slice b4 (xq (Zv C 4)) r4);rw[i4.out];refine Zey (v:=.tuple #[.int .u64 to,ZO C x',.int .i64 0]) ?_ rfl ?_
    .unfold ZO;rw[G0.out,G1.out,G2.out,G3.out,G4.out];simp[results,Try.results33,go_sem,y]
    refine⟨x',rfl,?_,?_⟩;exact(VY i3.out Z0 _ _ _ _ _ _ _ _ _ _).drew;refine⟨λj hj=> ?_,f3.out.own.apart⟩;have ho:=f3.out.own.own j hj;refine yg (Wy ho ?_) ?_;intro c hc;have n0:=(ho.lt c hc).1;exact Bv Z0 _ _ _ _ _ _ _ _ _ _;intro c h1 h2;exact⟨Z0,h2⟩
def O8(w:World)(G:Nat->Prop)(y:∀b,G b->b<U (R w))(h:Hp)(t:h.ok)(f:Nat->Value)(B:∀j,j<5->Rd w G (.sl ((Zv h j).map vu)) (f j))(v:Int)(C:ZC v)
  (A:ZH (Zu h)=xy) (o:¬v=0) (x:(adr v).2=0) (h2:(Ya (Zu h) (adr v).1).2.2=0):
  Calls Sol.prog 33 #[ZO h f,.int .u64 v] w (Qd w (fwd h v)):=by
 obtain⟨_,K,L,M,D,_⟩:=Z0M h2;rw[UO ⟨K,L⟩]at D;obtain⟨k,J⟩:=ZdV M;have z:Ya (Zu h) (adr v).1=((Ya (Zu h) (adr v).1).1,(k:Int),0):=by rw[<-J,<-h2]
 rw[J]at D;generalize (Ya (Zu h) (adr v).1).1=part at*;have:(part=1\/part=2)\/(part=3\/part=4):=Z0;obtain r|r:=this;exact Oa w G y h t f B v C A o x part k z r;obtain⟨j,F,I⟩:∃j:Nat,((j:Nat):Int)+1=part/\Zx h part=Zv h j:=by
  obtain rfl|rfl:=r;exact⟨2,rfl,rfl⟩;exact⟨3,rfl,rfl⟩
 have d:=(XE t part).1;rw[I]at D d;have g:k< xq (Zv h j):=Z0;have q:(Zv h j)[k]?=xk (Zv h j)[k]:=ZdG g;replace d:=d _ (Ze0 g);generalize (Zv h j)[k]=l at*;by_cases p:(adr l).2=0;exact O9 w G y h t f B v C A o x part k z j F r l q g d p;by_cases a:(ZP l).2.2=0;have P:=Yv.1 (Ct (w:=l) a);obtain⟨n,O⟩:=ZdV P.1;refine CU w G y h t f B v C A o x part k z j F r l q g d p n (ZP l).2.1 (ZP l).2.2 (by rw[<-O]) Z0 ?_;by_cases H:xq (Zv h j)<k+(n+1);exact .inr (.inl ⟨a,H⟩);by_cases u:Xo (Zu h)< ((n+1:Nat):Int);exact .inr (.inr (.inl ⟨a,Z0,u⟩));exact .inr (.inr (.inr ⟨a,Z0,u⟩));have N:ZP l=(((0:Nat):Int),(ZP l).2.1,(ZP l).2.2):=by
  unfold ZP at a⊢;split;rename_i c;rw[if_pos c]at a;exact absurd rfl a;rfl
 exact CU w G y h t f B v C A o x part k z j F r l q g d p 0 _ _ N Z0 (.inl a)
end Vm
namespace Vm
open Go Go.Proofs Go.RowKit
def Oc(w:World)(G:Nat->Prop)(t:∀b,G b->b<xz (xj w))(h:Hp)(hh:h.ok)(a:Nat->Value)(hs:∀j,j<5->Rd w G (.sl ((Zv h j).map vu)) (a j))(v:Int)(T:ZC v):
  Calls Sol.prog 33 #[ZO h a,.int .u64 v] w (Qd w (fwd h v)):=by
 have M:=ZdP hs;have K:=ZdP hh;clear hs hh;by_cases z:ZH (Zu h)=xy/\¬v=0/\(adr v).2=0/\(Ya (Zu h) (adr v).1).2.2=0;exact O8 w G t h K.out a M.out v T z.1 z.2.1 z.2.2.1 z.2.2.2;unfold ZO;go_enter Sol.func33,Try.ntmps33;cases D:ZH (Zu h)
 .go_wp2_with (first
   |(go_at_call 64;refine(Tr (h:=h) (x:=a) (G:=G) (λc H=>by have:=t c H;simp;omega) (λj A=>(M.out j A).keep (λb u=>by have:=t b u;rw[ZdN _ _ _ (by simp;omega),ZdN _ _ _ (by omega)]) (λ_ h=>h))).mono ?_;rintro e w1 ⟨rfl,d⟩;unfold Ve;have L:=(d.block (xz (xj w)+1) (by simp)).trans (Qa w _);have q:=d.size;simp at q;have n:=ZdP d;clear d)
   |(go_at_call 65;refine(RY K.out.lay _).mono ?_;rintro e w2 ⟨rfl,f⟩;rw[D];have I:=(f.block (xz (xj w)+1) (by simp;omega)).trans ((ZdN w1 _ (xz (xj w)+1) (by omega)).trans L);have y2:∀j,w2.cell? ⟨xz (xj w)+1,j,xw⟩=YF[j]? :=λj=>ZdT _ _ _ _ _ _ I;have f2:∀j,w2.frozen? ⟨xz (xj w)+1,j,xw⟩=xh:=λj=>Yz I;unfold YF at y2;have U:=ZdP f;clear f))
  have y:=UM I (.int .u64 0) (.int .i64 0) (.int .i64 0) (.bool xh) (.int .i64 0) (.slice xw 0 0) (.slice xw 0 0) (.slice xw 0 0) (.slice xw 0 0) (.slice xw 0 0);refine Zey (v:=.tuple #[.int .u64 0,.agg YF,.int .i64 1]) Zds rfl ⟨λ_=>.slice xw 0 0,?_,VY ?_ Z0 _ _ _ _ _ _ _ _ _ _,?_⟩;simp[fwd,D,ZO,Hp.zero,YF];exact((((((Zef _ _).alloc (ZdL _) _).alloc Z1 _).trans (n.out.mono ZcL)).alloc Z0 _).trans (U.out.mono ZcL));have:(fwd h v).2.1=Hp.zero:=by simp[fwd,D]
  rw[this];exact Jl _ _
 .by_cases Q:v=0
  .subst Q
   go_wp2_with (first
    |(go_at_call 64;refine(Tr (h:=h) (x:=a) (G:=G) (λc H=>by have:=t c H;simp;omega) (λj A=>(M.out j A).keep (λb u=>by have:=t b u;rw[ZdN _ _ _ (by simp;omega),ZdN _ _ _ (by omega)]) (λ_ h=>h))).mono ?_;rintro e w1 ⟨rfl,d⟩;unfold Ve;have L:=(d.block (xz (xj w)+1) (by simp)).trans (Qa w _);have O:=(d.block (xz (xj w)) (by simp;omega)).trans ((ZdN (w.alloc (.cells #[.int .u64 h.base,.int .i64 h.cap,.int .i64 h.to,.bool h.cycle,.int .i64 h.scan,a 0,a 1,a 2,a 3,a 4] 37)) _ (xz (xj w)) (by simp)).trans (Ze7 w _));have q:=d.size;simp at q;have n:=ZdP d;clear d)
    |(go_at_call 65;refine(RY K.out.lay _).mono ?_;rintro e w2 ⟨rfl,f⟩;rw[D];have I:=(f.block (xz (xj w)+1) (by simp;omega)).trans ((ZdN w1 _ (xz (xj w)+1) (by omega)).trans L);have p2:=(f.block (xz (xj w)) (by simp;omega)).trans ((ZdN w1 _ (xz (xj w)) (by omega)).trans O);have x2:∀j,w2.cell? ⟨xz (xj w),j,xw⟩=(#[.int .u64 h.base,.int .i64 h.cap,.int .i64 h.to,.bool h.cycle,.int .i64 h.scan,a 0,a 1,a 2,a 3,a 4]:Array Value)[j]? :=λj=>ZdT _ _ _ _ _ _ p2;have k:Below (xz (xj w)) w w2:=((((((Zef _ _).alloc (ZdL _) _).alloc (by simp) _).trans (n.out.mono (by simp;omega))).alloc (by omega) _).trans (f.mono (by simp;omega)));have B:=f.size;simp at B;have l:=ZdP k;clear f k)
    |(go_at_call 66;refine(Li _ G (λb u=>by have:=t b u;omega) h K.out a (λj A=>(M.out j A).keep (λb u=>l.out.block b (t b u)) (λ_ h=>h))).mono ?_;rintro e w3 ⟨x,rfl,g,p⟩;obtain⟨a0,q0,Z⟩:=Yw (p.own 0 Z0);obtain⟨a1,q1,e1⟩:=Yw (p.own 1 Z0);obtain⟨a2,q2,e2⟩:=Yw (p.own 2 Z0);obtain⟨a3,q3,e3⟩:=Yw (p.own 3 Z0);obtain⟨a4,q4,e4⟩:=Yw (p.own 4 Z0);unfold ZO;rw[Z,e1,e2,e3,e4];have C:=(g.block (xz (xj w)+1) Z0).trans I;have P:∀j,w3.cell? ⟨xz (xj w)+1,j,xw⟩=YF[j]? :=λj=>ZdT _ _ _ _ _ _ C;have f3:∀j,w3.frozen? ⟨xz (xj w)+1,j,xw⟩=xh:=λj=>Yz C;unfold YF at P;have r:=ZdP g;have N:=ZdP p;clear g p))
   have y:=UM C (.int .u64 h.base) (.int .i64 h.cap) (.int .i64 h.to) (.bool h.cycle) (.int .i64 h.scan) (.slice a0 (xq (Zv h 0)) q0) (.slice a1 (xq (Zv h 1)) q1) (.slice a2 (xq (Zv h 2)) q2) (.slice a3 (xq (Zv h 3)) q3) (.slice a4 (xq (Zv h 4)) q4);have J:fwd h 0=(0,h,0):=by simp[fwd,D]
   refine Zey (v:=.tuple #[.int .u64 0,ZO h x,.int .i64 0]) (by unfold ZO;rw[Z,e1,e2,e3,e4];simp[results,Try.results33,go_sem,y]) rfl ⟨x,?_,VY (l.out.trans (r.out.mono Z0)) Z0 _ _ _ _ _ _ _ _ _ _,?_⟩;rw[J];rw[J];refine⟨λj A=> ?_,N.out.apart⟩;have ho:=N.out.own j A;refine yg (B':=xz (xj w2)) (Wy ho λc H=>Kz (by have:=(ho.lt c H).1;omega) _ _ _ _ _ _ _ _ _ _) (λc R S=>⟨Z0,S⟩)
  .have X:¬(v=0):=Q;by_cases R:(adr v).2=0
   .by_cases S:(Ya (Zu h) (adr v).1).2.2=0;exact(z ⟨D,X,R,S⟩).elim
    .go_wp2_with (first
     |(go_at_call 64;refine(Tr (h:=h) (x:=a) (G:=G) (λc H=>by have:=t c H;simp;omega) (λj A=>(M.out j A).keep (λb u=>by have:=t b u;rw[ZdN _ _ _ (by simp;omega),ZdN _ _ _ (by omega)]) (λ_ h=>h))).mono ?_;rintro e w1 ⟨rfl,d⟩;unfold Ve;have L:=(d.block (xz (xj w)+1) (by simp)).trans (Qa w _);have O:=(d.block (xz (xj w)) (by simp;omega)).trans ((ZdN (w.alloc (.cells #[.int .u64 h.base,.int .i64 h.cap,.int .i64 h.to,.bool h.cycle,.int .i64 h.scan,a 0,a 1,a 2,a 3,a 4] 37)) _ (xz (xj w)) (by simp)).trans (Ze7 w _));have q:=d.size;simp at q;have n:=ZdP d;clear d)
     |(go_at_call 65;refine(RY K.out.lay _).mono ?_;rintro e w2 ⟨rfl,f⟩;rw[D];have I:=(f.block (xz (xj w)+1) (by simp;omega)).trans ((ZdN w1 _ (xz (xj w)+1) (by omega)).trans L);have p2:=(f.block (xz (xj w)) (by simp;omega)).trans ((ZdN w1 _ (xz (xj w)) (by omega)).trans O);have x2:∀j,w2.cell? ⟨xz (xj w),j,xw⟩=(#[.int .u64 h.base,.int .i64 h.cap,.int .i64 h.to,.bool h.cycle,.int .i64 h.scan,a 0,a 1,a 2,a 3,a 4]:Array Value)[j]? :=λj=>ZdT _ _ _ _ _ _ p2;have k:Below (xz (xj w)) w w2:=((((((Zef _ _).alloc (ZdL _) _).alloc (by simp) _).trans (n.out.mono (by simp;omega))).alloc (by omega) _).trans (f.mono (by simp;omega)));have B:=f.size;simp at B;have m2:=(f.block (xz (xj w1)) (by simp)).trans (Ze7 w1 _);have l:=ZdP k;clear f k)
     |(go_at_call 44;refine(VL T _).mono ?_;rintro e w3 ⟨rfl,g⟩;have C:=(g.block (xz (xj w)+1) (by omega)).trans I;have P:∀j,w3.cell? ⟨xz (xj w)+1,j,xw⟩=YF[j]? :=λj=>ZdT _ _ _ _ _ _ C;have f3:∀j,w3.frozen? ⟨xz (xj w)+1,j,xw⟩=xh:=λj=>Yz C;unfold YF at P;have m3:=(g.block (xz (xj w1)) (by omega)).trans m2;have l3:∀j,w3.cell? ⟨xz (xj w1),j,xw⟩=(#[.int .u64 (Zu h).base,.int .i64 (Zu h).cap,.int .i64 (Zu h).to,.int .i64 (Zu h).low,.int .i64 (Zu h).high,.int .i64 (Zu h).old,.int .i64 (Zu h).far]:Array Value)[j]? :=λj=>ZdT _ _ _ _ _ _ m3;have a5:=g.size;have r:=ZdP g;clear g)
     |(go_at_call 67;refine(LN K.out.lay (Ln T) _).mono ?_;rintro e w4 ⟨rfl,F⟩;have a6:=F.size;have Y:∀o,(w4.alloc o).heap[xz (xj w)+1]?=xk (.cells YF 37 (0,0)):=λo=>(ZdN w4 o (xz (xj w)+1) (by omega)).trans ((F.block (xz (xj w)+1) (by omega)).trans C);have y4:∀o j,(w4.alloc o).cell? ⟨xz (xj w)+1,j,xw⟩=YF[j]? :=λo j=>ZdT _ _ _ _ _ _ (Y o);have f4:∀o j,(w4.alloc o).frozen? ⟨xz (xj w)+1,j,xw⟩=xh:=λo j=>Yz (Y o);unfold YF at y4;have W:=ZdP F;clear F))
     have y:=UM (Y (.cells #[.int .i64 (Ya (Zu h) (adr v).1).1,.int .i64 (Ya (Zu h) (adr v).1).2.1] 72)) (.int .u64 0) (.int .i64 0) (.int .i64 0) (.bool xh) (.int .i64 0) (.slice xw 0 0) (.slice xw 0 0) (.slice xw 0 0) (.slice xw 0 0) (.slice xw 0 0);have J:fwd h v=(0,Hp.zero,6):=by simp[fwd,D,Q,R,S]
     refine Zey (v:=.tuple #[.int .u64 0,.agg YF,.int .i64 6]) Zds rfl ⟨λ_=>.slice xw 0 0,?_,VY (((l.out.trans (r.out.mono Z0)).trans (W.out.mono Z0)).alloc Z0 _) Z0 _ _ _ _ _ _ _ _ _ _,?_⟩;rw[J];simp[ZO,Hp.zero,YF];rw[J];exact Jl _ _
   .go_wp2_with (first
    |(go_at_call 64;refine(Tr (h:=h) (x:=a) (G:=G) (λc H=>by have:=t c H;simp;omega) (λj A=>(M.out j A).keep (λb u=>by have:=t b u;rw[ZdN _ _ _ (by simp;omega),ZdN _ _ _ (by omega)]) (λ_ h=>h))).mono ?_;rintro e w1 ⟨rfl,d⟩;unfold Ve;have L:=(d.block (xz (xj w)+1) (by simp)).trans (Qa w _);have O:=(d.block (xz (xj w)) (by simp;omega)).trans ((ZdN (w.alloc (.cells #[.int .u64 h.base,.int .i64 h.cap,.int .i64 h.to,.bool h.cycle,.int .i64 h.scan,a 0,a 1,a 2,a 3,a 4] 37)) _ (xz (xj w)) (by simp)).trans (Ze7 w _));have q:=d.size;simp at q;have n:=ZdP d;clear d)
    | (go_at_call 65;refine(RY K.out.lay _).mono ?_;rintro e w2 ⟨rfl,f⟩;rw[D];have I:=(f.block (xz (xj w)+1) (by simp;omega)).trans ((ZdN w1 _ (xz (xj w)+1) (by omega)).trans L);have p2:=(f.block (xz (xj w)) (by simp;omega)).trans ((ZdN w1 _ (xz (xj w)) (by omega)).trans O);have x2:∀j,w2.cell? ⟨xz (xj w),j,xw⟩=(#[.int .u64 h.base,.int .i64 h.cap,.int .i64 h.to,.bool h.cycle,.int .i64 h.scan,a 0,a 1,a 2,a 3,a 4]:Array Value)[j]? :=λj=>ZdT _ _ _ _ _ _ p2;have k:Below (xz (xj w)) w w2:=((((((Zef _ _).alloc (ZdL _) _).alloc (by simp) _).trans (n.out.mono (by simp;omega))).alloc (by omega) _).trans (f.mono (by simp;omega)));have B:=f.size;simp at B;have l:=ZdP k;clear f k)
      |(go_at_call 44;refine(VL T _).mono ?_;rintro e w3 ⟨rfl,g⟩;have C:=(g.block (xz (xj w)+1) (by omega)).trans I;have P:∀j,w3.cell? ⟨xz (xj w)+1,j,xw⟩=YF[j]? :=λj=>ZdT _ _ _ _ _ _ C;have f3:∀j,w3.frozen? ⟨xz (xj w)+1,j,xw⟩=xh:=λj=>Yz C;unfold YF at P;have r:=ZdP g;clear g))
    have y:=UM C (.int .u64 0) (.int .i64 0) (.int .i64 0) (.bool xh) (.int .i64 0) (.slice xw 0 0) (.slice xw 0 0) (.slice xw 0 0) (.slice xw 0 0) (.slice xw 0 0);have J:fwd h v=(0,Hp.zero,3):=by simp[fwd,D,Q,R]
    refine Zey (v:=.tuple #[.int .u64 0,.agg YF,.int .i64 3]) Zds rfl ⟨λ_=>.slice xw 0 0,?_,VY (l.out.trans (r.out.mono Z0)) Z0 _ _ _ _ _ _ _ _ _ _,?_⟩;rw[J];simp[ZO,Hp.zero,YF];rw[J];exact Jl _ _
end Vm
namespace Vm
open Go Go.Proofs Go.RowKit
def SP{w:World}{G:Nat->Prop}{k:IntKind}{n:Int}{v:Value}(r:Rd w G (.int k n) v):v=.int k n:=by cases r;rfl
def Z5s{w:World}{G:Nat->Prop}{b:Bool}{v:Value}(r:Rd w G (.bool b) v):v=.bool b:=by cases r;rfl
def Fg{w:World}{G:Nat->Prop}{h:Hp}{v:Value}(r:Rd w G (ZJ h) v):∃f,v=ZO h f/\∀j,j<5->Rd w G (.sl ((Zv h j).map vu)) (f j):=by
 cases r with
 |agg _ vs t _ a=>
  refine⟨λj=>vs.getD (5+j) undef,?_,?_⟩;have g:=SP (a 0 _ rfl);have k:=SP (a 1 _ rfl);have l:=SP (a 2 _ rfl);have n:=Z5s (a 3 _ rfl);have o:=SP (a 4 _ rfl);have d:vs.size=10:=t;unfold ZO;rw[<-g,<-k,<-l,<-n,<-o];congr 1;apply ZgO;simp[d];intro i u x;have p:i<10:=Z0
  match i,p with
  |0,_|1,_|2,_|3,_|4,_|5,_|6,_|7,_|8,_|9,_=>simp[Array.getD,d]
  intro j q
  match j,q with
  |0,_=>exact a 5 _ rfl
  |1,_=>exact a 6 _ rfl
  |2,_=>exact a 7 _ rfl
  |3,_=>exact a 8 _ rfl
  |4,_=>exact a 9 _ rfl
def Ff{w:World}{G:Nat->Prop}{h:Hp}{x:Nat->Value}(d:∀j,j<5->Rd w G (.sl ((Zv h j).map vu)) (x j)):Rd w G (ZJ h) (ZO h x):=by
 refine .agg _ _ rfl (by simp[V.one]) ?_;intro i y a
 match i,a with
 |0,a=>cases a;exact .int _ _
 |1,a=>cases a;exact .int _ _
 |2,a=>cases a;exact .int _ _
 |3,a=>cases a;exact .bool _
 |4,a=>cases a;exact .int _ _
 |5,a=>cases a;exact d 0 Z0
 |6,a=>cases a;exact d 1 Z0
 |7,a=>cases a;exact d 2 Z0
 |8,a=>cases a;exact d 3 Z0
 |9,a=>cases a;exact d 4 Z0
end Vm
end
section
namespace Vm
open Go Go.Proofs Go.RowKit
def Rd.slfT{w:Z4}{G:Z3}{l:Zn}{v:Ze}(h:Rd w G (.sl l) v):∃a c,v=.slice a (P l) c:=by
 cases h with
 |nil a cap _=>exact⟨a,cap,rfl⟩
 |sl l b o cap k vs=>exact⟨_,cap,rfl⟩
def append_empty{P:Z5}{w:Z4}{t ty e:Zg}(u:P.underlying t=xk (.slice e))(o:U5 P e=xy)(p a:Addr)(n c:Nat)(d:Zl)(r:xq d=n*P.cellsOf e)(f:∀j v,d[j]?=xk v->w.cell? (a.add j)=xk v)(y:0<n)(h:n<=Y4):
  (Builtin.append_ #[t,t] ty #[.slice (xk p) 0 0,.slice (xk a) n c]).run P w=(Builtin.append_ #[t,t] ty #[.slice xw 0 0,.slice (xk a) n c]).run P w:=by
 obtain⟨i,z,q,x,C,D,l,k⟩:=Ri o;simp only[Y4]at h;have g:n*i.bytes<=140737488355328:=by
  have:n*i.bytes<=4294967296*32768:=Zhl h l;omega
 rw[run_append_nil (P:=P) w t ty e i z u q x a n c d (by rw[r,k]) f y Z0 Z0];have A:=run_append_grow (P:=P) w t ty e i z u q x p 0 0 [] Z1 (λj v B=>by simp at B) a n c d (by rw[r,k]) f Z0 Z0 (ZhY Z0 (by simpa using g));simpa using A
def OF{w:Z4}(f:Option Addr){ty:Zg}{G:Z3}{l:Z8}{y:Ze}(hl:xq l<=1000000)(N:Rd w G (.sl (l.map vu)) y):
  ∃C h,(Builtin.append_ #[35,35] ty #[.slice f 0 0,y]).run Sol.prog w=.ok C h/\Below (xz (xj w)) w h/\Rd h (λc=>xz (xj w)<=c/\c<xz (xj h)) (.sl (l.map vu)) C:=by
 have F:=Sol.underlying35;have g:∀(w:Z4),Rd w (λc=>xz (xj w)<=c/\c<xz (xj w)) (.sl ([]:List V)) (.slice f 0 0):=λw=>.nil _ _ Zdl;by_cases t:l=[];subst t;obtain⟨i,z,Y,hz,a0,d,W,X⟩:=Ri (P:=Sol.prog) JG;have hv:∃a c,y=.slice a 0 c:=by
  obtain⟨a,c,e⟩:=Rd.slfT N;exact⟨a,c,by simpa using e⟩
 obtain⟨a,c,rfl⟩:=hv;refine⟨.slice f 0 0,w,?_,Zef _ _,g w⟩;cases a<;>cases f<;>simp[Builtin.append_,Zev F,Go.sizeOf,typeInfo,Y,Builtin.lenOf,Builtin.firstCells,loadCells,loadCellsFrom,storeCells]
 have S:0<xq l:=Zgq.2 t;have key:(Builtin.append_ #[35,35] ty #[.slice f 0 0,y]).run Sol.prog w=(Builtin.append_ #[35,35] ty #[.slice xw 0 0,y]).run Sol.prog w:=by
  obtain _|f:=f;rfl;have p:=N;generalize A:l.map vu=L at p;cases p with
  |nil=>simp at A;exact absurd A t
  |sl _ b o cap kk vs d k T U D O=>
   have R:xq L=xq l:=by rw[<-A,Zek]
   have H:kk=1:=by
    obtain⟨x,hx⟩:=Zhj l t;have:=(U (vu x) (by rw[<-A];exact Zfw hx)).1;simpa using this.symm
   subst H;refine append_empty (P:=Sol.prog) F JG f ⟨b,o,xw⟩ _ cap ((List.range (xq L)).map vs) (by rw[Rf];simp) (λj u Q=> ?_) Z0 (by simp only[Y4];omega);have J:j<xq L:=by simpa using(ZdH.1 Q).1
   have M:vs j=u:=by simpa[J]using Q
   rw[Zfp,<-M];exact D j Z0
 obtain⟨C,h,q,K,d,k,T,_,D⟩:=yQ (P:=Sol.prog) (ty:=ty) (B:=xz (xj w)) (n:=0) (xs:=[]) F JG (Zf7 w _ _ _) (ZdL _) N (by rw[Rf];exact qe _) (by simp only[Y4,Zek];omega);rw[Rf]at d;have I:xq q=xq l:=by have:=d.1;simpa using this
 have O:=As D I;rw[O]at d;simp only[Zek,Zet,ZeA]at d;refine⟨C,h,key.trans K,?_,yf d λc d k=>⟨d,k⟩⟩;have Z:(Value.slice xw 0 0).ownBlock=xw:=rfl;rw[Z]at k;exact Below.grown (Zef _ _) k (ZdL _) (λr K=>by cases K)
def Z8h{w:Z4}{o:Oper}{a:Act}{K:Act->World->Prop}{Q:Zh}(s x:Operand)
  (p:o.op=.call {callee:=.builtin .append,args:=#[s,x],argTypes:=#[35,35]}) {g:Option Addr} {y:Ze} (r:a.eval s=.slice g 0 0) (hx:a.eval x=y)
  {G:Z3} {l:Z8} (n:P l<=1000000) (t:Rd w G (.sl (l.map vu)) y)
  (h:∀f d,Below (U (R w)) w d->Rd d (λc=>U (R w)<=c/\c<U (R d)) (.sl (l.map vu)) f->K (a.put o.dst f) d):o.wp Sol.prog a w K Q:=by
 obtain⟨f,d,q,j,k⟩:=OF g (ty:=o.type) n t;unfold Oper.wp execOp;simp only[p,resolve,invoke,builtin,Zel,ZfC,Zem,Zhy,Zee,Zfm,r,hx,q];exact h f d j k
def Z8e{w:Z4}{ops:Zq}{rest:List Oper}{o:Oper}{a:Act}{Q:Zh}(g:o.guard=xw)(s x:Operand)
  (r:o.op=.call {callee:=.builtin .append,args:=#[s,x],argTypes:=#[35,35]}) {j:Option Addr} {y:Ze} (t:a.eval s=.slice j 0 0) (hx:a.eval x=y)
  {G:Z3} {l:Z8} (q:P l<=1000000) (u:Rd w G (.sl (l.map vu)) y)
  (h:∀f d,Below (U (R w)) w d->Rd d (λc=>U (R w)<=c/\c<U (R d)) (.sl (l.map vu)) f->wpList Sol.prog ops Q rest (a.put o.dst f) d):wpList Sol.prog ops Q (o::rest) a w:=
 wpList_plain g λ_ p=>Z8h s x r t hx q u λf d k n=>p _ _ (h f d k n)
def Z0G(w:Z4)(n c:Nat):Sem.run Sol.prog (binOp .eql 35 (.slice xw n c) (.slice xw 0 0)) w=.ok (.bool xy) w:=Zdz
def Z0H(w:Z4)(a:Addr)(n c:Nat):Sem.run Sol.prog (binOp .eql 35 (.slice (xk a) n c) (.slice xw 0 0)) w=.ok (.bool xh) w:=Zdz
def O5(w:Z4){G:Z3}(x:∀b,G b->b<U (R w)){l:Z8}{y:Ze}(A:P l<=1000000)(g:Rd w G (.sl (l.map vu)) y):
  Calls Sol.prog 114 #[y] w λe k=>∃v,e=.returned v/\Below (U (R w)) w k/\Rd k (λc=>U (R w)<=c/\c<U (R k)) (.sl (l.map vu)) v:=by
 obtain⟨a,c,rfl⟩:=Rd.slfT g;cases a with
 |none=>
  have u:l=[]:=by
   generalize z:l.map vu=L at g;cases g with
   |nil=>simpa using z
  subst u;have q:=Z0G w 0 c;go_enter Sol.func114,Try.ntmps114;simp only[Zfm,Zfg];go_wp2;exact Zey (v:=.slice xw 0 0) (by simp[results,Try.results114,go_sem]) rfl ⟨_,rfl,Zef _ _,.nil _ _ Zdl⟩
 |some p=>
  have q:=Z0H w p (P l) c;go_enter Sol.func114,Try.ntmps114;have h:Rd (w.alloc (.cells #[] 24)) G (.sl (l.map vu)) (.slice (xk p) (P (l.map vu)) c):=g.keep (λb d=>ZdN _ _ _ (x b d)) λ_ q=>q;have f:Below (U (R w)) w (w.alloc (.cells #[] 24)):=(Zef _ _).alloc (ZdL _) _;have j:U (R (w.alloc (.cells #[] 24)))=U (R w)+1:=Z1;have n:=ZdP (And.intro f j);clear f j g;go_wp2_with (at_builtin;refine Z8e rfl _ _ rfl rfl rfl A h ?_;intro t k d r;have o:=ZdP (And.intro d r);clear d r h)
  refine Zey (v:=t) (by simp[results,Try.results114,go_sem]) rfl ⟨t,rfl,n.out.1.trans (o.out.1.mono (by rw[n.out.2];omega)),o.out.2.mono λb d=>⟨by have:=n.out.2;omega,d.2⟩⟩
end Vm
end
section
namespace Vm
open Go
open Go.Proofs
def I3:Fn:=⟨5,[0,1,2,3,4],
pQ [pR [(1,pS 0 10),pV 2 pF],pC [pK 5 51 [.mm 1 0 10]] [pV 3 (.ext (.s 5) 0),pV 4 (.ext (.s 5) 1)],pR [pV 2 (.s 4)]] .ret,[(2,.v)]⟩
def PP:ZK Sol.prog fresh sig [.fz] [] Try.f25=xk I3:=Z2
def I4:Fn:=⟨8,[0,1,2,4,5,6,7,22],
pQ [pR [(2,pS 0 10),pV 3 pN,pV 4 (pI 0)],pC [pK 8 51 [.mm 2 0 10]] [pV 5 (.ext (.s 8) 0),pV 6 (.ext (.s 8) 1)],pQ [.reg ⟨[.lt 9 [] (.un .not (.s 6)),.lt 10 [] (.ite (.s 9) pT (.bin .lss (.s 1) (pI 1)))],[([(9,xh)],.bin .lss (.s 1) (pI 1)),([(10,xh)],.bin .gtr (.s 1) (pI 4))],[pV 7 (.ite (.s 10) pT (.bin .gtr (.s 1) (pI 4)))]⟩] (.cond (.s 7) (pQ [pR [pV 4 (pI 1)]] .ret) .skip),pR [pV 3 (.fld (.ai (.flds (.star (.s 5)) 17 4) (.bin .sub (.s 1) (pI 1)) 4 1 xy) 0),pV 4 (pI 0)]] .ret,[(3,.v),(4,.v)]⟩
def PQ:ZK Sol.prog fresh sig [.fz,.fz] [] Try.f27=xk I4:=Z2
def Ig:Fn:=⟨12,[0,1,2,3,13,4,16,15,17,6,14,24],
pQ [pR [(1,pS 0 10),pV 2 (.c (.nul 0)),pV 3 pF],.reg ⟨[pK 12 64 [.mm 1 0 10]],[([],.ag [.fld (.mm 1 0 10) 0,.fld (.mm 1 0 10) 1,.fld (.mm 1 0 10) 2,.fld (.mm 1 0 10) 3,.fld (.mm 1 0 10) 4,.fld (.mm 1 0 10) 5,.fld (.mm 1 0 10) 6,.fld (.mm 1 0 10) 7,.fld (.mm 1 0 10) 8,.fld (.mm 1 0 10) 9,.fld (.sz (.s 12) 7) 0,.fld (.sz (.s 12) 7) 1,.fld (.sz (.s 12) 7) 2,.fld (.sz (.s 12) 7) 3,.fld (.sz (.s 12) 7) 4,.fld (.sz (.s 12) 7) 5,.fld (.sz (.s 12) 7) 6,pN,pN,pN,pN,.c (.mp 0 [] []),.c (.mp 0 [] [])])],[(5,.m [.fld (.mm 1 0 10) 0,.fld (.mm 1 0 10) 1,.fld (.mm 1 0 10) 2,.fld (.mm 1 0 10) 3,.fld (.mm 1 0 10) 4,.fld (.mm 1 0 10) 5,.fld (.mm 1 0 10) 6,.fld (.mm 1 0 10) 7,.fld (.mm 1 0 10) 8,.fld (.mm 1 0 10) 9,.fld (.sz (.s 12) 7) 0,.fld (.sz (.s 12) 7) 1,.fld (.sz (.s 12) 7) 2,.fld (.sz (.s 12) 7) 3,.fld (.sz (.s 12) 7) 4,.fld (.sz (.s 12) 7) 5,.fld (.sz (.s 12) 7) 6,pN,pN,pN,pN,.c (.mp 0 [] []),.c (.mp 0 [] [])])]⟩,pQ [pC [pK 10 82 []] [pV 6 (pI 0),pV 7 (.len (.s 10))]] (.block 0 (.loop [0,1,2,3,5,6,7,10] (pQ [pR [pV 8 (.bin .lss (.s 6) (.s 7))],.cond (.s 8) .skip (.exit 0),.block 1 (pQ [pR [(9,.m [.fld (.flds (.idx (.s 10) (.s 6) 1) 0 1) 0])],pC [.callm 13 [] (.e (.m 9 0)) [.mem [.fz,.fz,.fz,.fz,.fz,.fz,.fz,.fz,.fz,.fz,.fz,.fz,.fz,.fz,.fz,.fz,.fz,.fz,.fz,.fz,.fz,.own 84,.own 115]] [.ag [.m 5 0,.m 5 1,.m 5 2,.m 5 3,.m 5 4,.m 5 5,.m 5 6,.m 5 7,.m 5 8,.m 5 9,.m 5 10,.m 5 11,.m 5 12,.m 5 13,.m 5 14,.m 5 15,.m 5 16,.m 5 17,.m 5 18,.m 5 19,.m 5 20,.m 5 21,.m 5 22]]] [(5,pM (.ext (.s 13) 1) 23),pV 11 (.un .not (.ext (.s 13) 0))]] (.cond (.s 11) (pQ [pR [pV 2 (.c (.nul 0)),pV 3 pF]] .ret) .skip))] (pR [pV 6 (.bin .add (.s 6) (pI 1))])))),pR [pV 2 (.pt xw [.m 5 0,.m 5 1,.m 5 2,.m 5 3,.m 5 4,.m 5 5,.m 5 6,.m 5 7,.m 5 8,.m 5 9,.m 5 10,.m 5 11,.m 5 12,.m 5 13,.m 5 14,.m 5 15,.m 5 16,.m 5 17,.m 5 18,.m 5 19,.m 5 20,.m 5 21,.m 5 22]),pV 3 pT,(5,.no)]] .ret,[(2,.v),(3,.v)]⟩
def t5:ZK Sol.prog fresh sig [.fz] [] Try.f51=xk Ig:=Z2
def Ih:Fn:=⟨11,[0,2,3,4,8,19,18,20,6,17,25],
pQ [pR [pV 1 (pI 0)],pR [pV 2 (pI 0)],pQ [pR [pV 3 (pI 3)]] (.block 0 (.loop [0,1,2,3] (pQ [pQ [pR [pV 4 (.bin .leq (.s 3) (pI 4))]] (.cond (.s 4) .skip (.exit 0)),.block 1 (pQ [pR [pV 5 (pI 0),pV 6 (.len (.fld (.ai (.flds (.star (.s 0)) 17 4) (.bin .sub (.s 3) (pI 1)) 4 1 xy) 0)),pV 9 (.fld (.ai (.flds (.star (.s 0)) 17 4) (.bin .sub (.s 3) (pI 1)) 4 1 xy) 0)]] (.block 2 (.loop [0,1,2,3,4,5,6,9] (pQ [pR [pV 7 (.bin .lss (.s 5) (.s 6))],.cond (.s 7) .skip (.exit 2),.block 3 (pQ [pR [(8,pM (.flds (.idx (.s 9) (.s 5) 5) 0 5) 5)],pR [pV 10 (.un .not (.m 8 3))]] (.cond (.s 10) (pR [pV 2 (.bin .add (.s 2) (.bin .add (pI 1) (.m 8 1)))]) .skip))] (pR [pV 5 (.bin .add (.s 5) (pI 1))])))))] (pR [pV 3 (.bin .add (.s 3) (pI 1))])))),pR [pV 1 (.s 2)]] .ret,[(1,.v)]⟩
def t8:ZK Sol.prog fresh sig [.fz] [] Try.f52=xk Ih:=Z2
def Ir:Fn:=⟨1,[0],
pQ [pR [pV 0 pN],pR [pV 0 (.lit [.ag [.c (.fn 103)],.ag [.c (.fn 104)],.ag [.c (.fn 105)],.ag [.c (.fn 106)],.ag [.c (.fn 107)],.ag [.c (.fn 108)],.ag [.c (.fn 109)],.ag [.c (.fn 110)]])]] .ret,[(0,.v)]⟩
def c82:ZK Sol.prog fresh sig [] [] Try.f82=xk Ir:=Z2
def Hu:Fn:=⟨2,[0,2],
pQ [pR [pV 1 pF],.reg ⟨[pK 2 65 [.flds (.star (.s 0)) 10 7],.lt 3 [] (.s 2),.lt 4 [] (.ite (.s 3) (.bin .leq (.len (.fld (.star (.s 0)) 9)) (pI 16)) pF),.lt 5 [] (.ite (.s 4) (.bin .geq (.fld (.star (.s 0)) 4) (pI 0)) pF)],[([(3,xy)],.bin .leq (.len (.fld (.star (.s 0)) 9)) (pI 16)),([(4,xy)],.bin .geq (.fld (.star (.s 0)) 4) (pI 0)),([(5,xy)],.bin .leq (.fld (.star (.s 0)) 4) (.len (.fld (.star (.s 0)) 5)))],[pV 1 (.ite (.s 5) (.bin .leq (.fld (.star (.s 0)) 4) (.len (.fld (.star (.s 0)) 5))) pF)]⟩] .ret,[(1,.v)]⟩
def Pn:ZK Sol.prog fresh sig [.fz] [] Try.f103=xk Hu:=Z2
def Km:Fn:=⟨3,[0,2,7],
pQ [pR [pV 1 pF],pQ [pR [pV 2 (.fld (.star (.s 0)) 3)]] (.cond (.s 2) (pQ [pR [pV 1 (.bin .lss (.fld (.star (.s 0)) 4) (.len (.fld (.star (.s 0)) 5)))]] .ret) .skip),.reg ⟨[.lt 3 [] (.bin .eql (.len (.fld (.star (.s 0)) 7)) (pI 0)),.lt 4 [] (.ite (.s 3) (.bin .eql (.len (.fld (.star (.s 0)) 8)) (pI 0)) pF)],[([(3,xy)],.bin .eql (.len (.fld (.star (.s 0)) 8)) (pI 0)),([(4,xy)],.bin .eql (.fld (.star (.s 0)) 4) (.len (.fld (.star (.s 0)) 5)))],[pV 1 (.ite (.s 4) (.bin .eql (.fld (.star (.s 0)) 4) (.len (.fld (.star (.s 0)) 5))) pF)]⟩] .ret,[(1,.v)]⟩
def Po:ZK Sol.prog fresh sig [.fz] [] Try.f104=xk Km:=Z2
def Hv:Fn:=⟨11,[0,2,3,8,9,4,5,6,7,18,39],
pQ [pR [pV 1 pF],pR [pV 2 pT],.skip,pQ [pR [pV 3 (pI 0)]] (.block 0 (.loop [0,1,2,3] (pQ [pR [pV 4 (.bin .lss (.s 3) (pI 4))],.cond (.s 4) .skip (.exit 0),.block 1 (pQ [pR [pV 5 (.s 3)],pR [pV 6 (.bin .add (.s 5) (pI 1))],pR [pV 7 pN],pR [pV 8 (pI 0)],pQ [.reg ⟨[.lt 11 [] (.bin .eql (.s 6) (pI 1))],[([(11,xh)],.bin .eql (.s 6) (pI 2))],[pV 9 (.ite (.s 11) pT (.bin .eql (.s 6) (pI 2)))]⟩] (.cond (.s 9) (pC [pK 12 118 [.pt xw [.m 0 0,.m 0 1,.m 0 2,.m 0 3,.m 0 4,.m 0 5,.m 0 6,.m 0 7,.m 0 8,.m 0 9,.m 0 10,.m 0 11,.m 0 12,.m 0 13,.m 0 14,.m 0 15,.m 0 16,.m 0 17,.m 0 18,.m 0 19,.m 0 20,.m 0 21,.m 0 22],.s 6],.call 13 [] (.id 117) xy xh [.s 12]] [pV 7 (.ext (.s 13) 0),pV 8 (.ext (.s 13) 1)]) (pC [pK 14 118 [.pt xw [.m 0 0,.m 0 1,.m 0 2,.m 0 3,.m 0 4,.m 0 5,.m 0 6,.m 0 7,.m 0 8,.m 0 9,.m 0 10,.m 0 11,.m 0 12,.m 0 13,.m 0 14,.m 0 15,.m 0 16,.m 0 17,.m 0 18,.m 0 19,.m 0 20,.m 0 21,.m 0 22],.s 6],pK 15 118 [.pt xw [.m 0 0,.m 0 1,.m 0 2,.m 0 3,.m 0 4,.m 0 5,.m 0 6,.m 0 7,.m 0 8,.m 0 9,.m 0 10,.m 0 11,.m 0 12,.m 0 13,.m 0 14,.m 0 15,.m 0 16,.m 0 17,.m 0 18,.m 0 19,.m 0 20,.m 0 21,.m 0 22],.s 6],pK 16 120 [.pt xw [.m 0 0,.m 0 1,.m 0 2,.m 0 3,.m 0 4,.m 0 5,.m 0 6,.m 0 7,.m 0 8,.m 0 9,.m 0 10,.m 0 11,.m 0 12,.m 0 13,.m 0 14,.m 0 15,.m 0 16,.m 0 17,.m 0 18,.m 0 19,.m 0 20,.m 0 21,.m 0 22],.s 15],.call 17 [] (.id 119) xy xh [.s 14,.s 16]] [pV 7 (.ext (.s 17) 0),pV 8 (.ext (.s 17) 1)])),pQ [pR [pV 10 (.bin .neq (.s 8) (pI 0))]] (.cond (.s 10) (pQ [pR [pV 2 pF]] (.exit 0)) .skip)] (pC [.callm 18 [] (.id 121) [.mem [.fz,.fz,.fz,.fz,.fz,.fz,.fz,.fz,.fz,.fz,.fz,.fz,.fz,.fz,.fz,.fz,.fz,.fz,.fz,.fz,.fz,.own 84,.own 115],.fz,.fz] [.ag [.m 0 0,.m 0 1,.m 0 2,.m 0 3,.m 0 4,.m 0 5,.m 0 6,.m 0 7,.m 0 8,.m 0 9,.m 0 10,.m 0 11,.m 0 12,.m 0 13,.m 0 14,.m 0 15,.m 0 16,.m 0 17,.m 0 18,.m 0 19,.m 0 20,.m 0 21,.m 0 22],.s 6,.s 7]] [(0,pM (.ext (.s 18) 1) 23)]))] (pR [pV 3 (.bin .add (.s 3) (pI 1))])))),pR [pV 1 (.s 2)]] .ret,[(1,.v)]⟩
def Pq:ZK Sol.prog fresh sig [(.mem [.fz,.fz,.fz,.fz,.fz,.fz,.fz,.fz,.fz,.fz,.fz,.fz,.fz,.fz,.fz,.fz,.fz,.fz,.fz,.fz,.fz,(.own 84),(.own 115)])] [(0,(.mem [.fz,.fz,.fz,.fz,.fz,.fz,.fz,.fz,.fz,.fz,.fz,.fz,.fz,.fz,.fz,.fz,.fz,.fz,.fz,.fz,.fz,(.own 84),(.own 115)]))] Try.f105=xk Hv:=Z2
def AO:Fn:=⟨13,[0,2,12,3,4,15,26,25,27,6,24,32,46],
pQ [pR [pV 1 pF],pQ [pR [pV 2 (.un .not (.fld (.star (.s 0)) 3))]] (.cond (.s 2) (pQ [pR [pV 1 pT]] .ret) .skip),pR [pV 3 (.c (.mp 0 [] []))],pQ [pR [pV 4 (pI 3)]] (.block 0 (.loop [0,1,2,3,4] (pQ [pQ [pR [pV 5 (.bin .leq (.s 4) (pI 4))]] (.cond (.s 5) .skip (.exit 0)),.block 1 (pQ [pR [pV 6 (pI 0),pV 7 (.len (.fld (.ai (.flds (.star (.s 0)) 17 4) (.bin .sub (.s 4) (pI 1)) 4 1 xy) 0)),pV 10 (.fld (.ai (.flds (.star (.s 0)) 17 4) (.bin .sub (.s 4) (pI 1)) 4 1 xy) 0)]] (.block 2 (.loop [0,1,2,3,4,5,6,7,10] (pQ [pR [pV 8 (.bin .lss (.s 6) (.s 7))],.cond (.s 8) .skip (.exit 2),.block 3 (pQ [pR [(9,pM (.flds (.idx (.s 10) (.s 6) 5) 0 5) 5)],pQ [pR [pV 11 (.un .not (.m 9 3))]] (.cond (.s 11) (.exit 3) .skip),pQ [.reg ⟨[.lt 13 [] (.bin .neq (.lk (.i .u64) (.fld (.star (.s 0)) 21) (.m 9 4) (.int .i64 0) xh) (pI 1))],[([(13,xh)],.fl (.lk (.i .u64) (.s 3) (.m 9 4) (.bool xh) xh))],[pV 12 (.ite (.s 13) pT (.fl (.lk (.i .u64) (.s 3) (.m 9 4) (.bool xh) xh)))]⟩] (.cond (.s 12) (pQ [pR [pV 1 pF]] .ret) .skip)] (pR [pV 3 (.mput (.i .u64) (.s 3) (.m 9 4) pT)]))] (pR [pV 6 (.bin .add (.s 6) (pI 1))])))))] (pR [pV 4 (.bin .add (.s 4) (pI 1))])))),pR [pV 1 (.bin .eql (.mlen (.s 3)) (.len (.fld (.ai (.flds (.star (.s 0)) 17 4) (pI 0) 4 1 xy) 0)))]] .ret,[(1,.v)]⟩
def Pr:ZK Sol.prog fresh sig [.fz] [] Try.f106=xk AO:=Z2
def Hw:Fn:=⟨9,[0,1,2,11,10,12,4,9,18],
pQ [pR [(1,.m [.one (.s 0)]),pV 2 pF],pQ [pR [pV 3 (pI 0),pV 4 (.len (.fld (.star (.m 1 0)) 9)),pV 7 (.fld (.star (.m 1 0)) 9)]] (.block 0 (.loop [0,1,2,3,4,7] (pQ [pR [pV 5 (.bin .lss (.s 3) (.s 4))],.cond (.s 5) .skip (.exit 0),.block 1 (pQ [pR [pV 6 (.fld (.idx (.s 7) (.s 3) 1) 0)],pC [pK 9 122 [.m 1 0,.s 6,pI 1,pI 2]] [pV 8 (.un .not (.s 9))]] (.cond (.s 8) (pQ [pR [pV 2 pF]] .ret) .skip))] (pR [pV 3 (.bin .add (.s 3) (pI 1))])))),pC [.call 10 [] (.id 123) xh xy [.m 1 0,pI 2,.pt (xk 124) [.pt xw [.m 1 0]]],.lt 11 [] (.s 10),.call 12 [(11,xy)] (.id 123) xh xy [.m 1 0,pI 1,.pt (xk 125) [.pt xw [.m 1 0]]]] [pV 2 (.ite (.s 11) (.s 12) pF)]] .ret,[(2,.v)]⟩
def Ps:ZK Sol.prog fresh sig [.fz] [] Try.f107=xk Hw:=Z2
def Hx:Fn:=⟨3,[0,1,2],
pQ [pR [(1,.m [.one (.s 0)]),pV 2 pF],pC [.call 3 [] (.id 123) xh xy [.m 1 0,pI 1,.pt (xk 126) [.pt xw [.m 1 0]]]] [pV 2 (.s 3)]] .ret,[(2,.v)]⟩
def Pt:ZK Sol.prog fresh sig [.fz] [] Try.f108=xk Hx:=Z2
def Hy:Fn:=⟨4,[0,1,2,3],
pQ [pR [(1,.m [.one (.s 0)]),pV 2 pF],pR [(3,.no)],pC [.call 4 [] (.id 123) xh xy [.m 1 0,pI 3,.pt (xk 127) [.pt xw [.m 1 0]]],.lt 5 [] (.s 4),.call 6 [(5,xy)] (.id 123) xh xy [.m 1 0,pI 4,.pt (xk 127) [.pt xw [.m 1 0]]]] [pV 2 (.ite (.s 5) (.s 6) pF),(3,.no)]] .ret,[(2,.v)]⟩
def Pu:ZK Sol.prog fresh sig [.fz] [] Try.f109=xk Hy:=Z2
def Hz:Fn:=⟨2,[0,2],
pQ [pR [pV 1 pF],pC [pK 2 52 [.s 0]] [pV 1 (.bin .leq (.bin .add (.bin .add (.len (.fld (.star (.s 0)) 5)) (.len (.fld (.star (.s 0)) 6))) (.s 2)) (.fld (.star (.s 0)) 1))]] .ret,[(1,.v)]⟩
def Pv:ZK Sol.prog fresh sig [.fz] [] Try.f110=xk Hz:=Z2
def HM:Fn:=⟨3,[0,1,4],
pQ [pR [pV 2 pN],pR [pV 2 (.ai (.ag [.fld (.star (.s 0)) 5,.fld (.star (.s 0)) 6,.fld (.star (.s 0)) 7,.fld (.star (.s 0)) 8]) (.bin .sub (.s 1) (pI 1)) 4 1 xh)]] .ret,[(2,.v)]⟩
def Pz:ZK Sol.prog fresh sig [.fz,.fz] [] Try.f118=xk HM:=Z2
def HP:Fn:=⟨14,[0,1,4,5,6,15,7,8,9,25,10,11,36,52],
pQ [pR [pV 2 pN],pR [pV 3 pN],pQ [pR [pV 4 (pI 0)]] (.block 0 (.loop [0,1,2,3,4] (pQ [pQ [pR [pV 5 (.bin .lss (.s 4) (.len (.s 1)))]] (.cond (.s 5) .skip (.exit 0))] (.block 1 (pQ [pR [(6,.m [pI 0,pI 0])],pQ [pC [pK 14 44 [.fld (.idx (.s 1) (.s 4) 1) 0]] [pV 7 (.ext (.s 14) 0),pV 8 (.ext (.s 14) 1)],pR [pV 9 (.bin .eql (.s 8) (pI 0))]] (.cond (.s 9) (pQ [pR [(10,pM (.sz (.ext (.lk (.i .u64) (.fld (.star (.s 0)) 22) (.s 7) (.agg [.int .i64 0,.int .i64 0]) xy) 0) 2) 2),pV 11 (.ext (.lk (.i .u64) (.fld (.star (.s 0)) 22) (.s 7) (.agg [.int .i64 0,.int .i64 0]) xy) 1)],pQ [pR [pV 12 (.un .not (.s 11))]] (.cond (.s 12) (pQ [pR [pV 2 (.s 3),(3,.no)]] .ret) .skip),pR [(6,pM (.mm 10 0 2) 2)]] (pR [pV 3 (.app (.s 3) (.lit [.mm 6 0 2]) 2)])) (pQ [pC [pK 15 69 [.fld (.idx (.s 1) (.s 4) 1) 0]] [(6,pM (.sz (.ext (.s 15) 0) 2) 2),pV 8 (.ext (.s 15) 1)],pR [pV 13 (.bin .neq (.s 8) (pI 0))]] (.cond (.s 13) (pQ [pR [pV 2 (.s 3),(3,.no)]] .ret) .skip)))] (pR [pV 4 (.bin .add (.s 4) (.bin .add (pI 1) (.m 6 0)))])))))),pR [pV 2 (.s 3),(3,.no)]] .ret,[(2,.v)]⟩
def PA:ZK Sol.prog fresh sig [.fz,.fz] [] Try.f120=xk HP:=Z2
def Ko:Fn:=⟨11,[0,1,2,19,18,20,7,17,8,9,42],
pQ [.reg ⟨[],[([],.ai (.c (.agg [(.bool xy),(.bool xy),(.bool xy),(.bool xy)])) (.bin .sub (.s 1) (pI 1)) 4 1 xh)],[(0,.m [.m 0 0,.m 0 1,.m 0 2,.m 0 3,.m 0 4,.m 0 5,.m 0 6,.m 0 7,.m 0 8,.m 0 9,.m 0 10,.m 0 11,.m 0 12,.m 0 13,.m 0 14,.m 0 15,.m 0 16,.fld (.aput (.mm 0 17 4) (.bin .sub (.s 1) (pI 1)) 4 1 (.one (.s 2))) 0,.fld (.aput (.mm 0 17 4) (.bin .sub (.s 1) (pI 1)) 4 1 (.one (.s 2))) 1,.fld (.aput (.mm 0 17 4) (.bin .sub (.s 1) (pI 1)) 4 1 (.one (.s 2))) 2,.fld (.aput (.mm 0 17 4) (.bin .sub (.s 1) (pI 1)) 4 1 (.one (.s 2))) 3,.m 0 21,.m 0 22])]⟩,pR [pV 3 (pI 0),pV 4 (.len (.s 2)),pV 7 (.s 2)]] (.block 0 (.loop [0,1,2,3,4,7] (pQ [pR [pV 5 (.bin .lss (.s 3) (.s 4))],.cond (.s 5) .skip (.exit 0),.block 1 (pQ [pR [(6,pM (.flds (.idx (.s 7) (.s 3) 5) 0 5) 5)],pC [pK 11 75 [.mm 0 10 7,.ag [.one (.s 1),.m 6 0]]] [pV 8 (.ext (.s 11) 0),pV 9 (.ext (.s 11) 1)],pR [(0,.m [.m 0 0,.m 0 1,.m 0 2,.m 0 3,.m 0 4,.m 0 5,.m 0 6,.m 0 7,.m 0 8,.m 0 9,.m 0 10,.m 0 11,.m 0 12,.m 0 13,.m 0 14,.m 0 15,.m 0 16,.m 0 17,.m 0 18,.m 0 19,.m 0 20,.mput (.i .u64) (.m 0 21) (.s 8) (.s 1),.m 0 22])],pR [pV 10 (.bin .eql (.s 1) (pI 1))]] (.cond (.s 10) (pR [(0,.m [.m 0 0,.m 0 1,.m 0 2,.m 0 3,.m 0 4,.m 0 5,.m 0 6,.m 0 7,.m 0 8,.m 0 9,.m 0 10,.m 0 11,.m 0 12,.m 0 13,.m 0 14,.m 0 15,.m 0 16,.m 0 17,.m 0 18,.m 0 19,.m 0 20,.m 0 21,.mput (.i .u64) (.m 0 22) (.s 8) (.mm 6 1 2)])]) .skip))] (pR [pV 3 (.bin .add (.s 3) (pI 1))])))),[]⟩
def PB:ZK Sol.prog fresh sig [(.mem [.fz,.fz,.fz,.fz,.fz,.fz,.fz,.fz,.fz,.fz,.fz,.fz,.fz,.fz,.fz,.fz,.fz,.fz,.fz,.fz,.fz,(.own 84),(.own 115)]),.fz,.fz] [(0,(.mem [.fz,.fz,.fz,.fz,.fz,.fz,.fz,.fz,.fz,.fz,.fz,.fz,.fz,.fz,.fz,.fz,.fz,.fz,.fz,.fz,.fz,(.own 84),(.own 115)]))] Try.f121=xk Ko:=Z2
def AQ:Fn:=⟨11,[0,1,2,3,8,14,9,10,21,11,12],
pQ [pR [pV 4 pF],pQ [pR [pV 5 (.bin .eql (.s 1) (pU 0))]] (.cond (.s 5) (pQ [pR [pV 4 pT]] .ret) .skip),pC [pK 11 44 [.s 1]] [pV 6 (.ext (.s 11) 0),pV 7 (.ext (.s 11) 1)],pQ [pR [pV 8 (.bin .neq (.s 7) (pI 0))]] (.cond (.s 8) (pQ [pR [pV 4 pF]] .ret) .skip),pR [pV 9 (.ext (.lk (.i .u64) (.fld (.star (.s 0)) 21) (.s 6) (.int .i64 0) xy) 0),pV 10 (.ext (.lk (.i .u64) (.fld (.star (.s 0)) 21) (.s 6) (.int .i64 0) xy) 1)],.reg ⟨[.lt 12 [] (.s 10),.lt 13 [] (.ite (.s 12) (.bin .geq (.s 9) (.s 2)) pF)],[([(12,xy)],.bin .geq (.s 9) (.s 2)),([(13,xy)],.bin .leq (.s 9) (.s 3))],[pV 4 (.ite (.s 13) (.bin .leq (.s 9) (.s 3)) pF)]⟩] .ret,[(4,.v)]⟩
def PC:ZK Sol.prog fresh sig [.fz,.fz,.fz,.fz] [] Try.f122=xk AQ:=Z2
def HR:Fn:=⟨17,[0,1,2,6,7,23,22,24,9,21,28,32,31,33,10,11,47],
pQ [pR [pV 3 pF],pC [pK 17 118 [.s 0,.s 1]] [pV 4 (.s 17)],pQ [pR [pV 5 (pI 0),pV 6 (.len (.fld (.ai (.flds (.star (.s 0)) 17 4) (.bin .sub (.s 1) (pI 1)) 4 1 xy) 0)),pV 9 (.fld (.ai (.flds (.star (.s 0)) 17 4) (.bin .sub (.s 1) (pI 1)) 4 1 xy) 0)]] (.block 0 (.loop [0,1,2,3,4,5,6,9] (pQ [pR [pV 7 (.bin .lss (.s 5) (.s 6))],.cond (.s 7) .skip (.exit 0),.block 1 (pQ [pR [(8,pM (.flds (.idx (.s 9) (.s 5) 5) 0 5) 5)],pQ [pR [pV 10 (.m 8 3)]] (.cond (.s 10) (.exit 1) .skip),pR [pV 11 (pI 0),pV 12 (.m 8 2)]] (.block 2 (.loop [0,1,2,3,4,5,6,7,8,9,10,11,12] (pQ [pR [pV 13 (.bin .lss (.s 11) (.s 12))],.cond (.s 13) .skip (.exit 2),.block 3 (pQ [pR [pV 14 (.s 11)],pR [pV 15 (.bin .add (.bin .add (.m 8 0) (pI 1)) (.s 14))],pC [.call 18 [] (.e (.s 2)) xh xh [.s 15,.fld (.idx (.s 4) (.s 15) 1) 0]] [pV 16 (.un .not (.s 18))]] (.cond (.s 16) (pQ [pR [pV 3 pF]] .ret) .skip))] (pR [pV 11 (.bin .add (.s 11) (pI 1))])))))] (pR [pV 5 (.bin .add (.s 5) (pI 1))])))),pR [pV 3 pT]] .ret,[(3,.v)]⟩
def PD:ZK Sol.prog fresh sig [.fz,.fz,.fz] [] Try.f123=xk HR:=Z2
def HT:Fn:=⟨4,[0,1,2,5],
pQ [pR [pV 3 pF],pC [pK 4 122 [.fld (.star (.s 2)) 0,.s 1,pI 1,pI 2]] [pV 3 (.s 4)]] .ret,[(3,.v)]⟩
def PE:ZK Sol.prog fresh sig [.fz,.fz,.fz] [] Try.f124=xk HT:=Z2
def AR:Fn:=⟨4,[0,1,2,5],
pQ [pR [pV 3 pF],pC [.lt 4 [] (.bin .geq (.s 0) (.fld (.star (.fld (.star (.s 2)) 0)) 4)),.call 5 [(4,xh)] (.id 122) xh xh [.fld (.star (.s 2)) 0,.s 1,pI 1,pI 2]] [pV 3 (.ite (.s 4) pT (.s 5))]] .ret,[(3,.v)]⟩
def PF:ZK Sol.prog fresh sig [.fz,.fz,.fz] [] Try.f125=xk AR:=Z2
def AS:Fn:=⟨4,[0,1,2,5],
pQ [pR [pV 3 pF],pC [.lt 4 [] (.bin .lss (.s 0) (.fld (.star (.fld (.star (.s 2)) 0)) 4)),.call 5 [(4,xh)] (.id 122) xh xh [.fld (.star (.s 2)) 0,.s 1,pI 1,pI 4]] [pV 3 (.ite (.s 4) pT (.s 5))]] .ret,[(3,.v)]⟩
def PG:ZK Sol.prog fresh sig [.fz,.fz,.fz] [] Try.f126=xk AS:=Z2
def HU:Fn:=⟨4,[0,1,2,5],
pQ [pR [pV 3 pF],pC [pK 4 122 [.fld (.star (.s 2)) 0,.s 1,pI 3,pI 4]] [pV 3 (.s 4)]] .ret,[(3,.v)]⟩
def PH:ZK Sol.prog fresh sig [.fz,.fz,.fz] [] Try.f127=xk HU:=Z2
end Vm
end
