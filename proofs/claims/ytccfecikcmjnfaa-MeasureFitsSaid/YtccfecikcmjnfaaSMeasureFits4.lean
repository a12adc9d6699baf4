import Derived.ProofKit
import Derived.OpenShut
import Derived.WalkSpells
import Derived.WalkLawsBesides
import Derived.StillTailTactics
import Derived.Deep.RegionHeld3
import Derived.Deep.AppendLies
import Derived.Deep.Onto
import Derived.Deep.OwnRows
import Derived.Lib.Hide
import Derived.Lib.AppendZerosOnto
import Derived.Laws.CopyOwn
import Derived.Test.YtccfecikcmjnfaaSMeasureFits3
set_option linter.unusedSimpArgs false
set_option linter.unusedVariables false
set_option linter.defProp false
open Option renaming some→J,none→U
open Bool renaming true→xk,false→xw
open Go renaming undef→xy
open List renaming length→I
open Array renaming size→xz
open Go.World renaming heap→xj
open List renaming length→xq
open Array renaming size→xz
open Go.World renaming heap→xj
set_option maxHeartbeats 8000000
set_option maxRecDepth 100000
theorem ZgO{p:Prop}(h:p:=by simp[Y4];omega):p:=h
theorem ZgQ{p:Prop}(h:p:=by unfold ZL at d;omega):p:=h
theorem ZgB{p:Prop}(h:p:=by decide):p:=h
theorem ZgC{p:Prop}(h:p:=by unfold maxLen;omega):p:=h
theorem Zgv{p:Prop}(h:p:=by rw[cell_of_row _ _ _ _ _ _ d];rfl):p:=h
theorem Zha{p:Prop}(h:p:=by simp[XR];omega):p:=h
def ZiE:=@List.append_nil
def Zir:=@Int.tmod_eq_emod_of_nonneg
def ZkS:=@Int.tdiv_eq_ediv_of_nonneg
def ZkR:=@Int.fdiv_eq_ediv_of_nonneg
def Zlk:=@Int.emod_nonneg
def ZkV:=@Int.emod_lt_of_pos
def Zik:=@List.take_add_one
def Zlp:=@List.set_append_right
def Zih:=@List.drop_eq_getElem_cons
def Zi7:=@List.append_assoc
def Zk6:=@List.map_set
def Zjv:=@List.take_append_drop
def ZkM:=@List.sum_append
def Zka:=@Bool.true_eq_false
def Zje:=@List.length_eq_zero_iff
def ZhD:=@Go.RowKit.Below.heap_setCell
def Zhp:=@Go.Lib.hid
def Zi8:=@Go.bodyPost_ret
def ZlA:=@Nat.mul_one
def Zl3:=@List.take_left
def ZjR:=@Array.ext
def Zjl:=@List.length_set
def ZiQ:=@Go.World.cell?_alloc_lt
def Zl8:=@not_true_eq_false
def Zjk:=@List.length_pos_iff
def Zj3:=@List.mem_map_of_mem
def Ziu:=@List.length_nil
def Zkc:=@List.findIdx?_cons
def Zii:=@List.findIdx?_eq_some_iff_getElem
def ZkN:=@List.take_succ_cons
def Zjz:=@List.getElem?_eq_none_iff
def ZkW:=@List.pairwise_cons
def ZkD:=@Bool.false_or
def ZkI:=@Bool.eq_iff_iff
section
namespace Vm
open Go Go.Proofs
def sig(f:Zp):Option<|List OT:=
 if f=97 then J [.fz,.mem [.own 150],.mem [.own 3]]else
 if f=81 then J [.fz,.mem [.fz,.fz]]else
 if f=93 then J [.fz,.own 150]else
 if f=80 then J [.fz,.own 150]else
 if f=86 then J [.mem [.fz,.fz,.fz,.fz,.fz,.fz,.fz,.fz,.fz,.fz,.fz,.fz,.fz,.fz,.fz,.fz,.fz,.fz,.fz,.fz,.fz,.own 102,.own 103],.fz,.fz]else
 if f=71 then J [.mem [.fz,.fz,.fz,.fz,.fz,.fz,.fz,.fz,.fz,.fz,.fz,.fz,.fz,.fz,.fz,.fz,.fz,.fz,.fz,.fz,.fz,.own 102,.own 103]]else
 if f=1000079 then J [.mem [.fz,.fz,.fz,.fz,.fz,.fz,.fz,.fz,.fz,.fz,.fz,.fz,.fz,.fz,.fz,.fz,.fz,.fz,.fz,.fz,.fz,.own 102,.own 103]]else
 U
@[simp]def pI(n:Int):E:=.c<|.int .i64 n
@[simp]def pU(n:Int):E:=.c<|.int .u64 n
@[simp]def pF:E:=.c<|.bool xw
@[simp]def pT:E:=.c<|.bool xk
@[simp]def pN:E:=.c<|.sl []
@[simp]def pG(e:E):Nat->Nat->List E
 |_,0=>[]
 |i,n+1=>.ae e i::pG e (i+1) n
@[simp]def pS(a n:Nat):OV:=.m<|pG (.sz (.s a) n) 0 n
@[simp]def pM(e:E)(n:Nat):OV:=.m<|pG e 0 n
@[simp]def pY:E:=.ag [pU 0,pI 0,pI 0,pF,pI 0,pN,pN,pN,pN,pN]
@[simp]def pZ:OV:=.m [pU 0,pI 0,pI 0,pF,pI 0,pN,pN,pN,pN,pN]
@[simp]def pR(l:List<|Nat×OV):Stm:=.ao ⟨[],[],l⟩
@[simp]def pC(e:List EF)(l:List<|Nat×OV):Stm:=.ao ⟨e,[],l⟩
@[simp]def pV(t:Nat)(e:E):Nat×OV:=(t,.v e)
@[simp]def pK(t f:Nat)(l:List E):EF:=.call t [] (.id f) xw xw l
@[simp]def pQ:List Stm->Stm->Stm
 | [],z=>z
 |a::l,z=>.seq a<|pQ l z
def fresh(f:Zp):Bool:=f==94||f==82||f==84||f==6
def follows:xP.follows .mixedOrders=xk:=Z2
noncomputable abbrev ZY(a:List OT)(f:Func):Option Fn:=WW xP fresh sig a [] f
@[simp]def pl(a b:E):E:=.bo .lss a b
@[simp]def pe(a b:E):E:=.bo .eql a b
@[simp]def pa(a b:E):E:=.bo .add a b
@[simp]def pn(a b:E):E:=.bo .neq a b
@[simp]def pb(a b:E):E:=.bo .sub a b
@[simp]def pg(a b:E):E:=.bo .geq a b
@[simp]def pL(a b:E):E:=.bo .leq a b
@[simp]def pj(a b:E):E:=.bo .gtr a b
@[simp]def pm(a b:E):E:=.bo .mul a b
@[simp]def pw(c:E)(a:Stm):Stm:=.cond c a .skip
@[simp]def px(l:List<|Nat×OV):Stm:=.seq (pR l) .ret
@[simp]def pi(t:Nat)(e:E)(a:Stm):Stm:=.seq (pR [pV t e])<|.cond (.s t) a .skip
@[simp]def pu(t:Nat)(e:E)(a b:Stm):Stm:=.seq (pR [pV t e])<|.cond (.s t) a b
@[simp]def po(k:Za)(t:Nat)(e:E)(a b:Stm):Stm:=.block 0<|.loop k<|.seq (pR [pV t e])<|.seq (.cond (.s t) .skip<|.exit 0)<|.seq (.block 1 a) b
@[simp]def pc(n:Nat):Stm:=pR [pV n<|.bo .add (.s n)<|pI 1]
section
def AA(x:Option V)(A B:Prop):Prop:=
 match x with
 |some (.bool xk)=>A
 |some (.bool xw)=>B
 |_=>False
@[simp]theorem Zdh b A B:AA (J<|.bool b) A B↔if b=xk then A else B:=by cases b<;>simp[AA]
def Wb{α:Type}(x:Option α)(K:α->Prop):Prop:=
 match x with
 |some x=>K x
 |none=>False
@[simp]theorem ZeU{α}x(K:α->Prop):Wb (J x) K↔K x:=Zjd
@[simp]theorem ZeT{α}(K:α->Prop):Wb U K↔False:=Zjd
@[simp]theorem ZeS{α β}f(x:Option α)(K:β->Prop):Wb (x.map f) K↔Wb x (λy=>K<|f y):=by cases x<;>rfl
@[simp]theorem ZeQ{α β}f(x:Option α)(K:β->Prop):Wb (x.bind f) K↔Wb x (λy=>Wb (f y) K):=by cases x<;>rfl
@[simp]theorem ZeR{α}p [Decidable p]x y(K:α->Prop):Wb (if p then x else y) K↔if p then Wb x K else Wb y K:=by split<;>rfl
def R4 P [Lg P](f:Zp)(fr fl:Bool)(xs:Zr)(K:V->Prop):Prop:=∃r,VC P f fr xs r/\(fl=xk->WE r=J r)/\K r
def Zz{P} [Lg P]{f fr fl xs K r}(h:VC P f fr xs r)(d:fl=xk->WE r=J r)(a:K r):R4 P f fr fl xs K:=⟨r,h,d,a⟩
def zT P [Lg P](f:Zp)(ks:List OT)(xs:Zr)(K:V->Prop):Prop:=∃R,Vv P f ks xs R/\K R
def Uc{P} [Lg P]{f ks xs K R}(h:Vv P f ks xs R)(a:K R):zT P f ks xs K:=⟨R,h,a⟩
def kS P [Lg P](b:Stm)(N:St->Prop)(X:Nat->St->Prop)(R:St->Prop)(s:St):Prop:=Yw P b s N X R
def xB(id:Nat)(N:St->Prop)(X:Nat->St->Prop)(i:Nat)(s:St):Prop:=if i=id then N s else X i s
def kR(a:List<|ZF×E)(outs:List<|Nat×OV)(K:St->Prop)(t:St):Prop:=SR t a/\Ub outs t t K
def kO(l:List<|Nat×OV)(t u:St)(i:Nat)(K:St->Prop)(x:SV):Prop:=Ub l t (YI u i x) K
def kL P [Lg P](l:List EF)(s:St)(i:Nat)(K:St->Prop)(x:V):Prop:=YP P l (YI s i<|.v x) K
def kA P [Lg P](f:Zp)(fr fl:Bool)(K:V->Prop)(xs:Zr):Prop:=R4 P f fr fl xs K
def Qo P [Lg P](fr fl:Bool)(K:V->Prop)(xs:Zr)(v:V):Prop:=Wb (J5 v) λn=>R4 P n.1 fr fl (xs++n.2) K
def By P [Lg P](x:Option V)(fr fl:Bool)(K:V->Prop)(xs:Zr):Prop:=Wb x<|Qo P fr fl K xs
def Bz P [Lg P](f:Option FuncId)(ks:List OT)(K:V->Prop)(xs:Zr):Prop:=Wb f λn=>zT P n ks xs K
def kW P [Lg P](l:List EF)(s:St)(i:Nat)(K:St->Prop)(a:Zr):Prop:=if a=[]then YP P l s K else YP P l (YI s i<|.v<|.am<|.bool xw::a) K
def kT(_:V):Prop:=True
section
variable {P:Z6}[Lg P]{N R:St->Prop}{X:Nat->St->Prop}{K:St->Prop}{s t u:St}
@[simp]theorem ZeA b:kS P b N X R s↔Yw P b s N X R:=Zjd
@[simp]theorem Zgj id:xB id N X id s↔N s:=by simp[xB]
def Kg id i:xB id N X i s↔if i=id then N s else X i s:=Zjd
@[simp]theorem Zgi{id i}(h:i≠id):xB id N X i s↔X i s:=by simp[xB,h]
@[simp]theorem Zez a outs:kR a outs K t↔SR t a/\Ub outs t t K:=Zjd
@[simp]theorem Zey l i x:kO l t u i K x↔Ub l t (YI u i x) K:=Zjd
@[simp]theorem Zex l i x:kL P l s i K x↔YP P l (YI s i<|.v x) K:=Zjd
@[simp]theorem Zew f fr fl K xs:kA P f fr fl K xs↔R4 P f fr fl xs K:=Zjd
@[simp]theorem Zeu v fr fl K xs:By P (J v) fr fl K xs↔Qo P fr fl K xs v:=Zjd
@[simp]theorem Zet(f:Zp)(fr fl:Bool)(K:V->Prop)(xs:Zr):Qo P fr fl K xs (.fn f)↔R4 P f fr fl xs K:=by simp[Qo,J5]
@[simp]theorem Zes f cs fr fl K xs:Qo P fr fl K xs (.cq f cs)↔R4 P f fr fl (xs++cs) K:=by simp[Qo,J5]
@[simp]theorem Zev f ks K xs:Bz P (J f) ks K xs↔zT P f ks xs K:=Zjd
@[simp]theorem ZeD(l:List EF)(i:Nat):kW P l s i K []↔YP P l s K:=by simp[kW]
@[simp]theorem ZeC l i x a:kW P l s i K (x::a)↔YP P l (YI s i<|.v<|.am<|.bool xw::x::a) K:=by simp[kW]
@[simp]theorem ZeB x:kT x↔True:=Zjd
@[simp]theorem Zge r:Yw P (.ao r) s N X R↔jT P r s N:=Zjd
@[simp]theorem Zgh:Yw P .skip s N X R↔N s:=Zjd
@[simp]theorem Zgg a b:Yw P (.seq a b) s N X R↔Yw P a s (kS P b N X R) X R:=Zjd
@[simp]theorem Zgc c a b:Yw P (.cond c a b) s N X R↔AA (eval s c) (Yw P a s N X R) (Yw P b s N X R):=by
 rfl
@[simp]theorem Zgb id a:Yw P (.block id a) s N X R↔Yw P a s N (xB id N X) R:=Zjd
@[simp]theorem Zgd id:Yw P (.exit id) s N X R↔X id s:=Zjd
@[simp]theorem Zgf:Yw P .ret s N X R↔R s:=Zjd
def S6{keep a}(I:St->Prop)(μ:St->Nat)(f:I<|YY keep s)(g:∀s,I s->Yw P a s (λd=>I (YY keep d)/\μ (YY keep d)<μ s) X R):Yw P (.loop keep a) s N X R:=⟨I,μ,f,g⟩
@[simp]theorem Zga d a outs:jT P ⟨d,a,outs⟩ s K↔YP P d s (kR a outs K):=Zjd
@[simp]theorem Zg9:Ub [] t u K↔K u:=Zjd
@[simp]theorem Zg8 i o l:Ub ((i,o)::l) t u K↔Wb (V3 t o) (kO l t u i K):=by
 simp[Ub,kO];cases V3 t o<;>rfl
@[simp]theorem Zg2:SR t []↔True:=Zjd
@[simp]theorem Zg1 C e l:SR t ((C,e)::l)↔(VW t C=xk->Wb (eval t e) kT)/\SR t l:=by
 simp[SR,kT];cases eval t e<;>simp
@[simp]theorem Zg7:YP P [] s K↔K s:=Zjd
@[simp]theorem Zg6 i C e l:YP P (.lt i C e::l) s K↔if VW s C=xk then Wb (eval s e) (kL P l s i K)else YP P l s K:=by
 simp[YP,kL];cases eval s e<;>rfl
@[simp]theorem Zg3 i C f fr fl es l:YP P (.call i C (.id f) fr fl es::l) s K↔if VW s C=xk then Wb (YH s es) (kA P f fr fl<|kL P l s i K)else YP P l s K:=by
 simp[YP,Wb,R4,T9];cases YH s es<;>simp
@[simp]theorem Zg4 i C x fr fl es l:YP P (.call i C (.e x) fr fl es::l) s K↔if VW s C=xk then Wb (YH s es) (By P (eval s x) fr fl<|kL P l s i K)else YP P l s K:=by
 simp[YP,Wb,By,Qo,R4,T9];cases YH s es with
 |none=>simp
 |some d=>
  cases eval s x with
  |none=>simp
  |some v=>cases a:J5 v<;>simp[a]
@[simp]theorem Zg5 i C f ks es l:YP P (.co i C f ks es::l) s K↔
  if VW s C=xk then Wb (YH s es)<|Bz P (VD s f) ks<|kL P l s i K
  else Wb (WI s ks es)<|kW P l s i K:=by
 simp[YP,Wb,zT,Bz,kW];split;cases YH s es<;>cases VD s f<;>simp
 cases WI s ks es with
 |none=>simp
 |some a=>cases a<;>simp
@[simp]theorem Zfk e:V3 t (.v e)=(eval t e).map .v:=rfl
@[simp]theorem Zfi l:V3 t (.m l)=(YH t l).map .m:=rfl
@[simp]theorem Zfj:V3 t .no=J .no:=rfl
@[simp]theorem Zen:VW s []=xk:=rfl
def Z4x i b(C:ZF):VW s ((i,b)::C)=((match get s i with|.v (.bool c)=>c==b|_=>xw)&&VW s C):=rfl
end
@[simp]theorem Zel x(s:St):get (x::s) 0=x:=rfl
@[simp]theorem Zek x(s:St)n:get (x::s) (n+1)=get s n:=by simp[get]
@[simp]theorem Zfp x y(s:St):YI (y::s) 0 x=x::s:=rfl
@[simp]theorem Zfo x y(s:St)n:YI (y::s) (n+1) x=y::YI s n x:=rfl
@[simp]theorem Zfn x:YI [] 0 x=[x]:=rfl
@[simp]theorem Zfm x n:YI [] (n+1) x=.no::YI [] n x:=rfl
@[simp]theorem Zfh s:YY [] s=[]:=rfl
@[simp]theorem Zfg i l s:YY (i::l) s=YI (YY l s) i (get s i):=rfl
attribute [simp] LD eval YH Z4x Ws Tq U6 Qb Qa XC JJ R1 TA VD WI
section
variable {k:IntKind}{a b:Int}{x y:V}{l r:Zr}
@[simp]theorem ZcM:Xd .add (.int k a) (.int k b)=J (.int k<|k.wrap<|a+b):=by simp[Xd]
@[simp]theorem ZcW:Xd .sub (.int k a) (.int k b)=J (.int k<|k.wrap<|a-b):=by simp[Xd]
@[simp]theorem ZcS:Xd .mul (.int k a) (.int k b)=J (.int k<|k.wrap<|a*b):=by simp[Xd]
@[simp]theorem ZcU:Xd .quo (.int k a) (.int k b)=if b≠0 then J (.int k<|k.wrap<|a.tdiv b)else U:=by simp[Xd]
@[simp]theorem ZcV:Xd .rem (.int k a) (.int k b)=if b≠0 then J (.int k<|a.tmod b)else U:=by simp[Xd]
@[simp]theorem ZcN:Xd .eql (.int k a) (.int k b)=J (.bool<|decide (a=b)):=by simp[Xd];rfl
@[simp]theorem ZcT:Xd .neq (.int k a) (.int k b)=J (.bool<|!decide (a=b)):=by simp[Xd];rfl
@[simp]theorem ZcR:Xd .lss (.int k a) (.int k b)=J (.bool<|decide (a<b)):=by simp[Xd]
@[simp]theorem ZcQ:Xd .leq (.int k a) (.int k b)=J (.bool<|decide (a<=b)):=by simp[Xd]
@[simp]theorem ZcP:Xd .gtr (.int k a) (.int k b)=J (.bool<|decide (b<a)):=by simp[Xd]
@[simp]theorem ZcO:Xd .geq (.int k a) (.int k b)=J (.bool<|decide (b<=a)):=by simp[Xd]
@[simp]theorem Zdj p q n:R7 n (.bool p) (.bool q)=J (.bool<|n ^^ (p==q)):=rfl
@[simp]theorem ZfU:SM .neg (.int k a)=J (.int k<|k.wrap<|0-a):=rfl
@[simp]theorem ZfV p:SM .not (.bool p)=J (.bool !p):=rfl
@[simp]theorem Zdi k':J7 k' (.int k a)=J (.int k'<|k'.wrap a):=rfl
@[simp]theorem ZeE:Qs (.sl l)=J (.int .i64<|I l):=rfl
@[simp]theorem ZeK id vs:Ri (.mp id l vs)=J (.int .i64<|I l):=rfl
@[simp]theorem ZeH id vs:L7 (.mp id l vs)=J (.mp id [] []):=rfl
@[simp]theorem ZeI:Qx (.int k a) (.int k b)=J (.int k<|if b<a then b else a):=rfl
@[simp]theorem ZeG:Qw (.int k a) (.int k b)=J (.int k<|if b>a then b else a):=rfl
@[simp]theorem Zdk i:Sb (.am l) i=l[i]? :=rfl
@[simp]theorem Zep(i n:Nat):Xc (.sl l) (.int k i) n=(l[i]?).bind λz=>if I z.cells=n then J z else U:=by simp[Xc]
@[simp]theorem Zd4:(V.int k a).cells=[V.int k a]:=rfl
@[simp]theorem Zd2 p:(V.bool p).cells=[V.bool p]:=rfl
@[simp]theorem Zd7 s:(V.str s).cells=[V.str s]:=rfl
@[simp]theorem Zd6:(V.sl l).cells=[V.sl l]:=rfl
@[simp]theorem Zd0:(V.agg l).cells=l:=rfl
@[simp]theorem Zd5 id:(V.mp id l r).cells=[V.mp id l r]:=rfl
@[simp]theorem Zd3 f:(V.fn f).cells=[V.fn f]:=rfl
@[simp]theorem Zfc:(V.int k a).one=xk:=rfl
@[simp]theorem Zf8 p:(V.bool p).one=xk:=rfl
@[simp]theorem Zff:(V.sl l).one=xk:=rfl
@[simp]theorem Zfd id:(V.mp id l r).one=xk:=rfl
@[simp]theorem Zfb f:(V.fn f).one=xk:=rfl
@[simp]theorem Zf7:(V.agg l).one=xw:=rfl
@[simp]theorem Zf1:YU (.int k a)=J (.int k a):=rfl
@[simp]theorem ZeX p:YU (.bool p)=J (.bool p):=rfl
@[simp]theorem Zf5 s:YU (.str s)=J (.str s):=rfl
@[simp]theorem Zf4:YU (.sl l)=J (.sl l):=rfl
@[simp]theorem Zf2 id:YU (.mp id l r)=J (.mp id l r):=rfl
@[simp]theorem Zf0 f:YU (.fn f)=J (.fn f):=rfl
@[simp]theorem Zdn o:Y0 (.agg l) o=(l[o]?).bind YU:=rfl
@[simp]theorem ZdJ:Y0 (.int k a) 0=J (.int k a):=rfl
@[simp]theorem Zdo p:Y0 (.bool p) 0=J (.bool p):=rfl
@[simp]theorem Ze9:Y0 (.sl l) 0=J (.sl l):=rfl
@[simp]theorem Zea s:Y0 (.str s) 0=J (.str s):=rfl
@[simp]theorem Zeb o n:UC (.agg l) o n=if o+n<=(I l) then J (.agg<|(l.drop o).take n)else U:=rfl
@[simp]theorem ZfI n:VL (.agg l) n=if I l=n then J (.agg l)else U:=rfl
@[simp]theorem Zeq:Qn (.agg l)=J (.agg l):=rfl
@[simp]theorem ZfH:Tu (.ptr l)=J (.agg l):=rfl
@[simp]theorem Zer p A B:Js (.bool p) A B=if p=xk then A else B:=by cases p<;>rfl
@[simp]theorem Zcy:S7 l=.agg (flat l):=rfl
@[simp]theorem Zdl:flat (x::l)=x.cells++flat l:=rfl
@[simp]theorem Zdm:flat []=[]:=rfl
@[simp]theorem ZcL n:RZ n (.sl l) (.sl r)=if I l+I r<=Y4/\Xv n r=xk then J (.sl<|l++r)else U:=rfl
@[simp]theorem ZfA n:Xv n []=xk:=rfl
@[simp]theorem Zfx n:Xv n (x::l)=(I x.cells==n&&Xv n l):=rfl
def JY{α:Type}{f n}{l:List α}(h:∀x,(f x).cells.length=n):Xv n (l.map f)=xk:=by
 simp[Xv,h]
abbrev Z8:=List Int
@[simp]theorem zc(l:Z8):Xv 1 (l.map<|V.int k)=xk:=JY λ_=>rfl
@[simp]theorem ZeJ(n:Nat):L9 x (.int k n)=if n<=Y4 then J (.sl<|List.replicate n x)else U:=by
 simp only[L9];have:(n<=Y4)↔n<=Y4:=Z0;simp
@[simp]theorem Zav(i j n:Nat):RF n (.sl l) (.int k i) (.int k j)=if i<=j/\j<=I l/\Xv n l=xk then J (.sl<|(l.take j).drop i)else U:=by
 simp[RF]
@[simp]theorem ZfF(i n:Nat):QP n (.sl l) (.int k (i:Int))=if i<=I l/\Xv n l=xk then J (.sl<|l.drop i)else U:=by
 simp[QP]
@[simp]theorem ZfW(i o:Nat):RL (.sl l) (.int k i) o y=(l[i]?).bind λz=>if o+I y.cells<=I z.cells/\y.cells≠[]then J (.sl<|l.set i<|z.put o y.cells)else U:=by
 simp[RL]
end
abbrev vi(n:Int):V:=.int .i64 n
abbrev vu(n:Int):V:=.int .u64 n
@[simp]theorem ZeM(n:Nat):((n:Int)<0)↔False:=by simp
def Zy n(a: -9223372036854775808<=n)(h2:n<=9223372036854775807):IntKind.i64.wrap n=n:=by
 rw[IntKind.wrap_i64];omega
end
end Vm
end
section
namespace Vm
open Go Go.ChangeShapes Go.WideShapes Go.ChangeAt Go.RowKit
section
def KP(P:Z6)(n:Nat):List Field->Nat->Bool
 | [],o=>o==n
 |f::l,o=>f.offset==o&&KP P n l (o+P.cellsOf f.type)
def Sr(P:Z6):Nat->TypeId->Bool
 |0,_=>xw
 |n+1,t=>match P.underlying t with
  |some .bool|some (.int _)|some .string=>xk
  |some (.slice e)=>Sr P n e&&decide (0<P.cellsOf e)
  |some (.struct a)=>KP P (P.cellsOf t) a.toList 0&&a.toList.all λf=>Sr P n f.type
  |some (.array m e)=>Sr P n e&&m*P.cellsOf e==P.cellsOf t
  |_=>xw
def Xm(P:Z6):Nat->TypeId->V->Prop
 |0,_,_=>False
 |n+1,t,x=>match P.underlying t with
  |some .bool=>∃b,x=.bool b
  |some (.int k)=>∃m,x=.int k m/\(Lit.int k m).wf=xk
  |some .string=>∃s,x=.str s/\s.size<=maxLen
  |some (.slice e)=>∃l,x=.sl l/\I l<=maxLen/\∀y∈l,Xm P n e y
  |some (.struct d)=>∃a,x=.agg (flat a)/\I a=I d.toList/\∀(i:Nat) (f:Field) (y:V),d.toList[i]?=J f->a[i]?=J y->Xm P n f.type y
  |some (.array m e)=>∃a,x=.agg (flat a)/\I a=m/\∀y∈a,Xm P n e y
  |_=>False
def RdC(w:Z3)(G:Z4)(cs:Zr)(vs:Zm):Prop:=
 I vs=I cs/\∀(i:Nat) (c:V),cs[i]?=J c->c.one=xk/\∃u,vs[i]?=J u/\Rd w G c u
def RdC.nil{w G}:RdC w G [] []:=⟨rfl,λi c h=>ZgY⟩
def RdC.append{w G cs d vs f}(h:RdC w G cs vs)(h':RdC w G d f):RdC w G (cs++d)<|vs++f:=by
 refine⟨by simp[h.1,h'.1],λi c g=> ?_⟩;rw[List.getElem?_append]at g⊢;rw[h.1];split at g;rename_i a;rw[Zht a];exact h.2 i c g;rename_i a;rw[Zhs a];exact h'.2 _ c g
theorem RdC.one{w G c v}(a:c.one=xk)(h:Rd w G c v):RdC w G [c] [v]:=
 ⟨rfl,λi x d=>by
  grind⟩
def zW{α:Type}{Q:Nat->α->Prop}:∀n,(∀i,i<n->∃y,Q i y)->∃l:List α,I l=n/\∀i y,l[i]?=J y->Q i y
 |0,_=>Z1
 |n+1,h=>by
  let⟨l,d,f⟩:=zW n λi o=>h i Z0;let⟨y,j⟩:=h n Z0;refine⟨l++[y],by simp[d],λi z a=> ?_⟩;rw[List.getElem?_append]at a;split at a;exact f i z a;rename_i g;rw[List.getElem?_singleton]at a;split at a;rename_i k;have:i=n:=Z0;subst this;simp[Zhh]at a;subst a;exact j;cases a
def At{w:Z3}{b a n cs}(h:w.cells? b a n=J cs):I cs=n/\∀i,i<n->w.cell? (a.add i)=cs[i]? :=by
 unfold World.cells? at h;split at h;have d:=mapM_some_length h;rw[List.length_range]at d;refine⟨d,λi f=>mapM_some_get h i i ?_⟩;simp_all;cases h
def Z3n{w:Z3}{a v}(h:w.cell? a=J v):a.block<xz (xj w):=by
 grind [World.cell?]
def Dd{w G}:∀ {ys} {a:List (List Value)},I a=I ys->(∀(i:Nat) y vs,ys[i]?=J y->a[i]?=J vs->RdC w G y.cells vs)->RdC w G (flat ys) a.flatten
 | [],[],_,_=>by simpa using RdC.nil
 | [],_::_,h,_=>ZgY
 |_::_,[],h,_=>ZgY
 |y::ys,vs::a,h,d=>by
  exact(d 0 y vs rfl rfl).append (Dd Zgl λi z f j g=>d (i+1) z f Zgl Zgl)
def H2{P n}{cs:Zm}:∀ {l} {o:Nat},KP P n l o=xk->o<=n/\(I cs=n->cs.drop o=(l.map λf=>(cs.drop f.offset).take<|P.cellsOf f.type).flatten)
 | [],o,h=>by
   simp_all[KP,Zia]
 |f::l,o,h=>by
  simp[KP,Zia]at h;let⟨d,a⟩:=h;let⟨g,j⟩:=H2 (cs:=cs) a;refine⟨Z0,λk=> ?_⟩;grind [List.drop_drop,List.take_append_drop]
def Z2y{cs:Zm}{k}:∀ {m},I cs=m*k->cs=((List.range m).map λi=>(cs.drop<|i*k).take k).flatten:=by
 have:∀m (cs:Zm),cs.take (m*k)=((List.range m).map λi=>(cs.drop<|i*k).take k).flatten:=by
  intro m;induction m with
  |zero=>simp
  |succ m d=>
   simp_all[ZjG,Ziv,List.flatten_append,ZiG,List.take_add]
 intro m h;have a:=this m cs;grind
section
abbrev Zgk:=Nat->Bool
variable {H:Type}{enc:TypeId×Value->H}{P:Z6}{w:Z3}{spare:Zgk}{held:Bool}
def jf:∀ {n} {t:Zf} {C:Nat} {cs:Zm} {d:DataW H×List MemPlace},Sr P n t=xk->DataW.trod enc P w 0 spare held C t cs=J d->
  ∃x,Xm P n t x/\RdC w (λb=>b<xz (xj w)) x.cells cs
 |0,t,C,cs,d,L,h=>by cases L
 |n+1,t,C,cs,d,L,h=>by
  unfold Sr at L;unfold Xm;split at L;rename_i N;obtain⟨b,rfl,_⟩:=DataW.trod_bool N h;exact⟨.bool b,⟨b,rfl⟩,.one rfl<|.bool b⟩;rename_i k N;obtain⟨m,rfl,_,hw⟩:=DataW.trod_int N h;exact⟨.int k m,Zgm,.one rfl<|.int k m⟩;rename_i N;obtain⟨s,rfl,_,hw⟩:=DataW.trod_string N h;exact⟨.str s,Zgm,.one rfl<|.str s⟩;rename_i e N;simp only[Zhl,ZhS]at L;let⟨M,A⟩:=L;obtain⟨rfl,_⟩|⟨a,len,cap,a8,b3,m,_,rfl,_,_,b5,a4,b4,D,_⟩:=DataW.trod_slice N h;exact⟨.sl [],Z1,.one rfl<|.nil _ _ Z0⟩;have F:∀i,i<len->∃y,Xm P n e y/\∃vs,w.cells? 0 (a.add<|i*P.cellsOf e) (P.cellsOf e)=J vs/\RdC w (λb=>b<xz (xj w)) y.cells vs:=by
   intro i g;have p:=D i g;rw[Zhi Z0]at p;simp only[Zhg]at p;let⟨vs,S,B⟩:=p;let⟨y,r,T⟩:=jf M B;exact⟨y,r,vs,S,T⟩
  let⟨l,b1,a1⟩:=zW len F;have b6:∀y∈l,Xm P n e y:=λy r=>by
   let⟨i,g⟩:=ZhI r;exact(a1 i y g).1
  refine⟨.sl l,Zgl,.one rfl ?_⟩;cases a5:len with
  |zero=>
   have:l=[]:=Zgm;subst this;exact .nil _ _ a4
  |succ b2=>
   let⟨b,o,a0⟩:=a;have a2:a0=U:=by
    let⟨y,_,vs,O,_⟩:=F 0 Z0;let⟨p,S⟩:=At O;have B:=S 0 A;rw[Zhi Z0]at B;have h4:=World.cell?_spot B;obtain _|s:=a0;rfl;simp[Addr.add]at h4
   subst a2;have z:∀(i j:Nat) (y:V),l[i]?=J y->j<P.cellsOf e->∃(u:Ze),w.cell? ⟨b,o+(i*P.cellsOf e+j),U⟩=J u/\∃c,y.cells[j]?=J c/\c.one=xk/\Rd w (λb=>b<xz (xj w)) c u:=by
    intro i j y r Z;let⟨_,vs,O,T⟩:=a1 i y r;let⟨p,S⟩:=At O;have B:=S j Z;rw[ZiX,ZiX,Zhi Z0]at B;have b7:j<I y.cells:=by rw[<-T.1];omega
    let⟨q1,u,q2,q3⟩:=T.2 j y.cells[j] Z1;rw[Zhi Z0,Zhh]at q2;subst q2;exact⟨_,by rw[<-Ziw];exact B,_,Z1,q1,q3⟩
   have K:∀y∈l,y.au<|P.cellsOf e:=λy r=>by
    let⟨i,g⟩:=ZhI r;let⟨_,vs,O,T⟩:=a1 i y g;refine⟨by rw[<-T.1,(At O).1],λc hc=> ?_⟩;let⟨j,Z⟩:=ZhI hc;exact(T.2 j c Z).1
   have Y:∀i,i<I l*P.cellsOf e->∃y,l[i / P.cellsOf e]?=J y/\i%P.cellsOf e<P.cellsOf e/\i=i / P.cellsOf e*P.cellsOf e+i%P.cellsOf e:=by
    intro i g;have p:=(Zlr A).2 g;exact⟨_,Zhi p,ZkF _ A,by rw[Nat.mul_comm];exact(Nat.div_add_mod _ _).symm⟩
   have hb:b<xz (xj w):=by
    obtain⟨y,r⟩:∃y,l[0]?=J y:=⟨_,Zhi Z0⟩;let⟨u,hu,_⟩:=z 0 0 y r A;exact Z3n hu
   have a6:=Rd.sl (w:=w) (G:=λb=>b<xz (xj w)) l b o cap (P.cellsOf e) (λi=>(w.cell? ⟨b,o+i,U⟩).getD xy) Z0 a4 hb K (λi g=> ?_) (λi c g=> ?_);rw[b1,a5]at a6;exact a6;let⟨y,p,S,B⟩:=Y i g;let⟨u,hu,_⟩:=z _ _ y p S;rw[<-B]at hu;rw[hu];rfl;have b0:i<I l*P.cellsOf e:=by
    rw[<-Sc K];exact(Zhj.1 g).1
   let⟨y,p,S,B⟩:=Y i b0;let⟨u,hu,c',a9,_,T⟩:=z _ _ y p S;rw[<-B]at hu;rw[B,VT K p _ S,a9]at g;cases g;simp only[hu,ZhP];exact T
  rename_i fs N;simp only[Zhl,Zhw]at L;let⟨M,A⟩:=L;let⟨xs,m,_,_,a3,a7,D⟩:=DataW.trod_struct N h
  let⟨ys,R,W⟩:=zW (Q:=λi y=>∀f,fs.toList[i]?=J f->Xm P n f.type y/\RdC w (λb=>b<xz (xj w)) y.cells ((cs.drop f.offset).take<|P.cellsOf f.type)) (I fs.toList) (by
   intro i g;have hf:fs.toList[i]?=J fs.toList[i]:=Z1;have p:=D i fs.toList[i] Z1;rw[Zhi (by rw[a7];exact g)]at p;let⟨y,r,T⟩:=jf (A _<|ZhE g) p;exact⟨y,Zgl⟩)
  refine⟨.agg<|flat ys,⟨ys,rfl,R,λi f y hf r=>Zgl⟩,?_⟩;have X:=(H2 (cs:=cs) M).2 a3;rw[List.drop_zero]at X;rw[X];refine Dd (by simp[R]) λi y vs r O=> ?_;rw[ZhG,Zhk]at O;obtain⟨f,hf,rfl⟩:=O;exact(W i y r f hf).2;rename_i m e N;simp only[Zhl,Zia]at L;let⟨M,A⟩:=L;let⟨xs,q,_,_,a3,a7,D⟩:=DataW.trod_array N h
  let⟨ys,R,W⟩:=zW (Q:=λi y=>Xm P n e y/\RdC w (λb=>b<xz (xj w)) y.cells ((cs.drop<|i*P.cellsOf e).take<|P.cellsOf e)) m (by
   intro i g;have p:=D i g;rw[Zhi Z0]at p;exact jf M p)
  refine⟨.agg<|flat ys,⟨ys,rfl,R,λy r=> ?_⟩,?_⟩;let⟨i,g⟩:=ZhI r;exact(W i y g).1;rw[Z2y (cs:=cs) (k:=P.cellsOf e) (m:=m) Z0];refine Dd (by simp[R]) λi y vs r O=> ?_;rw[ZhG,Zhk]at O;obtain⟨j,Z,rfl⟩:=O;have:j=i:=by
   rw[Zhj]at Z;let⟨_,Z⟩:=Z;simpa using Z.symm
  subst this;exact(W j y r).2;cases L
def Z92{n t v d F r D}(j:Sr P n t=xk)(a:Value.okWide P w r D t v)(h:DataW.Trod enc P w 0 spare held t v d F):
  ∃x,Xm P n t x/\Rd w (λb=>b<xz (xj w)) x v:=by
 let⟨B,h⟩:=h;let⟨x,g,l⟩:=jf j h;refine⟨x,g,?_⟩;have o:∀ {c},x=c->c.cells=[c]->v.cells.toList=[v]->Rd w (λb=>b<xz (xj w)) x v:=by
  intro c y q A;subst y;rw[q,A]at l;let⟨_,u,p,C⟩:=l.2 0 x rfl;simp at p;subst p;exact C
 have K:∀ {cs} {vs:Zb},x=.agg cs->v=.agg vs->Rd w (λb=>b<xz (xj w)) x v:=by
  intro cs vs y A;subst y A;refine .agg cs vs (by have:=l.1;simpa[Value.cells]using this) (λc q=> ?_) λi c z=> ?_;let⟨i,z⟩:=ZhI q;exact(l.2 i c z).1;let⟨_,u,p,C⟩:=l.2 i c z;have:vs.getD i xy=u:=by
   have G:vs[i]?=J u:=by simpa[Value.cells]using p
   simp[G]
  grind
 cases n with
 |zero=>cases j
 |succ n=>
  unfold Sr at j;unfold Xm at g;split at j;rename_i f;rw[f]at g;obtain⟨b,rfl⟩:=g;obtain⟨c,rfl⟩:=okWide_bool f a;exact o rfl rfl rfl;rename_i k f;rw[f]at g;obtain⟨b,rfl,_⟩:=g;obtain⟨c,rfl⟩:=okWide_int f a;exact o rfl rfl rfl;rename_i f;rw[f]at g;obtain⟨b,rfl,_⟩:=g;obtain⟨c,rfl⟩:=okWide_string f a;exact o rfl rfl rfl;rename_i e f;rw[f]at g;obtain⟨b,rfl,_⟩:=g;obtain⟨c,_,_,rfl⟩:=okWide_slice f a;exact o rfl rfl rfl;rename_i H f;rw[f]at g;simp[Value.okWide]at a;grind;rename_i m e f;rw[f]at g;simp[Value.okWide]at a;grind;cases j
def OE{n r F}:∀ {ts} {vs:Zm} {l:List (DataW H)} {z:List MemPlace},DataW.TrodAll enc P w 0 spare held ts vs l z->(∀t∈ts,Sr P n t=xk)->
  (∀(j:Nat) t v,ts[j]?=J t->vs[j]?=J v->Value.okWide P w r F t v)->
  ∃k:Zr,I k=I vs/\I vs=I ts/\I l=I ts/\(∀(i:Nat) t x,ts[i]?=J t->k[i]?=J x->Xm P n t x)/\∀(i:Nat) x v,k[i]?=J x->vs[i]?=J v->Rd w (λb=>b<xz (xj w)) x v
 | [],vs,l,z,h,_,_=>by
   obtain⟨rfl,rfl,rfl⟩:=trodAll_nil h;simp
 |t::ts,vs,l,z,h,D,a=>by
  obtain⟨v,S,d,G,p,q,rfl,rfl,rfl,K,L⟩:=trodAll_cons h;let⟨x,u,y⟩:=Z92 (D t Z1) (a 0 t v rfl rfl) K;let⟨k,M,N,R,O,Q⟩:=OE L (λt g=>D t<|by simp[g]) λj A B g o=>a (j+1) A B Zgl Zgl;refine⟨x::k,by simp[M],by simp[N],by simp[R],λi A C g f=> ?_,λi C B f o=> ?_⟩;cases i with
  |zero=>simp at g f;subst g f;exact u
  |succ i=>exact O i A C Zgl ZgD
  cases i with
  |zero=>simp at o f;subst o f;exact y
  |succ i=>exact Q i C B ZgD Zgl
def FT{W W'}(k:laidOutB P=xk)(g:Below (xz<|xj W) W W'):∀ {ts} {vs:Zm} {f:List (DataW H)} {a:List MemPlace},DataW.TrodAll enc P W 0 (λ_=>xk) xk ts vs f a->
  (∀t∈ts,P.readableRec t=xk/\t<P.types.size)->(∀x∈a,x.block<xz (xj W))->DataW.TrodAll enc P W' 0 (λb=>decide (b<xz (xj W))) xk ts vs f a
 | [],vs,f,a,h,_,_=>by
   obtain⟨rfl,rfl,rfl⟩:=trodAll_nil h;rfl
 |t::ts,vs,f,a,h,j,r=>by
  obtain⟨v,w,d,l,p,q,rfl,rfl,rfl,n,o⟩:=trodAll_cons h;exact trodAll_cons_mk (Below.trod k (j t Z1).1 (j t Z1).2 n g λx u=>Zgm) (FT k g o Zgm λx u=>Zgm)
end
def Z5W{P} [Lg P]{f fn}{s:ChangeSpec}{tb}n(S:laidOutB P=xk)(C:(fn.params.toList.all λt=>Sr P n t)=xk)(k:(fn.params.toList.all λt=>P.readableRec t&&decide (t<P.types.size))=xk)
  (a:s.vars=[]) (u:fn.resultTypes=#[tb]) (O:P.underlying tb=J .bool)
  (h:∀H ds,I ds=I fn.params.toList->s.fn H ds= {results:=[.lit<|.bool xk],args:=ds})
  (o:∀y,I y=I fn.params.toList->(∀(i:Nat) t x,fn.params.toList[i]?=J t->y[i]?=J x->Xm P n t x)->VC P f xw y (.bool xk))
  H enc W base args (ds gs:List<|DataW H) d
  (w:∀(j:Nat) t v,fn.params[j]?=J t->args[j]?=J v->Value.okWide P W .any base t v)
  (A:DataW.Whole enc P fn.params.toList s.vars xw W args.toList ds gs d):
  Lg.kx P f args W λe G=>∃v,e=.returned v/\s.post enc P fn xw xk xw xw W args v G:=by
 have r:=λx z=>by simpa using A.lt x z
 have l:=A;obtain⟨p,q,K,L,rfl,_,_⟩:=A;rw[a]at L;obtain⟨rfl,rfl⟩:=trodVars_none L;rw[ZiE]at r l;let⟨y,N,T,q5,X,Y⟩:=OE (n:=n) K (Zhw.1 C) λj t v M Z=>w j t v Zgl Zgl;let⟨_,F⟩:=o y (by rw[N,T]) X;refine Lg.dw (F W (λb=>b<xz (xj W)) args Z0 Zgl λi x z=> ?_) λe G Q=> ?_;have R:i<I args.toList:=by rw[<-N];exact(Zhj.1 z).1
 have:args.getD i xy=args.toList[i]:=by
  have B:i<args.size:=by simpa using R
  simp[Zhn,B]
 rw[this];exact Y i x _ z Z1;obtain⟨v,rfl,g,D⟩:=Q;cases D;refine⟨_,rfl,ds,[],p,[],p,[],l,?_,?_,?_,g.frame _,Z1⟩;rw[h H _ Zgl,u];exact trodAll_mk1<|shut_bool O xk;rw[h H _ Zgl,ZiE];exact FT S g K (λt M=>by simpa using Zhw.1 k t M) r;rw[a,h H _ Zgl];rfl
def IO{α:Type}{enc}{Q:α->Prop}:∀ {l:Zr},(∀y∈l,∃a,y=enc a/\Q a)->∃d:List α,l=d.map enc/\∀a∈d,Q a
 | [],_=>Z1
 |y::l,h=>by
  obtain⟨a,rfl,g⟩:=h y Z1;obtain⟨d,rfl,j⟩:=IO (l:=l) λz f=>h z<|Zi0 _ f;exact⟨a::d,rfl,Zgm⟩
def t5{P n t x k}(d:P.underlying t=J (.int k))(h:Xm P (n+1) t x):∃m,x=.int k m/\k.min<=m/\m<=k.max:=by
 unfold Xm at h;rw[d]at h;obtain⟨m,rfl,a⟩:=h;simp[Lit.wf,ZhS]at a;exact⟨m,rfl,a⟩
def DY{P n t e x}{α:Type}{enc}{Q:α->Prop}(g:P.underlying t=J (.slice e))(h:Xm P (n+1) t x)(f:∀y,Xm P n e y->∃a,y=enc a/\Q a):∃l:List α,x=.sl (l.map enc)/\I l<=maxLen/\∀a∈l,Q a:=by
 unfold Xm at h;rw[g]at h;obtain⟨l,rfl,k,d⟩:=h;obtain⟨p,rfl,o⟩:=IO λy j=>f y<|d y j;grind
def t8{P n t x fs}(d:P.underlying t=J (.struct fs))(h:Xm P (n+1) t x):∃a,x=.agg (flat a)/\I a=I fs.toList/\∀(i:Nat) f y,fs.toList[i]?=J f->a[i]?=J y->Xm P n f.type y:=by
 simp_all[Xm]
end
end Vm
end
section
namespace Vm
open Go Go.Proofs
section
def U3(s:St):List (Nat×SV)->St
 | []=>s
 |(i,x)::l=>U3 (YI s i x) l
@[simp]theorem Zfr(s:St):U3 s []=s:=rfl
@[simp]theorem Zfq(s:St)(i:Nat)(x:SV)(l:List<|Nat×SV):U3 s ((i,x)::l)=U3 (YI s i x) l:=rfl
section
variable {P:Z6}[Lg P]{K K':St->Prop}
def Z0u(d:∀s,K s->K' s){t:St}:∀ {l:List (Nat×OV)} {u:St},Ub l t u K->Ub l t u K'
 | [],_,h=>d _ h
 | (i,o)::l,u,h=>by
   simp only[Ub]at h⊢;split;rename_i x a;rw[a]at h;exact Z0u d h;rename_i a;rw[a]at h;exact h
def RQ(g:∀s,K s->K' s):∀ {l:List EF} {s:St},YP P l s K->YP P l s K'
 | [],_,h=>g _ h
 | .lt i C e::l,s,h=>by
   simp only[YP]at h⊢;split;rename_i a;rw[Zht a]at h;split;rename_i x d;rw[d]at h;exact RQ g h;rename_i d;rw[d]at h;exact h;rename_i a;rw[Zhs a]at h;exact RQ g h
 | .call i C f u fl t::l,s,h=>by
   simp only[YP]at h⊢;split;rename_i a;rw[Zht a]at h;split;rename_i x n d k;rw[d,k]at h;obtain⟨r,j,o,p⟩:=h;exact⟨r,j,o,RQ g p⟩;rename_i q;split at h;rename_i x n d k;exact(q x n d k).elim;exact h;rename_i a;rw[Zhs a]at h;exact RQ g h
 | .co i C f w t::l,s,h=>by
   simp only[YP]at h⊢;split;rename_i a;rw[Zht a]at h;split;rename_i x n d k;rw[d,k]at h;obtain⟨r,j,p⟩:=h;exact⟨r,j,RQ g p⟩;rename_i d;split at h;rename_i x n j o;exact(d x n j o).elim;exact h;rename_i a;rw[Zhs a]at h;split at h;exact RQ g h;exact RQ g h;exact h.elim
def RS:∀ {a:Stm} {s:St} {N p R q:St->Prop} {X u:Nat->St->Prop},Yw P a s N X R->(∀s,N s->p s)->(∀i s,X i s->u i s)->(∀s,R s->q s)->Yw P a s p u q
 |.ao r,s,_,_,_,_,_,_,h,d,_,_=>RQ (λt j=>⟨j.1,Z0u d j.2⟩) h
 |.skip,s,_,_,_,_,_,_,h,d,_,_=>d _ h
 |.seq a b,s,_,_,_,_,_,_,h,d,g,f=>RS (a:=a) (s:=s) h (λt j=>RS (a:=b) (s:=t) j d g f) g f
 | .cond c a b,s,_,_,_,_,_,_,h,d,g,f=>by
   simp only[Yw]at h⊢;split;rename_i k;rw[k]at h;exact RS h d g f;rename_i k;rw[k]at h;exact RS h d g f;rename_i l n;split at h;rename_i k;exact(l k).elim;rename_i k;exact(n k).elim;exact h
 | .block id a,s,_,_,_,_,_,_,h,d,g,f=>RS (a:=a) (s:=s) h d (λi t j=>by
   split;rename_i o;rw[Zht o]at j;exact d _ j;rename_i o;rw[Zhs o]at j;exact g _ _ j) f
 | .loop w a,s,_,_,_,_,_,_,h,d,g,f=>by
   obtain⟨I,m,l,n⟩:=h;exact⟨I,m,l,λt j=>RS (a:=a) (s:=t) (n t j) (λ_ h=>h) g f⟩
 |.exit id,s,_,_,_,_,_,_,h,_,g,_=>g _ _ h
 |.ret,s,_,_,_,_,_,_,h,_,_,f=>f _ h
end
def RR{P:Z6} [Lg P]{keep:Za}{a:Stm}{s:St}{N R:St->Prop}{X:Nat->St->Prop}{ι:Type}(L:ι->List (Nat×SV))(Inv:ι->Prop)(m:St->Nat)(d:ι)
  (g:YY keep s=U3 (YY keep s) (L d)) (k:Inv d)
  (j:∀p,Inv p->Yw P a (U3 (YY keep s)<|L p) (λf=>∃q,Inv q/\YY keep f=U3 (YY keep s) (L q)/\m (U3 (YY keep s)<|L q)<m (U3 (YY keep s)<|L p)) X R):
  Yw P (.loop keep a) s N X R:=by
 refine⟨λt=>∃p,Inv p/\t=U3 (YY keep s) (L p),m,⟨d,k,g⟩,?_⟩;rintro t ⟨p,o,rfl⟩;refine RS (j p o) (λf u=> ?_) (λ_ _ h=>h) (λ_ h=>h);obtain⟨q,r,l,n⟩:=u;rw[l];exact⟨⟨q,r,rfl⟩,n⟩
def XR(c:Nat)(n:Nat)(t:St):Nat:=match get t c with|.v (.int _ k)=>n-k.toNat|_=>0
def VO{P:Z6} [Lg P]{keep:Za}{a:Stm}{s:St}{N R:St->Prop}{X:Nat->St->Prop}(c n:Nat)(L:Nat->List (Nat×SV))(Inv:Z4)
  (g:YY keep s=U3 (YY keep s) (L 0)) (hc:∀i,get (U3 (YY keep s)<|L i) c=.v (vi i)) (k:Inv 0)
  (j:∀i,i<=n->Inv i->Yw P a (U3 (YY keep s)<|L i) (λf=>i<n/\Inv (i+1)/\YY keep f=U3 (YY keep s) (L<|i+1)) X R):
  Yw P (.loop keep a) s N X R:=by
 refine RR L (λi=>i<=n/\Inv i) (XR c n) 0 g ⟨Z0,k⟩ ?_;rintro i ⟨o,q⟩;refine RS (j i o q) (λf p=> ?_) (λ_ _ h=>h) (λ_ h=>h);obtain⟨h,d,l⟩:=p;refine⟨i+1,⟨Z0,d⟩,l,?_⟩;simp only[XR,hc];simp;omega
def jU{P:Z6} [Lg P]{keep:Za}{a:Stm}{s:St}{N R:St->Prop}{X:Nat->St->Prop}(c n:Nat)(Inv:Z4)
  (d:YY keep s=YI (YY keep s) c (.v<|vi 0)) (hc:∀x,get (YI (YY keep s) c x) c=x) (g:Inv 0)
  (f:∀i,i<=n->Inv i->Yw P a (YI (YY keep s) c<|.v<|vi i) (λh=>i<n/\Inv (i+1)/\YY keep h=YI (YY keep s) c (.v<|vi<|i+1)) X R):
  Yw P (.loop keep a) s N X R:=
 VO c n (λi=>[(c,.v<|vi i)]) Inv d (λi=>hc _) g f
end
def qK:Fn:=⟨4,[0,2,3,9],pQ [pR [pV 1<|pU 0,pV 2<|pI 0],pQ [.ao ⟨[.lt 4 []<|pl (.s 0)<|pU 1],[([(4,xw)],pj (.s 0)<|pU 9223372036854775807)],[pV 3<|.ite (.s 4) pT<|pj (.s 0)<|pU 9223372036854775807]⟩]<|pw (.s 3)<|px [pV 1<|pU 0,pV 2<|pI 1]]<|px [pV 1<|pa (pm (pU 2)<|.s 0)<|pU 1,pV 2<|pI 0],[(1,.v),(2,.v)]⟩
def c25:ZY [.fz] Try.f25=J qK:=Z2
def Nm:Fn:=⟨3,[0,1,2],pQ [pR [(1,pS 0 2),pV 2 pF],.ao ⟨[.lt 3 []<|pg (.m 1 0)<|pI 0,.lt 4 []<|.ite (.s 3) (pL (.m 1 0)<|pI 255) pF,.lt 5 []<|.ite (.s 4) (pg (.m 1 1)<|pI 0) pF],[([(3,xk)],pL (.m 1 0)<|pI 255),([(4,xk)],pg (.m 1 1)<|pI 0),([(5,xk)],pL (.m 1 1)<|.m 1 0)],[pV 2<|.ite (.s 5) (pL (.m 1 1)<|.m 1 0) pF]⟩] .ret,[(2,.v)]⟩
def c38:ZY [.fz] Try.f38=J Nm:=Z2
def Np:Fn:=⟨6,[0,1,2,3,4,8],pQ [pR [(1,pS 0 2),pV 2<|pU 0,pV 3<|pI 0],pC [pK 6 66 [.mm 1 0 2]] [pV 4<|.s 6],pi 5 (.un .not<|.s 4)<|px [pV 2<|pU 0,pV 3<|pI 1]]<|px [pV 2<|pm (pU 2)<|pa (.conv .u64<|.m 1 0)<|pm (pU 65536)<|.conv .u64<|.m 1 1,pV 3<|pI 0],[(2,.v),(3,.v)]⟩
def c45:ZY [.fz] Try.f45=J Np:=Z2
def qN:Fn:=⟨4,[0,2,3,9],pQ [pR [pV 1<|pU 0,pV 2<|pI 0],pQ [.ao ⟨[.lt 4 []<|pl (.s 0)<|pU 1],[([(4,xw)],pj (.s 0)<|pU 9223372036854775807)],[pV 3<|.ite (.s 4) pT<|pj (.s 0)<|pU 9223372036854775807]⟩]<|pw (.s 3)<|px [pV 1<|pU 0,pV 2<|pI 1]]<|px [pV 1<|pa (pm (pU 2)<|.s 0)<|pU 1,pV 2<|pI 0],[(1,.v),(2,.v)]⟩
def c49:ZY [.fz] Try.f49=J qN:=Z2
def Lr:Fn:=⟨5,[0,2,3,5,12],pQ [pR [pV 1<|pU 0,pV 2<|pI 0],pi 3 (pe (.s 0)<|pU 0)<|px [pV 1<|pU 0,pV 2<|pI 6],pQ [.ao ⟨[.lt 5 []<|pe (.bo .rem (.s 0)<|pU 2)<|pU 0],[([(5,xw)],pe (.s 0)<|pU 1)],[pV 4<|.ite (.s 5) pT<|pe (.s 0)<|pU 1]⟩]<|pw (.s 4)<|px [pV 1<|pU 0,pV 2<|pI 3]]<|px [pV 1<|.bo .quo (.s 0)<|pU 2,pV 2<|pI 0],[(1,.v),(2,.v)]⟩
def c56:ZY [.fz] Try.f56=J Lr:=Z2
def Nx:Fn:=⟨5,[0,2,3,4,20],pQ [pR [(1,.m [pI 0,pI 0]),pV 2<|pI 0],pR [(3,pM (.ag [.conv .i64<|.bo .rem (.bo .shr (.s 0)<|pU 1)<|pU 65536,.conv .i64<|.bo .shr (.s 0)<|pU 17]) 2)],pQ [.ao ⟨[.lt 5 []<|pn (.bo .rem (.s 0)<|pU 2)<|pU 0,.call 6 [(5,xw)] (.id 38) xw xw [.mm 3 0 2]],[([(5,xw)],.un .not<|.s 6)],[pV 4<|.ite (.s 5) pT<|.un .not<|.s 6]⟩]<|pw (.s 4)<|px [(1,pM (.ag [pI 0,pI 0]) 2),pV 2<|pI 3]]<|px [(1,pM (.mm 3 0 2) 2),pV 2<|pI 0],[(1,(.ag 2)),(2,.v)]⟩
def c61:ZY [.fz] Try.f61=J Nx:=Z2
def Nz:Fn:=⟨3,[0,1,2],pQ [pR [(1,pS 0 2),pV 2 pF],.ao ⟨[.lt 3 []<|pg (.m 1 0)<|pI 0,.lt 4 []<|.ite (.s 3) (pL (.m 1 0)<|pI 255) pF,.lt 5 []<|.ite (.s 4) (pg (.m 1 1)<|pI 0) pF],[([(3,xk)],pL (.m 1 0)<|pI 255),([(4,xk)],pg (.m 1 1)<|pI 0),([(5,xk)],pL (.m 1 1)<|.m 1 0)],[pV 2<|.ite (.s 5) (pL (.m 1 1)<|.m 1 0) pF]⟩] .ret,[(2,.v)]⟩
def c66:ZY [.fz] Try.f66=J Nz:=Z2
def Ym(n:Int):Prop:= -9223372036854775808<=n/\n<=9223372036854775807
def ZB(n:Int):Prop:=0<=n/\n<18446744073709551616
def ZS(n:Int)(a:0<=n)(h2:n<=18446744073709551615):IntKind.u64.wrap n=n:=by
 rw[IntKind.wrap_u64];omega
def Yn{α:Type}{l:List α}{i:Nat}{x:α}(h:l[i]?=J x):∀a:i<I l,l[i]'a=x:=λa=>by
 rw[Zhi a]at h;exact Zj6 h
def YC(size ptrs:Int):Bool:=decide (0<=size)&&decide (size<=255)&&decide (0<=ptrs)&&decide (ptrs<=size)
theorem Yy{s p:Int}:YC s p=xk↔0<=s/\s<=255/\0<=p/\p<=s:=by simp[YC,and_assoc]
abbrev WT(s p:Int):V:=.agg [vi s,vi p]
def Dj{s p:Int}:VC xP 38 xw [WT s p]<|.bool<|YC s p:=by
 refine ZR F7 follows Z2 c38 rfl ?_;by_cases a:0<=s<;>by_cases d:s<=255<;>by_cases f:0<=p<;>by_cases g:p<=s<;>simp[Nm,YC,a,d,f,g]
def Z9d{s p:Int}:VC xP 66 xw [WT s p]<|.bool<|YC s p:=by
 refine ZR Z1S follows Z2 c66 rfl ?_;by_cases a:0<=s<;>by_cases d:s<=255<;>by_cases f:0<=p<;>by_cases g:p<=s<;>simp[Nz,YC,a,d,f,g]
def adr(w:Int):Int×Int:=if w=0 then(0,6)else if w%2=0\/w=1 then(0,3)else(w / 2,0)
def Ko{w:Int}(l:ZB w):VC xP 56 xw [vu w]<|.am [vu (adr w).1,vi (adr w).2]:=by
 refine ZR Ff follows Z2 c56 rfl ?_;obtain⟨f,n⟩:=l;have d:w.tmod 2=w%2:=Zir f;have j:w.tdiv 2=w / 2:=ZkS f;have k:=ZS (w / 2) Z0 Z0;by_cases a:w=0;simp[Lr,adr,a];by_cases g:w%2=0;simp[Lr,adr,a,d,g];by_cases h:w=1;subst h;simp[Lr,adr];simp[Lr,adr,a,d,j,g,h,k]
def Xq(a:Int):Int×Int:=if a<1\/9223372036854775807<a then(0,1)else(2*a+1,0)
def Z8z{a:Int}(j:ZB a):VC xP 25 xw [vu a]<|.am [vu (Xq a).1,vi (Xq a).2]:=by
 refine ZR F6 follows Z2 c25 rfl ?_;obtain⟨k,l⟩:=j;by_cases d:a<1;simp[qK,Xq,d];by_cases f:9223372036854775807<a;simp[qK,Xq,d,f];have g:=ZS (2*a) Z0 Z0;have h:=ZS (2*a+1) Z0 Z0;simp[qK,Xq,d,f,g,h]
def Z9a{a:Int}(j:ZB a):VC xP 49 xw [vu a]<|.am [vu (Xq a).1,vi (Xq a).2]:=by
 refine ZR Z1J follows Z2 c49 rfl ?_;obtain⟨k,l⟩:=j;by_cases d:a<1;simp[qN,Xq,d];by_cases f:9223372036854775807<a;simp[qN,Xq,d,f];have g:=ZS (2*a) Z0 Z0;have h:=ZS (2*a+1) Z0 Z0;simp[qN,Xq,d,f,g,h]
def Xu(s p:Int):Int×Int:=if YC s p then(2*(s+65536*p),0)else(0,1)
def Z99{s p:Int}:VC xP 45 xw [WT s p]<|.am [vu (Xu s p).1,vi (Xu s p).2]:=by
 refine ZR Z1F follows Z2 c45 rfl ?_;simp[Np];refine Zz Z9d Z1 ?_;cases h:YC s p;simp[Xu,h];obtain⟨k,l,n,o⟩:=Yy.1 h;have a:=ZS s Z0 Z0;have d:=ZS p Z0 Z0;have f:=ZS (65536*p) Z0 Z0;have g:=ZS (s+65536*p) Z0 Z0;have j:=ZS (2*(s+65536*p)) Z0 Z0;simp[Xu,h,a,d,f,g,j]
def ZQ(w:Int):Int×Int×Int:=if w%2=0/\YC (w / 2%65536) (w / 131072)=xk then(w / 2%65536,w / 131072,0)else(0,0,3)
def Z00{w:Int}(l:ZB w):VC xP 61 xw [vu w]<|.am [WT (ZQ w).1 (ZQ w).2.1,vi (ZQ w).2.2]:=by
 refine ZR Fh follows Z2 c61 rfl ?_;obtain⟨k,r⟩:=l;have p:w.fdiv (2 ^ min 1 IntKind.u64.bits)=w / 2:=by
  rw[show(2:Int) ^ min 1 IntKind.u64.bits=2 by decide];exact ZkR _ Z0
 have q:w.fdiv (2 ^ min 17 IntKind.u64.bits)=w / 131072:=by
  rw[show(2:Int) ^ min 17 IntKind.u64.bits=131072 by decide];exact ZkR _ Z0
 have n:=ZS (w / 2) Z0 Z0;have o:=ZS (w / 131072) Z0 Z0;have f:w.tmod 2=w%2:=Zir k;have g:(w / 2).tmod 65536=w / 2%65536:=Zir Z0;have h:=Zy (w / 2%65536) Z0 Z0;have j:=Zy (w / 131072) Z0 Z0;simp[Nx,Xd,p,q,f,g,h,j,n,o];by_cases a:w%2=0;simp[a];refine Zz Dj Z1 ?_;cases d:YC (w / 2%65536)<|w / 131072;simp[ZQ,a,d];simp[ZQ,a,d];simp[a,ZQ]
def Nf:Fn:=⟨10,[0,1,2,3,4,5,9,17,6,33],pQ [pR [(2,pS 0 7),(3,pS 1 2),pV 4<|pU 0,pV 5<|pI 0],pQ [pC [pK 10 42 [.mm 2 0 7]] [pV 6<|.un .not<|.s 10]]<|pw (.s 6)<|px [pV 4<|pU 0,pV 5<|pI 1],pQ [.ao ⟨[.lt 11 []<|pl (.m 3 0)<|pI 1],[([(11,xw)],pj (.m 3 0)<|pI 4)],[pV 7<|.ite (.s 11) pT<|pj (.m 3 0)<|pI 4]⟩]<|pw (.s 7)<|px [pV 4<|pU 0,pV 5<|pI 6],pC [pK 12 43 [.mm 2 0 7]] [(8,pM (.sz (.ai (.s 12) (pb (.m 3 0)<|pI 1) 4 2 xk) 2) 2)],pQ [.ao ⟨[.lt 13 []<|pl (.m 3 1)<|pI 0],[([(13,xw)],pg (.m 3 1)<|.m 8 1)],[pV 9<|.ite (.s 13) pT<|pg (.m 3 1)<|.m 8 1]⟩]<|pw (.s 9)<|px [pV 4<|pU 0,pV 5<|pI 6]]<|px [pV 4<|pa (.m 8 0)<|.conv .u64<|.m 3 1,pV 5<|pI 0],[(4,.v),(5,.v)]⟩
def c23:ZY [.fz,.fz] Try.f23=J Nf:=Z2
def Nn:Fn:=⟨4,[0,1,2,25],pQ [pR [(1,pS 0 7),pV 2 pF],pQ [.ao ⟨[.lt 4 []<|pl (.m 1 1)<|pI 0,.lt 5 []<|.ite (.s 4) pT<|pj (.m 1 1)<|pI 4096,.lt 6 []<|.ite (.s 5) pT<|pl (.m 1 0)<|pU 1],[([(4,xw)],pj (.m 1 1)<|pI 4096),([(5,xw)],pl (.m 1 0)<|pU 1),([(6,xw)],pj (.m 1 0)<|pb (pU 9223372036854775808)<|pm (pU 2)<|.conv .u64<|.m 1 1)],[pV 3<|.ite (.s 6) pT<|pj (.m 1 0)<|pb (pU 9223372036854775808)<|pm (pU 2)<|.conv .u64<|.m 1 1]⟩]<|pw (.s 3)<|px [pV 2 pF],.ao ⟨[.lt 7 []<|pe (.m 1 2)<|pI 0,.lt 8 []<|.ite (.s 7) pT<|pe (.m 1 2)<|pI 1,.call 9 [(8,xk)] (.id 64) xw xw [.m 1 3,.m 1 4,.m 1 1],.lt 10 []<|.ite (.s 8) (.s 9) pF,.call 11 [(10,xk)] (.id 64) xw xw [.m 1 5,.m 1 6,.m 1 1]],[([(7,xw)],pe (.m 1 2)<|pI 1)],[pV 2<|.ite (.s 10) (.s 11) pF]⟩] .ret,[(2,.v)]⟩
def c42:ZY [.fz] Try.f42=J Nn:=Z2
def No:Fn:=⟨3,[0,1,2],pQ [pR [(1,pS 0 7),(2,.m [pU 0,pI 0,pU 0,pI 0,pU 0,pI 0,pU 0,pI 0])],pC [pK 3 65 [.mm 1 0 7,pI 1],pK 4 65 [.mm 1 0 7,pI 2],pK 5 65 [.mm 1 0 7,pI 3],pK 6 65 [.mm 1 0 7,pI 4]] [(2,pM (.ag [.ae (.ag [.one<|.s 3,.m 1 3]) 0,.ae (.ag [.one<|.s 3,.m 1 3]) 1,.ae (.ag [.one<|.s 4,.m 1 4]) 0,.ae (.ag [.one<|.s 4,.m 1 4]) 1,.ae (.ag [.one<|.s 5,.m 1 5]) 0,.ae (.ag [.one<|.s 5,.m 1 5]) 1,.ae (.ag [.one<|.s 6,.m 1 6]) 0,.ae (.ag [.one<|.s 6,.m 1 6]) 1]) 8)]] .ret,[(2,(.ag 8))]⟩
def c43:ZY [.fz] Try.f43=J No:=Z2
def Nq:Fn:=⟨11,[0,1,2,3,4,5,6,12,7,8,28],pQ [pR [(2,pS 0 7),(3,pS 1 2),pV 4<|pU 0,pV 5<|pI 0],pC [pK 11 67 [.mm 2 0 7]] [pV 6<|.s 11],pi 7 (.un .not<|.s 6)<|px [pV 4<|pU 0,pV 5<|pI 1],pC [pK 12 68 [.mm 2 0 7,.m 3 0]] [pV 8<|.ext (.s 12) 0,pV 9<|.ext (.s 12) 1],pQ [.ao ⟨[.lt 13 []<|pl (.m 3 1)<|pI 0],[([(13,xw)],pg (.m 3 1)<|.s 9)],[pV 10<|.ite (.s 13) pT<|pg (.m 3 1)<|.s 9]⟩]<|pw (.s 10)<|px [pV 4<|pU 0,pV 5<|pI 6]]<|px [pV 4<|pa (.s 8)<|.conv .u64<|.m 3 1,pV 5<|pI 0],[(4,.v),(5,.v)]⟩
def c47:ZY [.fz,.fz] Try.f47=J Nq:=Z2
def Nw:Fn:=⟨12,[0,1,2,4,5,10,14,15,7,6,13,31],pQ [pR [(2,pS 0 7),(3,.m [pI 0,pI 0]),pV 4<|pI 0],pQ [pC [pK 12 42 [.mm 2 0 7]] [pV 5<|.un .not<|.s 12]]<|pw (.s 5)<|px [(3,pM (.ag [pI 0,pI 0]) 2),pV 4<|pI 1],pQ [pC [pK 10 43 [.mm 2 0 7]] [pV 6<|pI 0]]<|po [0,1,2,3,4,5,6,10] 7 (pl (.s 6)<|pI 4) (pQ [pR [(8,pM (.sz (.ai (.s 10) (.s 6) 4 2 xk) 2) 2),pV 9<|.s 6],.ao ⟨[.lt 13 []<|pg (.s 1)<|.m 8 0],[([(13,xk)],pl (pb (.s 1)<|.m 8 0)<|.conv .u64<|.m 8 1)],[pV 11<|.ite (.s 13) (pl (pb (.s 1)<|.m 8 0)<|.conv .u64<|.m 8 1) pF]⟩]<|pw (.s 11)<|px [(3,pM (.ag [pa (.s 9)<|pI 1,.conv .i64<|pb (.s 1)<|.m 8 0]) 2),pV 4<|pI 0])<|pc 6]<|px [(3,pM (.ag [pI 0,pI 0]) 2),pV 4<|pI 6],[(3,(.ag 2)),(4,.v)]⟩
def c59:ZY [.fz,.fz] Try.f59=J Nw:=Z2
def Ny:Fn:=⟨4,[0,1,2,5],pQ [pR [(1,pS 0 7),pV 2<|pI 0],pQ [pC [pK 4 42 [.mm 1 0 7]] [pV 3<|.un .not<|.s 4]]<|pw (.s 3)<|px [pV 2<|pI 0]]<|px [pV 2<|pb (pb (.m 1 1)<|.m 1 3)<|.m 1 4],[(2,.v)]⟩
def c62:ZY [.fz] Try.f62=J Ny:=Z2
def qO:Fn:=⟨4,[0,1,2,6],pQ [pR [pV 3 pF],.ao ⟨[.lt 4 []<|pg (.s 0)<|pI 0,.lt 5 []<|.ite (.s 4) (pg (.s 1)<|pI 0) pF,.lt 6 []<|.ite (.s 5) (pL (.s 0)<|.s 2) pF],[([(4,xk)],pg (.s 1)<|pI 0),([(5,xk)],pL (.s 0)<|.s 2),([(6,xk)],pL (.s 1)<|pb (.s 2)<|.s 0)],[pV 3<|.ite (.s 6) (pL (.s 1)<|pb (.s 2)<|.s 0) pF]⟩] .ret,[(3,.v)]⟩
def c64:ZY [.fz,.fz,.fz] Try.f64=J qO:=Z2
def Ls:Fn:=⟨10,[0,1,2,4,5,9,8,11,13,15],pQ [pR [(2,pS 0 7),pV 3<|pU 0],pR [pV 4<|.m 2 0],pQ [pR [pV 6<|.s 1]]<|.block 0<|pQ [.block 4<|pQ [.block 3<|pQ [.block 2<|pQ [.block 1<|pQ [pQ [pi 5 (pe (.s 6)<|pI 2)<|.exit 1,pi 7 (pe (.s 6)<|pI 1)<|.exit 2,pi 8 (pe (.s 6)<|pI 4)<|.exit 3]<|pi 9 (pe (.s 6)<|pI 3)<|.exit 4]<|.exit 0]<|pR [pV 4<|pa (.s 4)<|.conv .u64<|pb (.m 2 1)<|.m 2 4],pR [pV 4<|pa (.s 4)<|.conv .u64<|pm (.m 2 2)<|.m 2 1]]<|.exit 0]<|pR [pV 4<|pa (.s 4)<|.conv .u64<|pb (.m 2 1)<|.m 2 6],pR [pV 4<|pa (.s 4)<|.conv .u64<|pm (pb (pI 1)<|.m 2 2)<|.m 2 1]]<|.exit 0]<|px [pV 3<|.s 4],[(3,.v)]⟩
def c65:ZY [.fz,.fz] Try.f65=J Ls:=Z2
def NA:Fn:=⟨5,[0,1,2,35,53],pQ [pR [(1,pS 0 7),pV 2 pF],pQ [.ao ⟨[.lt 5 []<|pl (.m 1 0)<|pU 1,.lt 6 []<|.ite (.s 5) pT<|pl (.m 1 1)<|pI 0,.lt 7 []<|.ite (.s 6) pT<|pj (.m 1 1)<|pI 4096,.lt 8 []<|.ite (.s 7) pT<|pj (.m 1 0)<|pb (pU 9223372036854775808)<|pm (pU 2)<|.conv .u64<|.m 1 1,.lt 9 []<|.ite (.s 8) pT<|pl (.m 1 2)<|pI 0],[([(5,xw)],pl (.m 1 1)<|pI 0),([(6,xw)],pj (.m 1 1)<|pI 4096),([(7,xw)],pj (.m 1 0)<|pb (pU 9223372036854775808)<|pm (pU 2)<|.conv .u64<|.m 1 1),([(8,xw)],pl (.m 1 2)<|pI 0),([(9,xw)],pj (.m 1 2)<|pI 1)],[pV 3<|.ite (.s 9) pT<|pj (.m 1 2)<|pI 1]⟩]<|pw (.s 3)<|px [pV 2 pF],pQ [.ao ⟨[.lt 10 []<|pl (.m 1 3)<|pI 0,.lt 11 []<|.ite (.s 10) pT<|pl (.m 1 4)<|pI 0,.lt 12 []<|.ite (.s 11) pT<|pl (.m 1 5)<|pI 0],[([(10,xw)],pl (.m 1 4)<|pI 0),([(11,xw)],pl (.m 1 5)<|pI 0),([(12,xw)],pl (.m 1 6)<|pI 0)],[pV 4<|.ite (.s 12) pT<|pl (.m 1 6)<|pI 0]⟩]<|pw (.s 4)<|px [pV 2 pF],.ao ⟨[.lt 13 []<|pL (.m 1 3)<|.m 1 1,.lt 14 []<|.ite (.s 13) (pL (.m 1 4)<|pb (.m 1 1)<|.m 1 3) pF,.lt 15 []<|.ite (.s 14) (pL (.m 1 5)<|.m 1 1) pF],[([(13,xk)],pL (.m 1 4)<|pb (.m 1 1)<|.m 1 3),([(14,xk)],pL (.m 1 5)<|.m 1 1),([(15,xk)],pL (.m 1 6)<|pb (.m 1 1)<|.m 1 5)],[pV 2<|.ite (.s 15) (pL (.m 1 6)<|pb (.m 1 1)<|.m 1 5) pF]⟩] .ret,[(2,.v)]⟩
def c67:ZY [.fz] Try.f67=J NA:=Z2
def Cy:Fn:=⟨12,[0,1,2,4,5,6,7,28,27,33,45,50],pQ [pR [(2,pS 0 7),pV 3<|pU 0,pV 4<|pI 0],pR [pV 5<|pa (.m 2 0)<|.conv .u64<|pm (.m 2 2)<|.m 2 1],pR [pV 6<|pa (.m 2 0)<|.conv .u64<|pm (pb (pI 1)<|.m 2 2)<|.m 2 1],pQ [pR [pV 8<|.s 1]]<|.block 0<|pu 7 (pe (.s 8)<|pI 1) (px [pV 3<|.s 5,pV 4<|.m 2 3])<|pu 9 (pe (.s 8)<|pI 2) (px [pV 3<|pa (.s 5)<|.conv .u64<|pb (.m 2 1)<|.m 2 4,pV 4<|.m 2 4])<|pu 10 (pe (.s 8)<|pI 3) (px [pV 3<|.s 6,pV 4<|.m 2 5])<|pi 11 (pe (.s 8)<|pI 4)<|px [pV 3<|pa (.s 6)<|.conv .u64<|pb (.m 2 1)<|.m 2 6,pV 4<|.m 2 6]]<|px [pV 3<|pU 0,pV 4<|pI 0],[(3,.v),(4,.v)]⟩
def G6:ZY [.fz,.fz] Try.f68=J Cy:=Z2
structure Ly where
 base:Int
 cap:Int
 to:Int
 H:Int
 ab:Int
 ah:Int
 al:Int
 deriving DecidableEq,Inhabited
def X4(l:Ly):V:=.agg [vu l.base,vi l.cap,vi l.to,vi l.H,vi l.ab,vi l.ah,vi l.al]
@[simp]theorem ZfN l:VL (X4 l) 7=J (X4 l):=rfl
@[simp]theorem ZeF l:(X4 l).cells=[vu l.base,vi l.cap,vi l.to,vi l.H,vi l.ab,vi l.ah,vi l.al]:=rfl
@[simp]theorem ZdK l:Y0 (X4 l) 0=J (vu l.base):=rfl
@[simp]theorem ZdL l:Y0 (X4 l) 1=J (vi l.cap):=rfl
@[simp]theorem ZdM l:Y0 (X4 l) 2=J (vi l.to):=rfl
@[simp]theorem ZdN l:Y0 (X4 l) 3=J (vi l.H):=rfl
@[simp]theorem ZdO l:Y0 (X4 l) 4=J (vi l.ab):=rfl
@[simp]theorem ZdP l:Y0 (X4 l) 5=J (vi l.ah):=rfl
@[simp]theorem ZdQ l:Y0 (X4 l) 6=J (vi l.al):=rfl
def Ly.au(l:Ly):Prop:=ZB l.base/\Ym l.cap/\Ym l.to/\Ym l.H/\Ym l.ab/\Ym l.ah/\Ym l.al
def S5(a b words:Int):Bool:=decide (0<=a)&&decide (0<=b)&&decide (a<=words)&&decide (b<=words-a)
def ZJ(l:Ly):Bool:=decide (0<=l.cap)&&decide (l.cap<=4096)&&decide (1<=l.base)&&decide (l.base<=9223372036854775808-2*l.cap)&&(decide (l.to=0)||decide (l.to=1))&&S5 l.H l.ab l.cap&&S5 l.ah l.al l.cap
theorem XO{l}:ZJ l=xk↔0<=l.cap/\l.cap<=4096/\1<=l.base/\l.base<=9223372036854775808-2*l.cap/\(l.to=0\/l.to=1)/\(0<=l.H/\0<=l.ab/\l.H<=l.cap/\l.ab<=l.cap-l.H)/\(0<=l.ah/\0<=l.al/\l.ah<=l.cap/\l.al<=l.cap-l.ah):=by
 simp[ZJ,S5,and_assoc]
theorem Vs{l}:ZJ l=xw↔ ¬(0<=l.cap/\l.cap<=4096/\1<=l.base/\l.base<=9223372036854775808-2*l.cap/\(l.to=0\/l.to=1)/\(0<=l.H/\0<=l.ab/\l.H<=l.cap/\l.ab<=l.cap-l.H)/\(0<=l.ah/\0<=l.al/\l.ah<=l.cap/\l.al<=l.cap-l.ah)):=by
 grind [XO]
def Z0l{a b w:Int}(h:Ym a)(n:Ym b)(j:Ym w):VC xP 64 xw [vi a,vi b,vi w]<|.bool<|S5 a b w:=by
 refine ZR Z1Q follows Z2 c64 rfl ?_;obtain⟨k,l⟩:=h;obtain⟨w1,w2⟩:=j;by_cases d:0<=a;by_cases g:a<=w;have e:=Zy (w-a) Z0 Z0;by_cases f:0<=b<;>simp[qO,S5,d,g,f,e];by_cases f:0<=b<;>simp[qO,S5,d,g,f];simp[qO,S5,d]
def LR{l:Ly}(y:l.au):VC xP 42 xw [X4 l]<|.bool<|ZJ l:=by
 refine ZR Fc follows Z2 c42 rfl ?_;obtain⟨⟨u,w⟩,x,B,p,q,r,t⟩:=y;obtain⟨d,c2⟩:=x;simp[Nn];by_cases g1:l.cap<0;grind [ZJ,Vs];by_cases g2:4096<l.cap;grind [ZJ,Vs];by_cases k:l.base<1;grind [ZJ,Vs];have f:=ZS l.cap Z0 Z0;have g:=ZS (2*l.cap) Z0 Z0;have j:=ZS (9223372036854775808-2*l.cap) Z0 Z0;by_cases n:9223372036854775808-2*l.cap<l.base;grind [ZJ,Vs];by_cases a:l.to=0\/l.to=1
 .have k1:=Z0l p q ⟨d,c2⟩;have A:=Z0l r t ⟨d,c2⟩;have z:ZJ l=(S5 l.H l.ab l.cap&&S5 l.ah l.al l.cap):=by
   obtain h|h:=a<;>simp[ZJ,show 0<=l.cap by omega,show l.cap<=4096 by omega,show 1<=l.base by omega,show l.base<=9223372036854775808-2*l.cap by omega,h]
  rw[z];obtain a|a:=a;all_goals
   cases o:S5 l.H l.ab l.cap;rw[o]at k1;simp[g1,g2,k,f,g,j,n,a];refine Zz k1 Z1 ?_;simp;rw[o]at k1;simp[g1,g2,k,f,g,j,n,a];refine Zz k1 Z1 ?_;simp;refine Zz A Z1 ?_;simp
 simp_all[ZJ,Vs]
def Z9e{l:Ly}(j:l.au):VC xP 67 xw [X4 l]<|.bool<|ZJ l:=by
 refine ZR Z1T follows Z2 c67 rfl ?_;obtain⟨⟨f,g⟩,h,y,a,w,d,x⟩:=j;obtain⟨k,c2⟩:=h;simp[NA];by_cases q:l.base<1;grind [ZJ,Vs];by_cases g1:l.cap<0;grind [ZJ,Vs];by_cases g2:4096<l.cap;grind [ZJ,Vs];have n:=ZS l.cap Z0 Z0;have o:=ZS (2*l.cap) Z0 Z0;have p:=ZS (9223372036854775808-2*l.cap) Z0 Z0;by_cases r:9223372036854775808-2*l.cap<l.base;grind [ZJ,Vs];by_cases t:l.to<0;grind [ZJ,Vs];by_cases u:1<l.to;grind [ZJ,Vs];by_cases D:l.H<0;grind [ZJ,Vs];by_cases F:l.ab<0;grind [ZJ,Vs];by_cases G:l.ah<0;grind [ZJ,Vs];by_cases H:l.al<0;grind [ZJ,Vs];obtain⟨z,A⟩:=a;obtain⟨B,C⟩:=d;have w1:=Zy (l.cap-l.H) Z0 Z0;have w2:=Zy (l.cap-l.ah) Z0 Z0;grind [ZJ,XO,Vs]
def XY(l:Ly):Int:=if ZJ l then l.cap-l.H-l.ab else 0
def Z9w{l:Ly}(a:l.au):VC xP 62 xw [X4 l]<|vi<|XY l:=by
 refine ZR Fi follows Z2 c62 rfl ?_;simp[Ny];refine Zz (LR a) Z1 ?_;cases h:ZJ l;simp[XY,h];have g:=XO.1 h;have d:=Zy (l.cap-l.H) Z0 Z0;have f:=Zy (l.cap-l.H-l.ab) Z0 Z0;simp_all[XY]
def fstL(l:Ly)(part:Int):Int:=
 if part=1 then l.base+l.to*l.cap else if part=2 then l.base+l.to*l.cap+(l.cap-l.ab)else if part=3 then l.base+(1-l.to)*l.cap else l.base+(1-l.to)*l.cap+(l.cap-l.al)
def YS(l:Ly)(part:Int):Int:=if part=1 then l.H else if part=2 then l.ab else if part=3 then l.ah else l.al
def jO{l}(a:ZJ l=xk):(l.to*l.cap=0/\(1-l.to)*l.cap=l.cap)\/(l.to*l.cap=l.cap/\(1-l.to)*l.cap=0):=by
 grind [XO]
def WP{l}(a:ZJ l=xk)k:1<=fstL l k/\fstL l k+YS l k<=9223372036854775808/\0<=YS l k/\YS l k<=4096:=by
 have h:=XO.1 a;have d:=jO a;unfold fstL YS;omega
def yn{l:Ly}(d:ZJ l=xk){k:Int}(t:1<=k/\k<=4):VC xP 65 xw [X4 l,vi k]<|vu<|fstL l k:=by
 refine ZR Z1R follows Z2 c65 rfl ?_;have h:=XO.1 d;have u:=jO d;have w1:=Zy (l.to*l.cap) Z0 Z0;have w2:=Zy (1-l.to) Z0 Z0;have w3:=Zy ((1-l.to)*l.cap) Z0 Z0;have w4:=Zy (l.cap-l.ab) Z0 Z0;have r:=Zy (l.cap-l.al) Z0 Z0;have f:=ZS (l.to*l.cap) Z0 Z0;have g:=ZS ((1-l.to)*l.cap) Z0 Z0;have j:=ZS (l.cap-l.ab) Z0 Z0;have n:=ZS (l.cap-l.al) Z0 Z0;have v1:=ZS (l.base+l.to*l.cap) Z0 Z0;have o:=ZS (l.base+(l.cap-l.ab)) Z0 Z0;have p:=ZS (l.base+(l.cap-l.ab)+l.to*l.cap) Z0 Z0;have v4:=ZS (l.base+(1-l.to)*l.cap) Z0 Z0;have q:=ZS (l.base+(l.cap-l.al)) Z0 Z0;have v6:=ZS (l.base+(l.cap-l.al)+(1-l.to)*l.cap) Z0 Z0;have a:k=1\/k=2\/k=3\/k=4:=Z0;obtain rfl|rfl|rfl|rfl:=a;simp[Ls,Kg,fstL,w1,f,v1];simp[Ls,Kg,fstL,w1,f,w4,j,o,p];omega;simp[Ls,Kg,fstL,w2,w3,g,v4];simp[Ls,Kg,fstL,w2,w3,g,r,n,q,v6];omega
def V7(l:Ly):V:=.agg [vu<|fstL l 1,vi l.H,vu<|fstL l 2,vi l.ab,vu<|fstL l 3,vi l.ah,vu<|fstL l 4,vi l.al]
def PF{l:Ly}(a:ZJ l=xk):VC xP 43 xw [X4 l]<|V7 l:=by
 refine ZR Z1D follows Z2 c43 rfl ?_;simp[No];refine Zz (yn a (k:=1) Z0) (by simp[X4]) ?_;simp;refine Zz (yn a (k:=2) Z0) (by simp[X4]) ?_;simp;refine Zz (yn a (k:=3) Z0) (by simp[X4]) ?_;simp;refine Zz (yn a (k:=4) Z0) (by simp[X4]) ?_;simp[V7]
@[simp]theorem LY l:YS l 1=l.H:=rfl
@[simp]theorem LZ l:YS l 2=l.ab:=rfl
@[simp]theorem z5 l:YS l 3=l.ah:=rfl
@[simp]theorem za l:YS l 4=l.al:=rfl
def Y2(l:Ly)(part at_:Int):Int×Int:=
 if ZJ l=xw then(0,1)else if part<1\/4<part then(0,6)else if at_<0\/YS l part<=at_ then(0,6)else(fstL l part+at_,0)
def Fx{l:Ly}(p:l.au){part at_:Int}:VC xP 23 xw [X4 l,.agg [vi part,vi at_]]<|.am [vu (Y2 l part at_).1,vi (Y2 l part at_).2]:=by
 refine ZR F4 follows Z2 c23 rfl ?_;simp[Nf];refine Zz (LR p) Z1 ?_;cases d:ZJ l;simp[Y2,d];simp;by_cases k:part<1;grind [Y2];by_cases n:4<part;simp_all[Y2];have o:part=1\/part=2\/part=3\/part=4:=Z0;simp[k,n];refine Zz (PF d) Z1 ?_;obtain rfl|rfl|rfl|rfl:=o;have a:=WP d 1;simp only[LY]at a;simp[V7,Ya,Zy];by_cases f:at_<0;grind [Y2];by_cases g:l.H<=at_;simp_all[Y2];have h:=ZS at_ Z0 Z0;have j:=ZS (fstL l 1+at_) Z0 Z0;simp_all[Y2];have a:=WP d 2;simp only[LZ]at a;simp[V7,Ya,Zy];by_cases f:at_<0;grind [Y2];by_cases g:l.ab<=at_;simp_all[Y2];have h:=ZS at_ Z0 Z0;have j:=ZS (fstL l 2+at_) Z0 Z0;simp_all[Y2];have a:=WP d 3;simp only[z5]at a;simp[V7,Ya,Zy];by_cases f:at_<0;grind [Y2];by_cases g:l.ah<=at_;simp_all[Y2];have h:=ZS at_ Z0 Z0;have j:=ZS (fstL l 3+at_) Z0 Z0;simp_all[Y2];have a:=WP d 4;simp only[za]at a;simp[V7,Ya,Zy];by_cases f:at_<0;grind [Y2];by_cases g:l.al<=at_;simp_all[Y2];have h:=ZS at_ Z0 Z0;have j:=ZS (fstL l 4+at_) Z0 Z0;simp_all[Y2]
def jg{l:Ly}(d:ZJ l=xk){k:Int}(r:1<=k/\k<=4):VC xP 68 xw [X4 l,vi k]<|.am [vu<|fstL l k,vi<|YS l k]:=by
 refine ZR Fk follows Z2 G6 rfl ?_;have h:=XO.1 d;have t:=jO d;have w1:=Zy (l.to*l.cap) Z0 Z0;have w2:=Zy (1-l.to) Z0 Z0;have w3:=Zy ((1-l.to)*l.cap) Z0 Z0;have w4:=Zy (l.cap-l.ab) Z0 Z0;have q:=Zy (l.cap-l.al) Z0 Z0;have f:=ZS (l.to*l.cap) Z0 Z0;have g:=ZS ((1-l.to)*l.cap) Z0 Z0;have j:=ZS (l.cap-l.ab) Z0 Z0;have n:=ZS (l.cap-l.al) Z0 Z0;have v1:=ZS (l.base+l.to*l.cap) Z0 Z0;have o:=ZS (l.base+l.to*l.cap+(l.cap-l.ab)) Z0 Z0;have v4:=ZS (l.base+(1-l.to)*l.cap) Z0 Z0;have p:=ZS (l.base+(1-l.to)*l.cap+(l.cap-l.al)) Z0 Z0;have a:k=1\/k=2\/k=3\/k=4:=Z0;obtain rfl|rfl|rfl|rfl:=a;all_goals simp[Cy,Kg,fstL,w1,f,w2,w3,g,w4,j,q,n,v1,o,v4,p]
def Z97{l:Ly}(d:ZJ l=xk){k:Int}(a:k<1\/4<k):VC xP 68 xw [X4 l,vi k]<|.am [vu 0,vi 0]:=by
 refine ZR Fk follows Z2 G6 rfl ?_;simp[Cy,Kg,show k≠1 by omega,show k≠2 by omega,show k≠3 by omega,show k≠4 by omega]
def Z96{l:Ly}(p:l.au){part at_:Int}:VC xP 47 xw [X4 l,.agg [vi part,vi at_]]<|.am [vu (Y2 l part at_).1,vi (Y2 l part at_).2]:=by
 refine ZR Z1H follows Z2 c47 rfl ?_;simp[Nq];refine Zz (Z9e p) Z1 ?_;cases a:ZJ l;simp[Y2,a];simp;by_cases n:part<1\/4<part;refine Zz (Z97 a n) Z1 ?_;by_cases d:at_<0;simp[Y2,a,n,d];simp[Y2,a,n,d,show 0<=at_ by omega];have o:part=1\/part=2\/part=3\/part=4:=Z0;obtain rfl|rfl|rfl|rfl:=o;have g:=WP a 1;simp only[LY]at g;refine Zz (jg a (k:=1) Z0) Z1 ?_;by_cases d:at_<0;simp[Y2,a,d];by_cases f:l.H<=at_;simp[Y2,a,d,f];have h:=ZS at_ Z0 Z0;have j:=ZS (fstL l 1+at_) Z0 Z0;simp[Y2,a,d,f,h,j];have g:=WP a 2;simp only[LZ]at g;refine Zz (jg a (k:=2) Z0) Z1 ?_;by_cases d:at_<0;simp[Y2,a,d];by_cases f:l.ab<=at_;simp[Y2,a,d,f];have h:=ZS at_ Z0 Z0;have j:=ZS (fstL l 2+at_) Z0 Z0;simp[Y2,a,d,f,h,j];have g:=WP a 3;simp only[z5]at g;refine Zz (jg a (k:=3) Z0) Z1 ?_;by_cases d:at_<0;simp[Y2,a,d];by_cases f:l.ah<=at_;simp[Y2,a,d,f];have h:=ZS at_ Z0 Z0;have j:=ZS (fstL l 3+at_) Z0 Z0;simp[Y2,a,d,f,h,j];have g:=WP a 4;simp only[za]at g;refine Zz (jg a (k:=4) Z0) Z1 ?_;by_cases d:at_<0;simp[Y2,a,d];by_cases f:l.al<=at_;simp[Y2,a,d,f];have h:=ZS at_ Z0 Z0;have j:=ZS (fstL l 4+at_) Z0 Z0;simp[Y2,a,d,f,h,j]
def X3(l:Ly)(a k:Int):Bool:=decide (fstL l k<=a)&&decide (a<fstL l k+YS l k)
theorem Sj{l a k}:X3 l a k=xk↔fstL l k<=a/\a<fstL l k+YS l k:=by simp[X3]
def yR{l a k}:X3 l a k=xw↔ ¬(fstL l k<=a/\a<fstL l k+YS l k):=by grind [Sj]
def Yh(l:Ly)(a:Int):Int×Int×Int:=
 if ZJ l=xw then(0,0,1)else if X3 l a 1 then(1,a-fstL l 1,0)else if X3 l a 2 then(2,a-fstL l 2,0)else if X3 l a 3 then(3,a-fstL l 3,0)else if X3 l a 4 then(4,a-fstL l 4,0)else(0,0,6)
def Z3R{l:Ly}(x:l.au){a:Int}(w:ZB a):VC xP 59 xw [X4 l,vu a]<|.am [.agg [vi (Yh l a).1,vi (Yh l a).2.1],vi (Yh l a).2.2]:=by
 refine ZR Fg follows Z2 c59 rfl ?_;simp[Nw];refine Zz (LR x) Z1 ?_;cases o:ZJ l;simp[Yh,o];obtain⟨z,A⟩:=w;simp;refine Zz (PF o) (by simp[X4]) ?_;simp;have r:∀k,1<=fstL l k/\fstL l k+YS l k<=9223372036854775808/\0<=YS l k/\YS l k<=4096:=λk=>WP o k;have w1:=r 1;have w2:=r 2;have w3:=r 3;have w4:=r 4;simp only[LY,LZ,z5,za]at w1 w2 w3 w4;refine jU 6 4 (λi=>(0<i->X3 l a 1=xw)/\(1<i->X3 l a 2=xw)/\(2<i->X3 l a 3=xw)/\(3<i->X3 l a 4=xw)) Z1 Z1 Z1 ?_;rintro i B ⟨n,p,t,y⟩;have u:i=0\/i=1\/i=2\/i=3\/i=4:=Z0;obtain rfl|rfl|rfl|rfl|rfl:=u;have h:=ZS l.H Z0 Z0;by_cases f:fstL l 1<=a;have j:=ZS (a-fstL l 1) Z0 Z0;by_cases g:a-fstL l 1<l.H;have q:=Zy (a-fstL l 1) Z0 Z0;have d:X3 l a 1=xk:=Sj.2 ⟨f,by rw[LY];omega⟩;simp[V7,Ya,Zy,f,h,j,g,q,Yh,o,d];have d:X3 l a 1=xw:=yR.2 (by rw[LY];omega);simp[V7,Ya,Zy,f,h,j,g,d];have d:X3 l a 1=xw:=by simp[X3,f]
 simp[V7,Ya,Zy,f,d];have h:=ZS l.ab Z0 Z0;by_cases f:fstL l 2<=a;have j:=ZS (a-fstL l 2) Z0 Z0;by_cases g:a-fstL l 2<l.ab;have q:=Zy (a-fstL l 2) Z0 Z0;have d:X3 l a 2=xk:=Sj.2 ⟨f,by rw[LZ];omega⟩;simp[V7,Ya,Zy,f,h,j,g,q,Yh,o,d,n Z0];have d:X3 l a 2=xw:=yR.2 (by rw[LZ];omega);simp[V7,Ya,Zy,f,h,j,g,d,n Z0];have d:X3 l a 2=xw:=by simp[X3,f]
 simp[V7,Ya,Zy,f,d,n Z0];have h:=ZS l.ah Z0 Z0;by_cases f:fstL l 3<=a;have j:=ZS (a-fstL l 3) Z0 Z0;by_cases g:a-fstL l 3<l.ah;have q:=Zy (a-fstL l 3) Z0 Z0;have d:X3 l a 3=xk:=Sj.2 ⟨f,by rw[z5];omega⟩;simp[V7,Ya,Zy,f,h,j,g,q,Yh,o,d,n Z0,p Z0];have d:X3 l a 3=xw:=yR.2 (by rw[z5];omega);simp[V7,Ya,Zy,f,h,j,g,d,n Z0,p Z0];have d:X3 l a 3=xw:=by simp[X3,f]
 simp[V7,Ya,Zy,f,d,n Z0,p Z0];have h:=ZS l.al Z0 Z0;by_cases f:fstL l 4<=a;have j:=ZS (a-fstL l 4) Z0 Z0;by_cases g:a-fstL l 4<l.al;have q:=Zy (a-fstL l 4) Z0 Z0;have d:X3 l a 4=xk:=Sj.2 ⟨f,by rw[za];omega⟩;simp[V7,Ya,Zy,f,h,j,g,q,Yh,o,d,n Z0,p Z0,t Z0];have d:X3 l a 4=xw:=yR.2 (by rw[za];omega);simp[V7,Ya,Zy,f,h,j,g,d,n Z0,p Z0,t Z0];have d:X3 l a 4=xw:=by simp[X3,f]
 simp[V7,Ya,Zy,f,d,n Z0,p Z0,t Z0];simp[Yh,o,n Z0,p Z0,t Z0,y Z0]
def Ng:Fn:=⟨3,[0,1,2],pQ [pR [(1,pS 0 10),(2,.m [pU 0,pI 0,pI 0,pI 0,pI 0,pI 0,pI 0])]]<|px [(2,pM (.ag [.m 1 0,.m 1 1,.m 1 2,.len<|.m 1 5,.len<|.m 1 6,.len<|.m 1 7,.len<|.m 1 8]) 7)],[(2,(.ag 7))]⟩
def c24:ZY [.fz] Try.f24=J Ng:=Z2
def Cu:Fn:=⟨4,[0,1,4,6],pQ [pR [pV 2<|pI 0],pi 3 (pl (.s 0)<|pI 0)<|pR [pV 0<|.un .neg<|pa (.s 0)<|pI 1]]<|px [pV 2<|.bo .rem (.s 0)<|.s 1],[(2,.v)]⟩
def c28:ZY [.fz,.fz] Try.f28=J Cu:=Z2
def qL:Fn:=⟨8,[0,1,2,4,6,5,10,14],pQ [pR [(2,pS 0 10),pV 3 pN],pQ [pR [pV 5<|.s 1]]<|.block 0<|pu 4 (pe (.s 5)<|pI 1) (px [pV 3<|.m 2 5])<|pu 6 (pe (.s 5)<|pI 2) (px [pV 3<|.m 2 6])<|pi 7 (pe (.s 5)<|pI 3)<|px [pV 3<|.m 2 7]]<|px [pV 3<|.m 2 8],[(3,.v)]⟩
def c30:ZY [.fz,.fz] Try.f30=J qL:=Z2
def qM:Fn:=⟨9,[0,1,2,3,6,10,7,14,18],pQ [pR [(3,pS 0 10),(4,pZ)],pQ [pR [pV 6<|.s 1]]<|.block 0<|pu 5 (pe (.s 6)<|pI 1) (pR [(3,.m [.m 3 0,.m 3 1,.m 3 2,.m 3 3,.m 3 4,.one<|.s 2,.m 3 6,.m 3 7,.m 3 8,.m 3 9])])<|pu 7 (pe (.s 6)<|pI 2) (pR [(3,.m [.m 3 0,.m 3 1,.m 3 2,.m 3 3,.m 3 4,.m 3 5,.one<|.s 2,.m 3 7,.m 3 8,.m 3 9])])<|pu 8 (pe (.s 6)<|pI 3) (pR [(3,.m [.m 3 0,.m 3 1,.m 3 2,.m 3 3,.m 3 4,.m 3 5,.m 3 6,.one<|.s 2,.m 3 8,.m 3 9])])<|pR [(3,.m [.m 3 0,.m 3 1,.m 3 2,.m 3 3,.m 3 4,.m 3 5,.m 3 6,.m 3 7,.one<|.s 2,.m 3 9])]]<|px [(4,pM (.mm 3 0 10) 10)],[(4,(.ag 10))]⟩
def c32:ZY [.fz,.fz,.fz] Try.f32=J qM:=Z2
def Cw:Fn:=⟨4,[0,1,4,6],pQ [pR [pV 2<|pI 0],pi 3 (pl (.s 0)<|pI 0)<|pR [pV 0<|.un .neg<|pa (.s 0)<|pI 1]]<|px [pV 2<|.bo .rem (.s 0)<|.s 1],[(2,.v)]⟩
def c44:ZY [.fz,.fz] Try.f44=J Cw:=Z2
def Nr:Fn:=⟨3,[0,1,2],pQ [pR [(1,pS 0 10),(2,.m [pU 0,pI 0,pI 0,pI 0,pI 0,pI 0,pI 0])]]<|px [(2,pM (.ag [.m 1 0,.m 1 1,.m 1 2,.len<|.m 1 5,.len<|.m 1 6,.len<|.m 1 7,.len<|.m 1 8]) 7)],[(2,(.ag 7))]⟩
def c48:ZY [.fz] Try.f48=J Nr:=Z2
structure Hp where
 base:Int
 cap:Int
 to:Int
 Y:Bool
 aa:Int
 H:List Int
 ab:List Int
 ah:List Int
 al:List Int
 E:List Int
 deriving DecidableEq,Inhabited
def ZE(h:Hp):V:=.agg [vu h.base,vi h.cap,vi h.to,.bool h.Y,vi h.aa,.sl<|h.H.map vu,.sl<|h.ab.map vu,.sl<|h.ah.map vu,.sl<|h.al.map vu,.sl<|h.E.map vu]
@[simp]theorem ZfM(h:Hp):VL (ZE h) 10=J (ZE h):=rfl
@[simp]theorem Zeo(h:Hp):(ZE h).cells=[vu h.base,vi h.cap,vi h.to,.bool h.Y,vi h.aa,.sl<|h.H.map vu,.sl<|h.ab.map vu,.sl<|h.ah.map vu,.sl<|h.al.map vu,.sl<|h.E.map vu]:=rfl
@[simp]theorem Zdz(h:Hp):Y0 (ZE h) 0=J (vu h.base):=rfl
@[simp]theorem ZdA(h:Hp):Y0 (ZE h) 1=J (vi h.cap):=rfl
@[simp]theorem ZdB(h:Hp):Y0 (ZE h) 2=J (vi h.to):=rfl
@[simp]theorem ZdC(h:Hp):Y0 (ZE h) 3=J (.bool h.Y):=rfl
@[simp]theorem ZdD(h:Hp):Y0 (ZE h) 4=J (vi h.aa):=rfl
@[simp]theorem ZdE(h:Hp):Y0 (ZE h) 5=J (.sl<|h.H.map vu):=rfl
@[simp]theorem ZdF(h:Hp):Y0 (ZE h) 6=J (.sl<|h.ab.map vu):=rfl
@[simp]theorem ZdG(h:Hp):Y0 (ZE h) 7=J (.sl<|h.ah.map vu):=rfl
@[simp]theorem ZdH(h:Hp):Y0 (ZE h) 8=J (.sl<|h.al.map vu):=rfl
@[simp]theorem ZdI(h:Hp):Y0 (ZE h) 9=J (.sl<|h.E.map vu):=rfl
def Zv(h:Hp):Ly:=⟨h.base,h.cap,h.to,I h.H,I h.ab,I h.ah,I h.al⟩
structure Hp.ok (h:Hp):Prop where
 base:ZB h.base
 cap:Ym h.cap
 to:Ym h.to
 aa:Ym h.aa
 H:I h.H<=1000000
 ab:I h.ab<=1000000
 ah:I h.ah<=1000000
 al:I h.al<=1000000
 E:I h.E<=1000000
 gm:∀w∈h.H,ZB w
 gx:∀w∈h.ab,ZB w
 ma:∀w∈h.ah,ZB w
 ln:∀w∈h.al,ZB w
 dj:∀w∈h.E,ZB w
def yo{α:Type}{l:List α}(h:I l<=1000000):Ym (I l:Int):=⟨Z0,Z0⟩
def Hp.ok.bd{h:Hp}(a:h.ok):(Zv h).au:=⟨a.base,a.cap,a.to,yo a.H,yo a.ab,yo a.ah,yo a.al⟩
def EG{h:Hp}:VC xP 24 xw [ZE h]<|X4<|Zv h:=by
 refine ZR F5 follows Z2 c24 rfl ?_;simp[Ng,X4,Zv]
def Z98{h:Hp}:VC xP 48 xw [ZE h]<|X4<|Zv h:=by
 refine ZR Z1I follows Z2 c48 rfl ?_;simp[Nr,X4,Zv]
def Zw(h:Hp)(n:Int):List Int:=if n=1 then h.H else if n=2 then h.ab else if n=3 then h.ah else h.al
@[simp]theorem Vo(h:Hp):Zw h 1=h.H:=rfl
@[simp]theorem qQ(h:Hp):Zw h 2=h.ab:=rfl
@[simp]theorem CF(h:Hp):Zw h 3=h.ah:=rfl
@[simp]theorem Lw(h:Hp):Zw h 4=h.al:=rfl
def EO{h:Hp}{n:Int}:VC xP 30 xw [ZE h,vi n]<|.sl<|(Zw h n).map vu:=by
 refine ZR Z1w follows Z2 c30 rfl ?_;by_cases a:n=1;simp[qL,Zw,a];by_cases d:n=2;simp[qL,Zw,d];by_cases f:n=3<;>simp[qL,Zw,a,d,f]
def Xn(h:Hp)(n:Int)(l:Z8):Hp:=if n=1 then {h with H:=l}else if n=2 then {h with ab:=l}else if n=3 then {h with ah:=l}else {h with al:=l}
@[simp]theorem ZfX(h:Hp)(l:Z8):Xn h 1 l= {h with H:=l}:=rfl
@[simp]theorem ZfY(h:Hp)(l:Z8):Xn h 2 l= {h with ab:=l}:=rfl
@[simp]theorem ZfZ(h:Hp)(l:Z8):Xn h 3 l= {h with ah:=l}:=rfl
@[simp]theorem Zg0(h:Hp)(l:Z8):Xn h 4 l= {h with al:=l}:=rfl
def Fw{h:Hp}{n:Int}{l:Z8}:VC xP 32 xw [ZE h,vi n,.sl<|l.map vu]<|ZE<|Xn h n l:=by
 refine ZR Z1y follows Z2 c32 rfl ?_;by_cases a:n=1;simp[qM,Xn,a,ZE];by_cases d:n=2;simp[qM,Xn,d,ZE];by_cases f:n=3<;>simp[qM,Xn,a,d,f,ZE]
def pick(c n:Int):Int:=(if c<0 then-(c+1)else c) %n
def UK{c n:Int}(a:0<n):0<=pick c n/\pick c n<n:=⟨Zlk _ Z0,ZkV _ a⟩
def Lz{c n:Int}(hc:Ym c)(f:0<n):VC xP 28 xw [vi c,vi n]<|vi<|pick c n:=by
 refine ZR Z1u follows Z2 c28 rfl ?_;obtain⟨a,d⟩:=hc;by_cases h:c<0;simp[Cu,h];simp(disch:=omega) only[Zy];refine⟨Z0,?_⟩;unfold pick;grind;simp[Cu,h];refine⟨Z0,?_⟩;simp_all[pick,Zhs,Zir]
def NZ{c n:Int}(hc:Ym c)(f:0<n):VC xP 44 xw [vi c,vi n]<|vi<|pick c n:=by
 refine ZR Z1E follows Z2 c44 rfl ?_;obtain⟨a,d⟩:=hc;by_cases h:c<0;simp[Cw,h];simp(disch:=omega) only[Zy];refine⟨Z0,?_⟩;unfold pick;grind;simp[Cw,h];refine⟨Z0,?_⟩;simp_all[pick,Zhs,Zir]
def Nh:Fn:=⟨13,[0,1,4,5,6,7,16,8,9,30,10,78,97],pQ [pR [(2,.m [pN,pN])],pR [pV 3<|.mn (.len<|.s 0)<|pI 10],pR [(4,.m [pN,pN])],pQ [pR [pV 5<|pI 0]]<|.block 0<|.loop [0,1,2,3,4,5]<|pQ [pu 6 (pl (.s 5)<|.s 3) .skip<|.exit 0,.block 1<|pQ [pR [(7,.m [pN,pN])],pQ [pR [pV 8<|pI 0]]<|.block 2<|.loop [0,1,2,3,4,5,6,7,8]<|pQ [pQ [.ao ⟨[.lt 13 []<|pl (.s 8)<|.len<|.ae (.az (.s 0) (.s 5) 2) 0],[([(13,xk)],pl (.s 8)<|pI 4)],[pV 9<|.ite (.s 13) (pl (.s 8)<|pI 4) pF]⟩]<|.cond (.s 9) .skip<|.exit 2,.block 3<|pC [pK 14 44 [.ae (.az (.ae (.az (.s 0) (.s 5) 2) 0) (.s 8) 1) 0,pa (.s 3)<|pI 1]] [(7,.m [.app (.m 7 0) (.lit [pb (.s 14)<|pI 1]) 1,.m 7 1])]]<|pc 8,pR [(7,.m [.m 7 0,.app pN (.gz (.ae (.az (.s 0) (.s 5) 2) 1) (pI 0) (.mn (.len<|.ae (.az (.s 0) (.s 5) 2) 1)<|pI 4) 1) 1])]]<|pR [(4,.m [.app (.m 4 0) (.lit [.mm 7 0 2]) 2,.m 4 1])]]<|pc 5,pQ [pR [pV 10<|pI 0]]<|.block 4<|.loop [0,1,2,3,4,5,6,10]<|pQ [pQ [.ao ⟨[.lt 15 []<|pl (.s 10)<|.len<|.s 1],[([(15,xk)],pl (.s 10)<|pI 5)],[pV 11<|.ite (.s 15) (pl (.s 10)<|pI 5) pF]⟩]<|.cond (.s 11) .skip<|.exit 4,.block 5<|pC [pK 16 44 [.ae (.az (.s 1) (.s 10) 1) 0,pa (.s 3)<|pI 1]] [(4,.m [.m 4 0,.app (.m 4 1) (.lit [pb (.s 16)<|pI 1]) 1])]]<|pc 10,pi 12 (pe (.len<|.m 4 1)<|pI 0)<|pR [(4,.m [.m 4 0,.app (.m 4 1) (.lit [pb (.s 3)<|pI 1]) 1])]]<|px [(2,pM (.mm 4 0 2) 2)],[(2,(.ag 2))]⟩
def c26:ZY [.fz,.fz] Try.f26=J Nh:=Z2
def Ct:Fn:=⟨10,[0,1,2,3,6,7,8,14,9,31],pQ [pR [(3,pS 0 7),pV 4<|pI 0,pV 5 pF],pR [pV 6<|.s 1],pi 7 (pj (.len<|.m 3 2)<|pI 0)<|pR [pV 6<|.ae (.az (.m 3 2) (.bo .rem (.s 1)<|.len<|.m 3 2) 1) 0],pC [pK 10 28 [.s 6,pI 3]] [pV 8<|.s 10],pQ [.ao ⟨[.lt 11 []<|pe (.s 8)<|pI 2],[([(11,xk)],.un .not<|.s 2)],[pV 9<|.ite (.s 11) (.un .not<|.s 2) pF]⟩]<|pw (.s 9)<|pR [pV 8<|pI 1],pC [pK 12 28 [.bo .quo (.s 6)<|pI 3,pI 2]] [pV 4<|.s 8,pV 5<|pe (.s 12)<|pI 1]] .ret,[(4,.v),(5,.v)]⟩
def c27:ZY [.fz,.fz,.fz] Try.f27=J Ct:=Z2
def Ni:Fn:=⟨15,[0,1,2,3,4,5,6,8,9,10,11,12,44,13,76],pQ [pR [(4,pS 0 14),(5,pS 1 2),(6,pS 2 2),(7,.m [pU 0,pI 0,pI 0,pF,pI 0,pN,pN,pN,pN,pN,pN,pN,pN,pN])],pC [pK 15 30 [.mm 4 0 10,.m 5 0]] [pV 8<|.app pN (.s 15) 1],pC [pK 16 45 [.ag [pa (.len<|.m 6 0)<|.len<|.m 6 1,.len<|.m 6 0]]] [pV 9<|.ext (.s 16) 0,pV 10<|.ext (.s 16) 1],.ao ⟨[],[([],.az (.s 8) (.m 5 1) 1)],[pV 8<|.upd (.s 8) (.m 5 1) 0<|.one<|.s 9]⟩,pQ [pR [pV 11<|pI 0]]<|.block 0<|.loop [0,1,2,3,4,5,6,7,8,9,10,11]<|pQ [pu 12 (pl (.s 11)<|.len<|.m 6 0) .skip<|.exit 0,.block 1<|.ao ⟨[pK 17 46 [.mm 4 0 14,.ag [.m 5 0,pa (pa (.m 5 1)<|pI 1)<|.s 11],.ae (.az (.m 6 0) (.s 11) 1) 0,pa (.s 3)<|.s 11]],[([],.az (.s 8) (pa (pa (.m 5 1)<|pI 1)<|.s 11) 1)],[pV 8<|.upd (.s 8) (pa (pa (.m 5 1)<|pI 1)<|.s 11) 0<|.one<|.s 17]⟩]<|pc 11,pQ [pR [pV 13<|pI 0]]<|.block 2<|.loop [0,1,2,3,4,5,6,7,8,9,10,11,12,13]<|pQ [pu 14 (pl (.s 13)<|.len<|.m 6 1) .skip<|.exit 2,.block 3<|.ao ⟨[],[([],.az (.s 8) (pa (pa (pa (.m 5 1)<|pI 1)<|.len<|.m 6 0)<|.s 13) 1)],[pV 8<|.upd (.s 8) (pa (pa (pa (.m 5 1)<|pI 1)<|.len<|.m 6 0)<|.s 13) 0<|.ae (.az (.m 6 1) (.s 13) 1) 0]⟩]<|pc 13,pC [pK 18 32 [.mm 4 0 10,.m 5 0,.s 8]] [(4,.m [.ae (.sz (.s 18) 10) 0,.ae (.sz (.s 18) 10) 1,.ae (.sz (.s 18) 10) 2,.ae (.sz (.s 18) 10) 3,.ae (.sz (.s 18) 10) 4,.ae (.sz (.s 18) 10) 5,.ae (.sz (.s 18) 10) 6,.ae (.sz (.s 18) 10) 7,.ae (.sz (.s 18) 10) 8,.ae (.sz (.s 18) 10) 9,.m 4 10,.m 4 11,.m 4 12,.m 4 13])]]<|px [(7,pM (.mm 4 0 14) 14)],[(7,(.ag 14))]⟩
def c29:ZY [.fz,.fz,.fz,.fz] Try.f29=J Ni:=Z2
def Cv:Fn:=⟨10,[0,1,2,3,4,11,5,6,7,8],pQ [pR [(2,pS 0 14),(3,pS 1 2),pV 4<|pU 0],pi 5 (pe (.m 3 0)<|pI 0)<|px [pV 4<|pU 0],pC [pK 10 48 [.mm 2 0 10],pK 11 47 [.s 10,.mm 3 0 2]] [pV 6<|.ext (.s 11) 0,pV 7<|.ext (.s 11) 1],pC [pK 12 49 [.s 6]] [pV 8<|.ext (.s 12) 0,pV 9<|.ext (.s 12) 1]]<|px [pV 4<|.s 8],[(4,.v)]⟩
def c31:ZY [.fz,.fz] Try.f31=J Cv:=Z2
def Su:Fn:=⟨10,[0,1,2,3,4,5,8,10,13,54],pQ [pR [(4,pS 0 14),(5,pS 1 2),pV 6<|pU 0],pi 7 (pl (.s 2)<|pI 0)<|px [pV 6<|pU 0],pi 8 (pj (.m 5 0)<|pI 2)<|pQ [pC [pK 10 31 [.mm 4 0 14,.bb (.az (.m 4 13) (.s 2) 2) 0 2]] [pV 6<|.s 10]] .ret,pQ [.ao ⟨[.lt 11 []<|pe (.m 5 0)<|pI 1,.lt 12 []<|.ite (.s 11) (pg (.m 5 1)<|.m 4 4) pF,.lt 13 [(12,xk)]<|pe (.ae (.az (.m 4 12) (.s 2) 2) 0)<|pI 0,.lt 14 [(12,xk),(13,xw)]<|pj (.ae (.az (.m 4 13) (.s 2) 2) 0)<|pI 0],[([(11,xk)],pg (.m 5 1)<|.m 4 4),([(12,xk),(13,xw),(14,xk)],pe (.bo .rem (.s 3)<|pI 2)<|pI 0),([(12,xk),(13,xw)],.ite (.s 14) (pe (.bo .rem (.s 3)<|pI 2)<|pI 0) pF),([(12,xk)],.ite (.s 13) pT<|.ite (.s 14) (pe (.bo .rem (.s 3)<|pI 2)<|pI 0) pF)],[pV 9<|.ite (.s 12) (.ite (.s 13) pT<|.ite (.s 14) (pe (.bo .rem (.s 3)<|pI 2)<|pI 0) pF) pF]⟩]<|pw (.s 9)<|pQ [pC [pK 15 31 [.mm 4 0 14,.bb (.az (.m 4 13) (.s 2) 2) 0 2]] [pV 6<|.s 15]] .ret,pC [pK 16 31 [.mm 4 0 14,.bb (.az (.m 4 12) (.s 2) 2) 0 2]] [pV 6<|.s 16]] .ret,[(6,.v)]⟩
def c46:ZY [.fz,.fz,.fz,.fz] Try.f46=J Su:=Z2
structure Nd where
 M:List Int
 data:List Int
 deriving DecidableEq,Inhabited
structure Gr where
 nodes:List Nd
 E:List Int
 deriving DecidableEq,Inhabited
def Yk(n:Nd):V:=.agg [.sl<|n.M.map vi,.sl<|n.data.map vu]
def YB(g:Gr):V:=.agg [.sl<|g.nodes.map Yk,.sl<|g.E.map vi]
@[simp]theorem ZeN(n:Nd):(Yk n).cells=[.sl<|n.M.map vi,.sl<|n.data.map vu]:=rfl
@[simp]theorem Zfz(l:List Nd):Xv 2 (l.map Yk)=xk:=JY λ_=>rfl
@[simp]theorem Zee(n:Nd):UC (Yk n) 0 2=J (Yk n):=rfl
@[simp]theorem ZdR(n:Nd):Y0 (Yk n) 0=J (.sl<|n.M.map vi):=rfl
@[simp]theorem ZdS(n:Nd):Y0 (Yk n) 1=J (.sl<|n.data.map vu):=rfl
@[simp]theorem ZfO(n:Nd):VL (Yk n) 2=J (Yk n):=rfl
@[simp]theorem Zed(g:Gr):UC (YB g) 0 2=J (YB g):=rfl
@[simp]theorem Zdx(g:Gr):Y0 (YB g) 0=J (.sl<|g.nodes.map Yk):=rfl
@[simp]theorem Zdy(g:Gr):Y0 (YB g) 1=J (.sl<|g.E.map vi):=rfl
@[simp]theorem ZfL(g:Gr):VL (YB g) 2=J (YB g):=rfl
@[simp]theorem Zem(g:Gr):(YB g).cells=[.sl<|g.nodes.map Yk,.sl<|g.E.map vi]:=rfl
@[simp]theorem ZfE{k:IntKind}{l:Zr}(j n:Nat):RF n (.sl l) (.int k 0) (.int k (j:Int))=if j<=I l/\Xv n l=xk then J (.sl<|l.take j)else U:=by
 have:=Zav (k:=k) (l:=l) 0 j n;simpa using this
def rp(n:Nat)(p:Int):Int:=pick p (n+1) -1
def Th(n:Nat)(x:Nd):Nd:=⟨(x.M.take 4).map<|rp n,x.data.take 4⟩
def VG(l:List Nd):Nat:=min (I l) 10
def ZW(l:List Nd)(a:Z8):Gr:=⟨(l.take<|VG l).map<|Th<|VG l,if a.take 5=[]then [(VG l:Int) -1]else(a.take 5).map (rp<|VG l)⟩
def Z10{l:List Nd}{a:Z8}(hl:∀x∈l,∀p∈x.M,Ym p)(hr:∀p∈a,Ym p):VC xP 26 xw [.sl<|l.map Yk,.sl<|a.map vi]<|YB<|ZW l a:=by
 refine ZR Z1s follows Z2 c26 rfl ?_;have S:VG l<=10:=by grind [VG]
 have a1:VG l<=I l:=by grind [VG]
 have z:(if(10:Int)< (I l:Int)then(10:Int)else(I l:Int))=(VG l:Int):=by
  unfold VG;split<;>omega
 simp[Nh,z];generalize hn:VG l=n at*;have C:=Zy ((n:Int)+1) Z0 Z0;refine S6 (λt=>∃i:Nat,i<=n/\t=[.v<|.sl<|l.map Yk,.v<|.sl<|a.map vi,.m [.sl [],.sl []],.v<|vi n,.m [.sl<|((l.take i).map<|Th n).map Yk,.sl []],.v<|vi i]) (λt=>match get t 5 with|.v (.int _ i)=>n-i.toNat|_=>0) ?_ ?_;exact⟨0,Z1,Z1⟩
 .rintro t ⟨i,hi,rfl⟩;have hw:=Zy ((i:Int)+1) Z0 Z0;by_cases h:i<n
  .have r:i<I l:=Z0;have P:l[i]?=J l[i]:=Zhi r;simp[h];generalize A:l[i]=x at P;have Q:∀p∈x.M,Ym p:=hl x<|Zhq P;have F:(if(4:Int)< (I x.data:Int)then(4:Int)else(I x.data:Int))=((min (I x.data) 4:Nat):Int):=by split<;>omega
   refine S6 (λt=>∃k:Nat,k<=I x.M/\k<=4/\t=[.v<|.sl<|l.map Yk,.v<|.sl<|a.map vi,.m [.sl [],.sl []],.v<|vi n,.m [.sl<|((l.take i).map<|Th n).map Yk,.sl []],.v<|vi i,.v<|.bool xk,.m [.sl<|((x.M.take k).map<|rp n).map vi,.sl []],.v<|vi k]) (λt=>match get t 8 with|.v (.int _ i)=>4-i.toNat|_=>0) ?_ ?_;exact⟨0,Z1,Z1,Z1⟩
   .rintro t ⟨k,G,Z,rfl⟩;have w:=Zy ((k:Int)+1) Z0 Z0;by_cases W:k<I x.M/\k<4;obtain⟨f,Y⟩:=W;have M:x.M[k]?=J x.M[k]:=Zhi f;have g:(k:Int)<4:=Z0;simp[r,A,f,g,C];refine Zz (NZ (Q _<|ZhE f) Z0) Z1 ?_;have N:=UK (c:=x.M[k]) (n:=(n:Int)+1) Z0;have y:=Zy (pick x.M[k] ((n:Int)+1) -1) Z0 Z0;simp[w,y];refine⟨by grind [Y4],⟨k+1,Z0,Z0,?_,Z1⟩,Z0⟩;rw[Zik,ZhG,M];rfl
    .have d:(x.M.take k)=x.M.take 4:=by
      by_cases f:k<I x.M;grind;grind
     have o:(l.take<|i+1).map (Yk∘Th n)=(l.take i).map (Yk∘Th n)++[V.agg [.sl<|(x.M.take k).map<|vi∘rp n,.sl<|(x.data.take<|min (I x.data) 4).map vu]]:=by
      rw[Zik,P,Ziv,d];have L:x.data.take (min (I x.data) 4)=x.data.take 4:=by
       by_cases hd:I x.data<=4;grind;grind
      rw[L];simp[Yk,Th]
     have B:Xv 1 ((x.data.take<|min (I x.data) 4).map vu)=xk:=zc _;have u:min (I x.data) 4<=Y4:=by grind [Y4]
     have H:min i (I l)+1<=Y4:=by grind [Y4]
     have K:min (I x.data) 4<=I x.data:=Z0;simp only[List.map_take]at o B;have g:k<I x.M->¬(k:Int)<4:=Z0;by_cases f:k<I x.M
     all_goals (
      simp[r,A,f,g,F,u,H,B,hw,K];exact⟨⟨i+1,Z0,o.symm,Z1⟩,Z0⟩)
  .have:i=n:=Z0;subst this;simp;have D:=Zy ((i:Int) -1) Z0 Z0;refine S6 (λt=>∃k:Nat,k<=I a/\k<=5/\t=[.v<|.sl<|l.map Yk,.v<|.sl<|a.map vi,.m [.sl [],.sl []],.v<|vi i,.m [.sl<|(l.take i).map<|Yk∘Th i,.sl<|(a.take k).map<|vi∘rp i],.v<|vi i,.v<|.bool xw,.no,.no,.no,.v<|vi k]) (λt=>match get t 10 with|.v (.int _ i)=>5-i.toNat|_=>0) ?_ ?_;exact⟨0,Z1,Z1,Z1⟩
   .rintro t ⟨k,G,a0,rfl⟩;have w:=Zy ((k:Int)+1) Z0 Z0;by_cases X:k<I a/\k<5;obtain⟨f,Y⟩:=X;have M:a[k]?=J a[k]:=Zhi f;have g:(k:Int)<5:=Z0;simp[f,g,C];refine Zz (NZ (hr _<|ZhE f) Z0) Z1 ?_;have N:=UK (c:=a[k]) (n:=(i:Int)+1) Z0;have y:=Zy (pick a[k] ((i:Int)+1) -1) Z0 Z0;simp[w,y];refine⟨by grind [Y4],⟨k+1,Z0,Z0,?_,Z1⟩,Z0⟩;rw[Zik,ZhG,M];rfl
    .have d:(a.take k)=a.take 5:=by
      by_cases f:k<I a;grind;grind
     have g:k<I a->¬(k:Int)<5:=Z0;have R:ZW l a=⟨(l.take i).map<|Th i,if a.take 5=[]then [(i:Int) -1]else(a.take 5).map (rp i)⟩:=by
      unfold ZW;rw[hn]
     have q:I (a.take k)=k:=by rw[Zil];omega
     by_cases T:k=0;subst T;have j:a.take 5=[]:=by rw[<-d];rfl
     rw[R,Zht j];have f:¬0<I a:=Z0;have u:1<=Y4:=by simp[Y4]
     simp[f,YB,D,u]
     .have j:a.take 5≠[]:=by
       rw[<-d];intro h;rw[h]at q;simp at q;omega
      rw[R,Zhs j,<-d];have O:¬a=[]:=by intro h;rw[h]at G;simp at G;omega
      by_cases f:k<I a;all_goals simp[f,g,YB,T,O]
def P0{n:Nat}{p:Int}: -1<=rp n p/\rp n p<n:=by
 have:=UK (c:=p) (n:=(n:Int)+1) Z0;grind [rp]
def qg(l:List Nd)(a:Z8):(ZW l a).nodes.length=VG l:=by
 simp[ZW,VG]
def BZ(l:List Nd)(a:Z8):VG l<=10/\(ZW l a).E.length<=5/\∀x∈(ZW l a).nodes,I x.M<=4/\I x.data<=4:=by
 refine⟨by grind [VG],?_,λx d=> ?_⟩;grind [ZW];simp only[ZW,ZhC]at d;obtain⟨y,_,rfl⟩:=d;grind [Th,List.length_map,List.length_take]
def p5:Fn:=⟨5,[0,1,2,3,10],pQ [pR [(1,pS 0 7),(2,pZ)],pC [pK 5 10 [.mm 1 0 7,pT]] [(3,pS 5 14)],pi 4 (pe (.len<|.m 3 5)<|pI 0)<|pQ [pC [pK 6 11 [.mm 1 0 7]] [(2,pS 6 10)]] .ret,pC [pK 7 12 [.mm 3 0 14,.mm 1 0 7]] [(2,pS 7 10)]] .ret,[(2,(.ag 10))]⟩
def c5:ZY [.fz] Try.f5=J p5:=Z2
def MY:Fn:=⟨19,[0,1,2,4,5,6,7,8,26,9,10,11,12,13,57,81,14,82,165],pQ [pR [(2,pS 0 7),(3,.m [pU 0,pI 0,pI 0,pF,pI 0,pN,pN,pN,pN,pN,pN,pN,pN,pN])],.ao ⟨[pK 19 26 [.m 2 0,.m 2 1]],[([],.ag [pU 0,pI 0,pI 0,pF,pI 0,pN,pN,pN,pN,pN,.ae (.sz (.s 19) 2) 0,.ae (.sz (.s 19) 2) 1,pN,pN])],[(4,.m [pU 0,pI 0,pI 0,pF,pI 0,pN,pN,pN,pN,pN,.ae (.sz (.s 19) 2) 0,.ae (.sz (.s 19) 2) 1,pN,pN])]⟩,pR [(5,.m [pI 0,pI 0,pI 0,pI 0,pI 0])],pR [pV 6<|pI 0],pQ [pR [pV 7<|pI 0]]<|.block 0<|.loop [0,1,2,3,4,5,6,7]<|pQ [pu 8 (pl (.s 7)<|.len<|.m 4 10) .skip<|.exit 0,.block 1<|pQ [pC [pK 20 27 [.mm 2 0 7,.s 7,.s 1]] [pV 9<|.ext (.s 20) 0,pV 10<|.ext (.s 20) 1],pR [pV 11<|pa (pa (pI 1)<|.len<|.ae (.az (.m 4 10) (.s 7) 2) 0)<|.len<|.ae (.az (.m 4 10) (.s 7) 2) 1],pR [(12,pM (.ag [pI 0,pI 0]) 2)],pR [(13,pM (.ag [pI 0,pI 0]) 2)],pu 14 (pl (.s 9)<|pI 2) (pQ [.ao ⟨[],[([],.ai (.c<|.agg [(.bool xk),(.bool xk),(.bool xk),(.bool xk),(.bool xk)]) (pb (pI 2)<|.s 9) 5 1 xw)],[(12,pM (.ag [pb (pI 2)<|.s 9,.one<|.ai (.mm 5 0 5) (pb (pI 2)<|.s 9) 5 1 xw]) 2)]⟩]<|.ao ⟨[],[([],.ai (.c<|.agg [(.bool xk),(.bool xk),(.bool xk),(.bool xk),(.bool xk)]) (pb (pI 2)<|.s 9) 5 1 xw)],[(5,pM (.df (.mm 5 0 5) (pb (pI 2)<|.s 9) 5 1<|pa (.ai (.mm 5 0 5) (pb (pI 2)<|.s 9) 5 1 xw)<|.s 11) 5)]⟩)<|pR [pV 6<|pa (.s 6)<|.s 11],pQ [pC [.lt 21 []<|pj (.s 9)<|pI 0] [pV 15<|.ite (.s 21) (.s 1) pF]]<|pw (.s 15)<|pQ [pR [pV 16<|pI 3],pi 17 (.s 10)<|pR [pV 16<|pI 4],.ao ⟨[],[([],.ai (.c<|.agg [(.bool xk),(.bool xk),(.bool xk),(.bool xk),(.bool xk)]) (.s 16) 5 1 xw)],[(13,pM (.ag [.one<|.s 16,.one<|.ai (.mm 5 0 5) (.s 16) 5 1 xw]) 2)]⟩]<|.ao ⟨[],[([],.ai (.c<|.agg [(.bool xk),(.bool xk),(.bool xk),(.bool xk),(.bool xk)]) (.s 16) 5 1 xw)],[(5,pM (.df (.mm 5 0 5) (.s 16) 5 1<|pa (.ai (.mm 5 0 5) (.s 16) 5 1 xw)<|.s 11) 5)]⟩,pR [(4,.m [.m 4 0,.m 4 1,.m 4 2,.m 4 3,.m 4 4,.m 4 5,.m 4 6,.m 4 7,.m 4 8,.m 4 9,.m 4 10,.m 4 11,.app (.m 4 12) (.lit [.mm 12 0 2]) 2,.m 4 13])]]<|pR [(4,.m [.m 4 0,.m 4 1,.m 4 2,.m 4 3,.m 4 4,.m 4 5,.m 4 6,.m 4 7,.m 4 8,.m 4 9,.m 4 10,.m 4 11,.m 4 12,.app (.m 4 13) (.lit [.mm 13 0 2]) 2])]]<|pc 7,.ao ⟨[pK 22 28 [.m 2 6,pI 2]],[([],.ai (.c<|.agg [(.bool xk),(.bool xk),(.bool xk),(.bool xk),(.bool xk)]) (pI 1) 5 1 xw),([],.ai (.c<|.agg [(.bool xk),(.bool xk),(.bool xk),(.bool xk),(.bool xk)]) (pI 2) 5 1 xw),([],.ai (.c<|.agg [(.bool xk),(.bool xk),(.bool xk),(.bool xk),(.bool xk)]) (pI 3) 5 1 xw),([],.ai (.c<|.agg [(.bool xk),(.bool xk),(.bool xk),(.bool xk),(.bool xk)]) (pI 4) 5 1 xw),([],.ag [pU 0,pI 0,.one<|.s 22,.one<|.s 1,pI 0,.mk (.int .u64 0)<|.ai (.mm 5 0 5) (pI 1) 5 1 xw,.mk (.int .u64 0)<|.ai (.mm 5 0 5) (pI 2) 5 1 xw,.mk (.int .u64 0)<|.ai (.mm 5 0 5) (pI 3) 5 1 xw,.mk (.int .u64 0)<|.ai (.mm 5 0 5) (pI 4) 5 1 xw,pN])],[(4,.m [pU 0,pI 0,.one<|.s 22,.one<|.s 1,pI 0,.mk (.int .u64 0)<|.ai (.mm 5 0 5) (pI 1) 5 1 xw,.mk (.int .u64 0)<|.ai (.mm 5 0 5) (pI 2) 5 1 xw,.mk (.int .u64 0)<|.ai (.mm 5 0 5) (pI 3) 5 1 xw,.mk (.int .u64 0)<|.ai (.mm 5 0 5) (pI 4) 5 1 xw,pN,.m 4 10,.m 4 11,.m 4 12,.m 4 13])]⟩,.ao ⟨[pK 23 28 [.m 2 4,pI 12]],[([],.ai (.c<|.agg [(.bool xk),(.bool xk),(.bool xk),(.bool xk),(.bool xk)]) (pI 1) 5 1 xw),([],.ai (.c<|.agg [(.bool xk),(.bool xk),(.bool xk),(.bool xk),(.bool xk)]) (pI 2) 5 1 xw),([],.ai (.c<|.agg [(.bool xk),(.bool xk),(.bool xk),(.bool xk),(.bool xk)]) (pI 3) 5 1 xw),([],.ai (.c<|.agg [(.bool xk),(.bool xk),(.bool xk),(.bool xk),(.bool xk)]) (pI 4) 5 1 xw)],[(4,.m [.m 4 0,pa (.mx (pa (pa (.ai (.mm 5 0 5) (pI 1) 5 1 xw)<|.ai (.mm 5 0 5) (pI 2) 5 1 xw)<|.s 6)<|pa (.ai (.mm 5 0 5) (pI 3) 5 1 xw)<|.ai (.mm 5 0 5) (pI 4) 5 1 xw)<|.s 23,.m 4 2,.m 4 3,.m 4 4,.m 4 5,.m 4 6,.m 4 7,.m 4 8,.m 4 9,.m 4 10,.m 4 11,.m 4 12,.m 4 13])]⟩,pR [(4,.m [pa (pU 1)<|.bo .rem (.m 2 3)<|pb (pU 9223372036854775808)<|pm (pU 2)<|.conv .u64<|.m 4 1,.m 4 1,.m 4 2,.m 4 3,.m 4 4,.m 4 5,.m 4 6,.m 4 7,.m 4 8,.m 4 9,.m 4 10,.m 4 11,.m 4 12,.m 4 13])],.ao ⟨[],[([],.ai (.c<|.agg [(.bool xk),(.bool xk),(.bool xk),(.bool xk),(.bool xk)]) (pI 1) 5 1 xw)],[(4,.m [.m 4 0,.m 4 1,.m 4 2,.m 4 3,.one<|.ai (.mm 5 0 5) (pI 1) 5 1 xw,.m 4 5,.m 4 6,.m 4 7,.m 4 8,.m 4 9,.m 4 10,.m 4 11,.m 4 12,.m 4 13])]⟩,pQ [.ao ⟨[.lt 24 []<|.s 1],[([(24,xk)],.ai (.c<|.agg [(.bool xk),(.bool xk),(.bool xk),(.bool xk),(.bool xk)]) (pI 1) 5 1 xw),([(24,xk)],pj (.ai (.mm 5 0 5) (pI 1) 5 1 xw)<|pI 0)],[pV 18<|.ite (.s 24) (pj (.ai (.mm 5 0 5) (pI 1) 5 1 xw)<|pI 0) pF]⟩]<|pw (.s 18)<|.ao ⟨[pK 25 28 [.m 2 5,.ai (.mm 5 0 5) (pI 1) 5 1 xw]],[([],.ai (.c<|.agg [(.bool xk),(.bool xk),(.bool xk),(.bool xk),(.bool xk)]) (pI 1) 5 1 xw)],[(4,.m [.m 4 0,.m 4 1,.m 4 2,.m 4 3,.one<|.s 25,.m 4 5,.m 4 6,.m 4 7,.m 4 8,.m 4 9,.m 4 10,.m 4 11,.m 4 12,.m 4 13])]⟩]<|px [(3,pM (.mm 4 0 14) 14)],[(3,(.ag 14))]⟩
def c10:ZY [.fz,.fz] Try.f10=J MY:=Z2
def qJ:Fn:=⟨3,[0,1,2],pQ [pR [(1,pS 0 7),(2,pZ)],pC [pK 3 10 [.mm 1 0 7,pF],pK 4 12 [.s 3,.mm 1 0 7]] [(2,pS 4 10)]] .ret,[(2,(.ag 10))]⟩
def Ak:ZY [.fz] Try.f11=J qJ:=Z2
def N0:Fn:=⟨17,[0,1,2,3,4,5,16,6,31,59,83,7,8,9,125,10,134],pQ [pR [(2,pS 0 14),(3,pS 1 7),(4,pZ)],pQ [pR [pV 5<|pI 0]]<|.block 0<|.loop [0,1,2,3,4,5]<|pQ [pu 6 (pl (.s 5)<|.len<|.m 2 10) .skip<|.exit 0,.block 1<|pQ [pR [(7,pM (.bb (.az (.m 2 10) (.s 5) 2) 0 2) 2)],pi 8 (pj (.ae (.az (.m 2 12) (.s 5) 2) 0)<|pI 0)<|pC [pK 17 29 [.mm 2 0 14,.bb (.az (.m 2 12) (.s 5) 2) 0 2,.mm 7 0 2,pa (.m 3 4)<|.s 5]] [(2,pS 17 14)],pQ [.ao ⟨[.lt 18 []<|pj (.ae (.az (.m 2 13) (.s 5) 2) 0)<|pI 0],[([(18,xk)],pe (.ae (.az (.m 2 12) (.s 5) 2) 0)<|pI 0)],[pV 9<|.ite (.s 18) (pe (.ae (.az (.m 2 12) (.s 5) 2) 0)<|pI 0) pF]⟩]<|pw (.s 9)<|pC [pK 19 29 [.mm 2 0 14,.bb (.az (.m 2 13) (.s 5) 2) 0 2,.mm 7 0 2,pI 0]] [(2,pS 19 14)],.ao ⟨[.lt 20 []<|pj (.ae (.az (.m 2 13) (.s 5) 2) 0)<|pI 0],[([(20,xk)],pj (.ae (.az (.m 2 12) (.s 5) 2) 0)<|pI 0)],[pV 10<|.ite (.s 20) (pj (.ae (.az (.m 2 12) (.s 5) 2) 0)<|pI 0) pF]⟩]<|pw (.s 10)<|pQ [pC [pK 21 30 [.mm 2 0 10,.ae (.az (.m 2 13) (.s 5) 2) 0]] [pV 11<|.app pN (.s 21) 1],.ao ⟨[pK 22 31 [.mm 2 0 14,.bb (.az (.m 2 12) (.s 5) 2) 0 2]],[([],.az (.s 11) (.ae (.az (.m 2 13) (.s 5) 2) 1) 1)],[pV 11<|.upd (.s 11) (.ae (.az (.m 2 13) (.s 5) 2) 1) 0<|.one<|.s 22]⟩]<|pC [pK 23 32 [.mm 2 0 10,.ae (.az (.m 2 13) (.s 5) 2) 0,.s 11]] [(2,.m [.ae (.sz (.s 23) 10) 0,.ae (.sz (.s 23) 10) 1,.ae (.sz (.s 23) 10) 2,.ae (.sz (.s 23) 10) 3,.ae (.sz (.s 23) 10) 4,.ae (.sz (.s 23) 10) 5,.ae (.sz (.s 23) 10) 6,.ae (.sz (.s 23) 10) 7,.ae (.sz (.s 23) 10) 8,.ae (.sz (.s 23) 10) 9,.m 2 10,.m 2 11,.m 2 12,.m 2 13])]]<|pc 5,pR [pV 12 pN],pQ [pR [pV 13<|pI 0]]<|.block 2<|.loop [0,1,2,3,4,5,6,12,13]<|pQ [pu 14 (pl (.s 13)<|.len<|.m 2 11) .skip<|.exit 2,.block 3<|pQ [pR [pV 15<|pU 0],pi 16 (pg (.ae (.az (.m 2 11) (.s 13) 1) 0)<|pI 0)<|pC [pK 24 31 [.mm 2 0 14,.bb (.az (.m 2 12) (.ae (.az (.m 2 11) (.s 13) 1) 0) 2) 0 2]] [pV 15<|.s 24]]<|pR [pV 12<|.app (.s 12) (.lit [.one<|.s 15]) 1]]<|pc 13,pR [(2,.m [.m 2 0,.m 2 1,.m 2 2,.m 2 3,.m 2 4,.m 2 5,.m 2 6,.m 2 7,.m 2 8,.one<|.s 12,.m 2 10,.m 2 11,.m 2 12,.m 2 13])]]<|px [(4,pM (.mm 2 0 10) 10)],[(4,(.ag 10))]⟩
def Q2:ZY [.fz,.fz] Try.f12=J N0:=Z2
end Vm
end
section
namespace Vm
open Go Go.Proofs
structure Pl where
 part:Int
 Z:Int
 deriving DecidableEq,Inhabited
def Wd(p:Pl):V:=.agg [vi p.part,vi p.Z]
@[simp]theorem Zfl p:(Wd p).cells=[vi p.part,vi p.Z]:=rfl
@[simp]theorem Zeh p:UC (Wd p) 0 2=J (Wd p):=rfl
@[simp]theorem ZdY p:Y0 (Wd p) 0=J (vi p.part):=rfl
@[simp]theorem ZdZ p:Y0 (Wd p) 1=J (vi p.Z):=rfl
@[simp]theorem ZfQ p:VL (Wd p) 2=J (Wd p):=rfl
@[simp]theorem ZfC(l:List Pl):Xv 2 (l.map Wd)=xk:=JY λ_=>rfl
structure Rw where
 nodes:List Nd
 E:List Int
 de:List Int
 base:Int
 bc:Int
 aa:Int
 to:Int
 deriving Inhabited
def Wt(x:Rw):V:=.agg [.sl<|x.nodes.map Yk,.sl<|x.E.map vi,.sl<|x.de.map vi,vu x.base,vi x.bc,vi x.aa,vi x.to]
@[simp]theorem ZfR x:VL (Wt x) 7=J (Wt x):=rfl
@[simp]theorem Zfv x:(Wt x).cells=[.sl<|x.nodes.map Yk,.sl<|x.E.map vi,.sl<|x.de.map vi,vu x.base,vi x.bc,vi x.aa,vi x.to]:=rfl
@[simp]theorem Ze0 x:Y0 (Wt x) 0=J (.sl<|x.nodes.map Yk):=rfl
@[simp]theorem Ze1 x:Y0 (Wt x) 1=J (.sl<|x.E.map vi):=rfl
@[simp]theorem Ze2 x:Y0 (Wt x) 2=J (.sl<|x.de.map vi):=rfl
@[simp]theorem Ze3 x:Y0 (Wt x) 3=J (vu x.base):=rfl
@[simp]theorem Ze4 x:Y0 (Wt x) 4=J (vi x.bc):=rfl
@[simp]theorem Ze5 x:Y0 (Wt x) 5=J (vi x.aa):=rfl
@[simp]theorem Ze6 x:Y0 (Wt x) 6=J (vi x.to):=rfl
structure Rw.ok (x:Rw):Prop where
 M:∀n∈x.nodes,∀p∈n.M,Ym p
 data:∀n∈x.nodes,∀p∈n.data,ZB p
 E:∀p∈x.E,Ym p
 de:∀p∈x.de,Ym p
 base:ZB x.base
 bc:Ym x.bc
 aa:Ym x.aa
 to:Ym x.to
def U4(x:Rw)(i:Nat):Int:=if I x.de=0 then i else(x.de[i%I x.de]?).getD 0
def V9(x:Rw)(i:Nat)(cycle:Bool):Int:=if pick (U4 x i) 3=2/\cycle=xw then 1 else pick (U4 x i) 3
def WB(x:Rw)(i:Nat):Bool:=decide (pick ((U4 x i).tdiv 3) 2=1)
def R5 x i cycle:V9 x i cycle=0\/V9 x i cycle=1\/(V9 x i cycle=2/\cycle=xk):=by
 have:=UK (c:=U4 x i) (n:=3) Z0;unfold V9;grind
def Z3s{x:Rw}(hx:x.ok){i:Nat}(C:i<=1000){cycle:Bool}:VC xP 27 xw [Wt x,vi i,.bool cycle]<|.am [vi<|V9 x i cycle,.bool<|WB x i]:=by
 refine ZR Z1t follows Z2 c27 rfl ?_;have t:Ym<|U4 x i:=by
  unfold U4;split;exact⟨Z0,Z0⟩;rename_i h;have:i%I x.de<I x.de:=ZkF _ Z0;rw[Zhi this];exact hx.de _<|ZhE this
 have g:=Lz (c:=U4 x i) (n:=3) t Z0;have p:Ym<|(U4 x i).tdiv 3:=by
  obtain⟨B,f⟩:=t;unfold Ym;rw[Int.tdiv_eq_ediv];have:Int.sign 3=1:=rfl;split<;>omega
 have d:=Zy _ p.1 p.2;have a:=Lz (c:=(U4 x i).tdiv 3) (n:=2) p Z0;have fin:∀(b:Bool),(decide (pick ((U4 x i).tdiv 3) 2=1)=b)->WB x i=b:=λb h=>h;by_cases q:I x.de=0;have k:U4 x i=i:=by simp[U4,q]
 rw[k]at g a d;rw[ZkS Z0]at a d;simp[Ct,q];refine Zz g Z1 ?_;by_cases f:pick (i:Int) 3=2;cases cycle;simp[f,d];refine Zz a Z1 ?_;simp[V9,WB,k,f];simp[f,d];refine Zz a Z1 ?_;simp[V9,WB,k,f];simp[f,d];refine Zz a Z1 ?_;simp[V9,WB,k,f];have l:i%I x.de<I x.de:=ZkF _ Z0;have w:x.de[i%I x.de]?=J x.de[i%I x.de]:=Zhi l;have k:U4 x i=x.de[i%I x.de]:=by simp[U4,q,w]
 have z:(i:Int).tmod (I x.de:Int)=((i%I x.de:Nat):Int):=by
  rw[Zir Z0];rfl
 rw[k]at g a d;have u:0<I x.de:=Z0;have r:x.de≠[]:=λe=>Zgm;have A:((i:Int) % (I x.de:Int))=((i%I x.de:Nat):Int):=rfl;generalize o:x.de[i%I x.de]=c at*;generalize y:i%I x.de=j at*;simp[Ct,u,r,z,l,o];refine Zz g Z1 ?_;by_cases f:pick c 3=2;cases cycle;simp[f,d];refine Zz a Z1 ?_;simp[V9,WB,k,f];simp[f,d];refine Zz a Z1 ?_;simp[V9,WB,k,f];simp[f,d];refine Zz a Z1 ?_;simp[V9,WB,k,f]
def ZL(n:Nd):Nat:=1+I n.M+I n.data
structure St8 where
 n1:Nat
 n2:Nat
 n3:Nat
 n4:Nat
 wt:Nat
 aw:List Pl
 ah:List Pl
def X8(x:Rw)(cycle:Bool)(sz:Nat)(i:Nat)(s:St8):St8:=
 let k:=V9 x i cycle;let a:=WB x i;let o:Bool:=decide (0<k)&&cycle
 {n1:=if k=1 then s.n1+sz else s.n1
  n2:=if k=0 then s.n2+sz else s.n2
  n3:=if o&& !a then s.n3+sz else s.n3
  n4:=if o&&a then s.n4+sz else s.n4
  wt:=if k=2 then s.wt+sz else s.wt
  aw:=s.aw++[if k=0 then⟨2,s.n2⟩else if k=1 then⟨1,s.n1⟩else⟨0,0⟩]
  ah:=s.ah++[if o then(if a then⟨4,s.n4⟩else⟨3,s.n3⟩)else⟨0,0⟩]}
def Y5(x:Rw)(cycle:Bool)(g:Gr):Nat->St8
 |0=>⟨0,0,0,0,0,[],[]⟩
 |i+1=>X8 x cycle (ZL<|(g.nodes[i]?).getD default) i<|Y5 x cycle g i
def ZaN{x cycle sz i}(h:sz<=9)s(d:s.n1+s.n2+s.wt<=9*i)(h2:s.n3+s.n4<=9*i)(f:I s.aw=i)(g:I s.ah=i):
  (X8 x cycle sz i s).n1+(X8 x cycle sz i s).n2+(X8 x cycle sz i s).wt<=9*(i+1)/\(X8 x cycle sz i s).n3+(X8 x cycle sz i s).n4<=9*(i+1)/\(X8 x cycle sz i s).aw.length=i+1/\(X8 x cycle sz i s).ah.length=i+1:=by
 obtain a|a|⟨a,rfl⟩:=R5 x i cycle;grind [X8];grind [WB,X8];grind [WB,X8]
def zg{x cycle g}(a:∀n∈g.nodes,ZL n<=9):∀i,i<=I g.nodes->(Y5 x cycle g i).n1+(Y5 x cycle g i).n2+(Y5 x cycle g i).wt<=9*i/\(Y5 x cycle g i).n3+(Y5 x cycle g i).n4<=9*i/\(Y5 x cycle g i).aw.length=i/\(Y5 x cycle g i).ah.length=i
 |0,_=>by simp[Y5]
 |i+1,k=>by
  let⟨d,f,h,j⟩:=zg (x:=x) (cycle:=cycle) a i Z0;simp[Y5,Zhi (Z0:i<I g.nodes)];simp_all[ZaN]
structure Bt where
 h:Hp
 g:Gr
 aw:List Pl
 ah:List Pl
def Xx(b:Bt):List V:=[vu b.h.base,vi b.h.cap,vi b.h.to,.bool b.h.Y,vi b.h.aa,.sl<|b.h.H.map vu,.sl<|b.h.ab.map vu,.sl<|b.h.ah.map vu,.sl<|b.h.al.map vu,.sl<|b.h.E.map vu,.sl<|b.g.nodes.map Yk,.sl<|b.g.E.map vi,.sl<|b.aw.map Wd,.sl<|b.ah.map Wd]
def Xj(b:Bt):V:=.agg [vu b.h.base,vi b.h.cap,vi b.h.to,.bool b.h.Y,vi b.h.aa,.sl<|b.h.H.map vu,.sl<|b.h.ab.map vu,.sl<|b.h.ah.map vu,.sl<|b.h.al.map vu,.sl<|b.h.E.map vu,.sl<|b.g.nodes.map Yk,.sl<|b.g.E.map vi,.sl<|b.aw.map Wd,.sl<|b.ah.map Wd]
def Yz(x:Rw)(cycle:Bool):Bt:=
 let g:=ZW x.nodes x.E;let s:=Y5 x cycle g<|I g.nodes;let cap:Int:=max ((s.n1:Int)+s.n2+s.wt) ((s.n3:Int)+s.n4)+pick x.bc 12
 ⟨⟨1+x.base% (9223372036854775808-2*cap),cap,pick x.to 2,cycle,if cycle=xk/\0<s.n1 then pick x.aa s.n1 else s.n1,List.replicate s.n1 0,List.replicate s.n2 0,List.replicate s.n3 0,List.replicate s.n4 0,[]⟩,g,s.aw,s.ah⟩
def PI{x:Rw}(hx:x.ok){cycle:Bool}:VC xP 10 xw [Wt x,.bool cycle]<|Xj<|Yz x cycle:=by
 refine ZR Z1m follows Z2 c10 rfl ?_;simp[MY];refine Zz (Z10 hx.M hx.E) Z1 ?_;obtain⟨M,N,B⟩:=BZ x.nodes x.E;have O:=qg x.nodes x.E;unfold Yz;generalize ZW x.nodes x.E=g at*;have l:∀n∈g.nodes,ZL n<=9:=λn d=>by have:=B n d;unfold ZL;omega
 simp
 refine VO 7 (I g.nodes) (λi=>[(4,.m [.int .u64 0,.int .i64 0,.int .i64 0,.bool xw,.int .i64 0,.sl [],.sl [],.sl [],.sl [],.sl [],.sl<|g.nodes.map Yk,.sl<|g.E.map vi,.sl<|(Y5 x cycle g i).aw.map Wd,.sl<|(Y5 x cycle g i).ah.map Wd]),
  (5,.m [vi 0,vi (Y5 x cycle g i).n1,vi (Y5 x cycle g i).n2,vi (Y5 x cycle g i).n3,vi (Y5 x cycle g i).n4]),(6,.v<|vi (Y5 x cycle g i).wt),(7,.v<|vi i)]) (λ_=>True) (by simp[Y5]) (λi=>Z1) trivial ?_
 rintro i R-;have o:=Zy ((i:Int)+1) Z0 Z0;obtain⟨s1,s2,s3,s4⟩:=zg (x:=x) (cycle:=cycle) l i R;by_cases h:i<I g.nodes;have d:g.nodes[i]?=J g.nodes[i]:=Zhi h;have p:=l _<|ZhE h;simp only[Y5,d,ZhP];generalize Y5 x cycle g i=s at*;generalize g.nodes[i]=n at*;have P:=Z3s hx (i:=i) Z0 (cycle:=cycle);have C:=R5 x i cycle;have w1:=Zy (1+(I n.M:Int)) (by unfold ZL at p;omega) (by unfold ZL at p;omega);have w2:=Zy (1+(I n.M:Int)+I n.data) (by unfold ZL at p;omega) (by unfold ZL at p;omega);have f:(1+(I n.M:Int)+I n.data)=(ZL n:Nat):=by unfold ZL;omega
 rw[f]at w2;simp[h];refine Zz P Z1 ?_;generalize K:ZL n=sz at*;unfold X8;generalize WB x i=H at*;generalize V9 x i cycle=k at*;have t:=Zy ((s.n1:Int)+sz) Z0 Z0;have u:=Zy ((s.n2:Int)+sz) Z0 Z0;have w:=Zy ((s.n3:Int)+sz) Z0 Z0;have y:=Zy ((s.n4:Int)+sz) Z0 Z0;have z:=Zy ((s.wt:Int)+sz) Z0 Z0;have q:I s.aw+1<=Y4:=ZgO;have r:I s.ah+1<=Y4:=ZgO;obtain rfl|rfl|⟨rfl,rfl⟩:=C;cases cycle<;>simp[d,Yn d,w1,f,w2,Ya,UZ,setCells,Zy,t,u,w,y,z,q,r,Wd,o];cases cycle;simp[d,Yn d,w1,f,w2,Ya,UZ,setCells,Zy,t,u,w,y,z,q,r,Wd,o];cases H<;>simp[d,Yn d,w1,f,w2,Ya,UZ,setCells,Zy,t,u,w,y,z,q,r,Wd,o];cases H<;>simp[d,Yn d,w1,f,w2,Ya,UZ,setCells,Zy,t,u,w,y,z,q,r,Wd,o];have:i=I g.nodes:=Z0;subst this;generalize T:Y5 x cycle g (I g.nodes)=s at*;have G:=Lz (c:=x.to) (n:=2) hx.to Z0;have F:=Lz (c:=x.bc) (n:=12) hx.bc Z0;have W:=UK (c:=x.bc) (n:=12) Z0;simp;refine Zz G Z1 ?_;have X:s.n1<=Y4:=ZgO;have Y:s.n2<=Y4:=ZgO;have Z:s.n3<=Y4:=ZgO;have q4:s.n4<=Y4:=ZgO;simp[Ya,X,Y,Z,q4];refine Zz F Z1 ?_;have w1:=Zy ((s.n1:Int)+s.n2) Z0 Z0;have w2:=Zy ((s.n1:Int)+s.n2+s.wt) Z0 Z0;have w3:=Zy ((s.n3:Int)+s.n4) Z0 Z0;have j:(if(s.n1:Int)+s.n2+s.wt< (s.n3:Int)+s.n4 then(s.n3:Int)+s.n4 else(s.n1:Int)+s.n2+s.wt)=max ((s.n1:Int)+s.n2+s.wt) ((s.n3:Int)+s.n4):=by split<;>omega
 obtain⟨cap,a⟩:∃cap:Int,max ((s.n1:Int)+s.n2+s.wt) ((s.n3:Int)+s.n4)+pick x.bc 12=cap:=⟨_,rfl⟩;have Q:0<=cap/\cap<=200:=Z0;have w4:=Zy cap Z0 Z0;have w5:=ZS cap Z0 Z0;have w6:=ZS (2*cap) Z0 Z0;have w7:=ZS (9223372036854775808-2*cap) Z0 Z0;obtain⟨L,b2⟩:=hx.base;have w8:x.base.tmod (9223372036854775808-2*cap)=x.base% (9223372036854775808-2*cap):=Zir L;have h1:=Zlk x.base (Z0:(9223372036854775808-2*cap)≠0);have h2:=ZkV x.base (Z0:0< (9223372036854775808-2*cap));have w9:=ZS (1+x.base% (9223372036854775808-2*cap)) Z0 Z0;have D:¬((9223372036854775808-2*cap)=0):=Z0;simp[Ya,w1,w2,w3,j,a,w4,w5,w6,w7,w8,w9,D];cases cycle;simp[Xj,a];by_cases A:0<s.n1;have S:=Lz (c:=x.aa) (n:=(s.n1:Int)) hx.aa Z0;simp[A];refine Zz S Z1 ?_;simp[Xj,a,A,Ya];simp[Xj,a,A]
end Vm
namespace Vm
open Go Go.Proofs
@[simp]theorem ZfJ b:VL (Xj b) 14=J (Xj b):=rfl
@[simp]theorem ZcY b:(Xj b).cells=Xx b:=rfl
@[simp]theorem Zdp b i:Y0 (Xj b) i=(Xx b)[i]?.bind YU:=rfl
def NT s p:0<=(Xu s p).1/\(Xu s p).1<100000000:=by
 grind [Xu,Yy]
def Z2p l(g:l.au)p a:0<=(Y2 l p a).1/\(Y2 l p a).1<=9223372036854775807:=by
 unfold Y2;split;simp;rename_i f;have d:ZJ l=xk:=ZgD;split;simp;split;simp;have:=WP d p;omega
def Z8y{a}:0<=(Xq a).1/\(Xq a).1<18446744073709551616:=by
 unfold Xq;split;simp;omega
def YJ(h:Hp)(p:Pl):Int:=if p.part=0 then 0 else(Xq (Y2 (Zv h) p.part p.Z).1).1
theorem Dg h p:ZB<|YJ h p:=by
 unfold YJ;split;exact⟨Z0,Z0⟩;exact Z8y
def LM{b:Bt}(f:(Zv b.h).au){p:Pl}:VC xP 31 xw [Xj b,Wd p]<|vu<|YJ b.h p:=by
 refine ZR Z1x follows Z2 c31 rfl ?_;by_cases d:p.part=0;simp[Cv,Xx,YJ,d];have g:=Z2p (Zv b.h) f p.part p.Z;simp[Cv,Xx,d];refine Zz (Z98 (h:=b.h)) (by simp[ZE]) ?_;simp;refine Zz (Z96 f (part:=p.part) (at_:=p.Z)) Z1 ?_;simp;refine Zz (Z9a (a:=(Y2 (Zv b.h) p.part p.Z).1) ⟨g.1,Z0⟩) Z1 ?_;simp[YJ,d]
def Vt(b:Bt)(p:Pl)(to tw:Int):Int:=
 if to<0 then 0 else if 2<p.part then YJ b.h<|(b.ah[to.toNat]?).getD ⟨0,0⟩
 else if p.part=1/\b.h.aa<=p.Z/\(((b.aw[to.toNat]?).getD ⟨0,0⟩).part=0\/0< ((b.ah[to.toNat]?).getD ⟨0,0⟩).part/\tw%2=0)then YJ b.h ((b.ah[to.toNat]?).getD ⟨0,0⟩)
 else YJ b.h<|(b.aw[to.toNat]?).getD ⟨0,0⟩
theorem Zaz b p to tw:ZB<|Vt b p to tw:=by
 unfold Vt;split;exact⟨Z0,Z0⟩;grind [Dg]
def PV(t:Int):t.tmod 2=0↔t%2=0:=by
 grind
def ZaA{b:Bt}(l:(Zv b.h).au){p:Pl}{to tw:Int}(r:to<I b.aw)(h2:to<I b.ah):VC xP 46 xw [Xj b,Wd p,vi to,vi tw]<|vu<|Vt b p to tw:=by
 refine ZR Z1G follows Z2 c46 rfl ?_;by_cases o:to<0;simp[Su,Xx,Vt,o];obtain⟨t,rfl⟩:=Zhy (Z0:0<=to);have g1:b.aw[t]?=J (b.aw[t]'Z0):=Zhi Z0;have g2:b.ah[t]?=J (b.ah[t]'Z0):=Zhi Z0;generalize b.aw[t]'Z0=x at*;generalize b.ah[t]'Z0=y at*;unfold Vt;simp only[ZhA,g1,g2,ZhP,Zhs o];by_cases a:2<p.part;simp[Su,Xx,a,g2];refine Zz (LM l (p:=y)) (by simp[Xj]) ?_;simp;have k1:=LM l (p:=x);have q:=LM l (p:=y);by_cases f:p.part=1;by_cases g:b.h.aa<=p.Z;by_cases j:x.part=0;simp[Su,Xx,a,f,g,j,g1,g2];refine Zz q (by simp[Xj]) ?_;simp;by_cases n:0<y.part;by_cases k:tw%2=0;have d:=(PV tw).2 k;simp[Su,Xx,a,f,g,j,n,k,d,g1,g2];refine Zz q (by simp[Xj]) ?_;simp;have d:=mt (PV tw).1 k;simp[Su,Xx,a,f,g,j,n,k,d,g1,g2];refine Zz k1 (by simp[Xj]) ?_;simp;simp[Su,Xx,a,f,g,j,n,g1,g2];refine Zz k1 (by simp[Xj]) ?_;simp;simp[Su,Xx,a,f,g,g1,g2];refine Zz k1 (by simp[Xj]) ?_;simp;simp[Su,Xx,a,f,g1,g2];refine Zz k1 (by simp[Xj]) ?_;simp
@[simp]theorem Z8I x y:V.put (vu x) 0 [vu y]=vu y:=rfl
def Dx{l pre:List Int}{m}(h:I pre=m)(a:m<I l)z:(pre++l.drop m).set m z=pre++[z]++l.drop (m+1):=by
 subst h;rw[Zlp _ _<|Zhm _,Zjg,Zih a,Zi7];rfl
def XP(b:Bt)(p:Pl)(a:Nat)(d:List Int)(tw:Int):List Int:=(List.range<|I d).map λi=>Vt b ⟨p.part,((a+1+i:Nat):Int)⟩ ((d[i]?).getD 0)<|IntKind.i64.wrap<|tw+i
def Sk(b:Bt)(p:Pl)(a:Nat)(n:Nd)(tw:Int):List Int:=
 let l:=Zw b.h p.part
 l.take a++[(Xu ((I n.M:Int)+I n.data)<|I n.M).1]++XP b p a n.M tw++n.data++l.drop (a+ZL n)
def Wm(b:Bt)(p:Pl)(n:Nd)(tw:Int):Bt:= {b with h:=Xn b.h p.part (Sk b p p.Z.toNat n tw)}
def ID{b:Bt}(hb:(Zv b.h).au){p:Pl}{n:Nd}{tw:Int}{a:Nat}(ha:p.Z=a)(a4:I (Zw b.h p.part)<=1000000)(d:a+ZL n<=I (Zw b.h p.part))
  (h1:∀q∈n.M,q<I b.aw/\q<I b.ah):VC xP 29 xw [Xj b,Wd p,Yk n,vi tw]<|Xj<|Wm b p n tw:=by
 refine ZR Z1v follows Z2 c29 rfl ?_;have O:I (Zw b.h p.part)<=Y4:=ZgO;have w1:=Zy ((I n.M:Int)+I n.data) ZgQ ZgQ;unfold Wm;rw[show p.Z.toNat=a by omega];simp[Ni,Xx];refine Zz (EO (h:=b.h) (n:=p.part)) (by simp[ZE]) ?_;simp[O,w1];refine Zz (Z99 (s:=(I n.M:Int)+I n.data) (p:=I n.M)) Z1 ?_;have Q:a< I (Zw b.h p.part):=ZgQ;simp[ha,Q];generalize Y:Zw b.h p.part=l at*;generalize X:(Xu ((I n.M:Int)+I n.data)<|I n.M).1=A at*;have D:(l.map vu).set a (vu A)=((l.take a++[A])++l.drop (a+1)).map vu:=by
  rw[<-Zk6];congr 1;have:=Dx (l:=l) (pre:=l.take a) (m:=a) Zgn Q A;rw[Zjv]at this;exact this
 simp only[Z8I,D];have H:=Zy ((a:Int)+1) Z0 Z0;have a5:I n.M<=I l:=ZgQ;have R:I (XP b p a n.M tw)=I n.M:=by simp[XP]
 refine VO 11 (I n.M) (λk=>[(8,.v<|.sl<|((l.take a++[A]++(XP b p a n.M tw).take k)++l.drop (a+1+k)).map vu),(11,.v<|vi k)]) (λ_=>True) Z1 (λi=>Z1) trivial ?_;rintro k hk-;have L:=Zy ((k:Int)+1) Z0 Z0;have a0:=Zy ((a:Int)+1+k) Z0 Z0;by_cases o:k<I n.M;have M:n.M[k]?=J n.M[k]:=Zhi o;obtain⟨q1,q2⟩:=h1 _<|ZhE o;have t:=ZaA hb (p:=⟨p.part,((a+1+k:Nat):Int)⟩) (to:=n.M[k]) (tw:=IntKind.i64.wrap<|tw+k) q1 q2;have Z:(XP b p a n.M tw)[k]?=J (Vt b ⟨p.part,((a+1+k:Nat):Int)⟩ n.M[k]<|IntKind.i64.wrap<|tw+k):=by
  simp[XP,o]
 generalize n.M[k]=q at*;generalize Vt b ⟨p.part,((a+1+k:Nat):Int)⟩ q (IntKind.i64.wrap<|tw+k)=z at*;have G:(XP b p a n.M tw).take (k+1)=(XP b p a n.M tw).take k++[z]:=by rw[Zik,Z];rfl
 have r:I (l.take a++[A]++(XP b p a n.M tw).take k)=a+1+k:=by simp[R];omega
 have P:a+1+k<I l:=ZgQ;have F:=Dx (l:=l) r P z;generalize C:l.take a++[A]++(XP b p a n.M tw).take k=pre at*;have g:∃x,((pre++l.drop (a+1+k)).map vu)[a+1+k]?=J (vu x):=by
  refine⟨l[a+1+k],?_⟩;rw[ZhG,ZhJ Z0,r,Zjg,Zih P];rfl
 have f:((pre++l.drop (a+1+k)).map vu).set (a+1+k) (vu z)=(pre++[z]++l.drop (a+1+(k+1))).map vu:=by
  rw[<-Zk6,F];rfl
 obtain⟨m,B⟩:∃m:Nat,a+1+k=m:=⟨_,rfl⟩;have u:(a:Int)+1+k=m:=Z0;have w:=Zy (m:Int) Z0 Z0;rw[show a+1+(k+1)=a+1+k+1 by omega]at f⊢;rw[B]at g f t⊢;generalize W:(pre++l.drop m).map vu=LL at g f⊢;rw[G];obtain⟨y,hy⟩:=g;simp[o,M,Yn M,H,a0,u,w];refine Zz t (by simp[Xj]) ?_;simp[hy,f,L,o,H,u,w];rw[<-C];simp;have:k=I n.M:=Z0;subst this;rw[show(XP b p a n.M tw).take (I n.M)=XP b p a n.M tw from Ziy Z0];have a1:=Zy ((a:Int)+1+I n.M) Z0 Z0;have a2:∀j:Nat,j<=1000+I n.data->IntKind.i64.wrap ((a:Int)+1+I n.M+j)=(a:Int)+1+I n.M+j:=λj hj=>Zy _ Z0 ZgQ;generalize S:l.take a++[A]++XP b p a n.M tw=sp at*;have T:I sp=a+1+I n.M:=by rw[<-S];simp[R];omega
 simp;refine VO 13 (I n.data) (λk=>[(8,.v<|.sl<|((sp++n.data.take k)++l.drop (a+1+I n.M+k)).map vu),(13,.v<|vi k)]) (λ_=>True) Z1 (λi=>Z1) trivial ?_;rintro k hk-;have L:=Zy ((k:Int)+1) Z0 ZgQ;by_cases o:k<I n.data;have M:n.data[k]?=J n.data[k]:=Zhi o;generalize n.data[k]=z at*;have G:n.data.take (k+1)=n.data.take k++[z]:=by rw[Zik,M];rfl
 have r:I (sp++n.data.take k)=a+1+I n.M+k:=by simp[T];omega
 have P:a+1+I n.M+k<I l:=ZgQ;have F:=Dx (l:=l) r P z;generalize C:sp++n.data.take k=pre at*;have g:∃x,((pre++l.drop (a+1+I n.M+k)).map vu)[a+1+I n.M+k]?=J (vu x):=by
  refine⟨l[a+1+I n.M+k],?_⟩;rw[ZhG,ZhJ Z0,r,Zjg,Zih P];rfl
 have f:((pre++l.drop (a+1+I n.M+k)).map vu).set (a+1+I n.M+k) (vu z)=(pre++[z]++l.drop (a+1+I n.M+k+1)).map vu:=by
  rw[<-Zk6,F]
 rw[show a+1+I n.M+(k+1)=a+1+I n.M+k+1 by omega];have a3:=a2 k Z0;obtain⟨m,B⟩:∃m:Nat,a+1+I n.M+k=m:=⟨_,rfl⟩;have u:(a:Int)+1+I n.M+k=m:=Z0;have w:=Zy (m:Int) Z0 Z0;rw[B]at g f⊢;generalize W:(pre++l.drop m).map vu=LL at g f⊢;rw[G];obtain⟨y,hy⟩:=g;simp[o,M,Yn M,H,a1,a3,u,w,hy,f,L];rw[<-C];simp;have:k=I n.data:=Z0;subst this;rw[show n.data.take (I n.data)=n.data from Zj9];have K:=Fw (h:=b.h) (n:=p.part) (l:=sp++n.data++l.drop (a+1+I n.M+I n.data));have N:Sk b p a n tw=sp++n.data++l.drop (a+1+I n.M+I n.data):=by
  unfold Sk;rw[Y,X];dsimp only;rw[S,show a+ZL n=a+1+I n.M+(I n.data) by unfold ZL;omega]
 rw[N];generalize sp++n.data++l.drop (a+1+I n.M+I n.data)=fin at*;simp;refine Zz K (by simp[ZE]) ?_;simp[Xj]
end Vm
namespace Vm
open Go Go.Proofs
def QS(h:Hp):Prop:=(∀k,∀w∈Zw h k,ZB w)/\∀w∈h.E,ZB w
structure BOk (b:Bt):Prop where
 bd:(Zv b.h).au
 hl:I b.aw=I b.g.nodes
 ol:I b.ah=I b.g.nodes
 nn:I b.g.nodes<=10
 ptr:∀n∈b.g.nodes,∀q∈n.M,q< (I b.g.nodes:Int)
 uf:∀n∈b.g.nodes,∀q∈n.data,ZB q
 uv:∀q∈b.g.E,q< (I b.g.nodes:Int)
 rl:I b.g.E<=5
 aw:∀(i:Nat) (p:Pl) (n:Nd),b.aw[i]?=J p->b.g.nodes[i]?=J n->p=⟨0,0⟩\/∃a:Nat,p.Z=a/\(p.part=1\/p.part=2)/\a+ZL n<=I (Zw b.h p.part)
 ah:∀(i:Nat) (p:Pl) (n:Nd),b.ah[i]?=J p->b.g.nodes[i]?=J n->p=⟨0,0⟩\/∃a:Nat,p.Z=a/\(p.part=3\/p.part=4)/\a+ZL n<=I (Zw b.h p.part)
 len:∀k,I (Zw b.h k)<=1000
 words:QS b.h
theorem qR{h h'}(a:Zv h'=Zv h)k:I (Zw h' k)=I (Zw h k):=by
 grind [Zv,Zw]
def BOk.keep{b}(hb:BOk b){h'}(hl:Zv h'=Zv b.h)(hw:QS h'):BOk {b with h:=h'} where
 bd:=by show(Zv h').au;rw[hl];exact hb.bd
 hl:=hb.hl
 ol:=hb.ol
 nn:=hb.nn
 ptr:=hb.ptr
 uf:=hb.uf
 uv:=hb.uv
 rl:=hb.rl
 aw:=λi p n hp hn=>by
  obtain h|⟨a,h1,h2,h3⟩:=hb.aw i p n hp hn;grind;grind [qR]
 ah:=λi p n hp hn=>by
  obtain h|⟨a,h1,h2,h3⟩:=hb.ah i p n hp hn;grind;grind [qR]
 len:=λk=>by show I (Zw h' k)<=1000;rw[qR hl];exact hb.len k
 words:=hw
def Ef{h p l}(d:I l=I (Zw h p)):Zv (Xn h p l)=Zv h:=by
 unfold Xn Zw at*;split;simp_all[Zv];split;simp_all[Zv];rename_i a;split;simp_all[Zv];simp_all[Zv]
def Zby{h p l}(a:QS h)(k:∀w∈l,ZB w):QS<|Xn h p l:=by
 have d:=a.1 1;have f:=a.1 2;have g:=a.1 3;have j:=a.1 4;grind [QS,Zw,Xn]
def Z5X{b p a n tw}(d:a+ZL n<=I (Zw b.h p.part)):I (Sk b p a n tw)=I (Zw b.h p.part):=by
 grind [Sk,ZL,XP]
def Z5Y{b p a n tw}(f:QS b.h)(g:∀q∈n.data,ZB q):∀w∈Sk b p a n tw,ZB w:=by
 intro w d;unfold Sk at d;simp only[ZhO,Zim]at d;obtain(((d|d)|d)|d)|d:=d;exact f.1 _ w<|Zio d;subst d;have:=NT ((I n.M:Int)+I n.data)<|I n.M;exact⟨this.1,Z0⟩;simp[XP]at d;grind [Zaz];grind;exact f.1 _ w<|ZjC d
def Ux(x:Rw)(b:Bt)(i:Nat)(n:Nd)(p:Pl):Bt:=if 0<p.part then Wm b p n (IntKind.i64.wrap<|x.bc+i)else b
def Uz(b:Bt)(n:Nd)(p o:Pl):Bt:=if 0<o.part/\p.part=0 then Wm b o n 0 else b
def Uf(b:Bt)(p o:Pl):Bt:=if 0<o.part/\0<p.part then {b with h:=Xn b.h o.part ((Zw b.h o.part).set o.Z.toNat<|YJ b.h p)}else b
def Jc(x:Rw)(b:Bt)(i:Nat):Bt:=
 let n:=(b.g.nodes[i]?).getD default;let p:=(b.aw[i]?).getD ⟨0,0⟩;let o:=(b.ah[i]?).getD ⟨0,0⟩
 Uf (Uz (Ux x b i n p) n p o) p o
structure Like (b b':Bt):Prop where
 g:b'.g=b.g
 aw:b'.aw=b.aw
 ah:b'.ah=b.ah
 bd:Zv b'.h=Zv b.h
 words:QS b'.h
 aa:b'.h.aa=b.h.aa
 Y:b'.h.Y=b.h.Y
def Like.ok{b a}(o:Like b a)(n:BOk b):BOk a:=by
 let⟨q,p,d,f⟩:=a;obtain⟨g,h,j,k,l,_⟩:=o;subst g h j;exact n.keep k l
theorem Like.trans{a b c}(h:Like a b)(k:Like b c):Like a c:=⟨k.g.trans h.g,k.aw.trans h.aw,k.ah.trans h.ah,k.bd.trans h.bd,k.words,k.aa.trans h.aa,k.Y.trans h.Y⟩
def Z0k h p l:(Xn h p l).aa=h.aa/\(Xn h p l).Y=h.Y:=by
 unfold Xn;grind
def IN{b}(a:BOk b){p l}(d:I l=I (Zw b.h p))(f:∀w∈l,ZB w):Like b {b with h:=Xn b.h p l}:=
 ⟨rfl,rfl,rfl,Ef d,Zby a.words f,(Z0k _ _ _).1,(Z0k _ _ _).2⟩
def yX{b}(a:BOk b):Like b b:=⟨rfl,rfl,rfl,rfl,a.words,rfl,rfl⟩
def IM{b}(d:BOk b){p:Pl}{n tw}{a:Nat}(f:p.Z=a)(g:a+ZL n<=I (Zw b.h p.part))(j:∀q∈n.data,ZB q):Like b<|Wm b p n tw:=by
 unfold Wm;rw[f];exact IN d (Z5X g)<|Z5Y d.words j
def BH{x b}(d:BOk b){i n p}(k:b.g.nodes[i]?=J n)(l:b.aw[i]?=J p):Like b<|Ux x b i n p:=by
 unfold Ux;split;rename_i f;obtain rfl|⟨a,h,o,j⟩:=d.aw i p n l k;simp at f;exact IM d h j<|d.uf n Zgl;exact yX d
def BI{b}(d:BOk b){i:Nat}{n p o}(k:b.g.nodes[i]?=J n)(l:b.ah[i]?=J o):Like b<|Uz b n p o:=by
 unfold Uz;split;rename_i f;obtain rfl|⟨a,h,q,j⟩:=d.ah i o n l k;simp at f;exact IM d h j<|d.uf n Zgl;exact yX d
def Z62{b}(a:BOk b){p o}:Like b<|Uf b p o:=by
 unfold Uf;split;refine IN a Z1 λw d=> ?_;obtain h|rfl:=ZiS d;exact a.words.1 _ w h;exact Dg _ _;exact yX a
def Z63{x b}(a:BOk b){i}(f:i<I b.g.nodes):Like b<|Jc x b i:=by
 have h:b.g.nodes[i]?=J b.g.nodes[i]:=Z1;have l:b.aw[i]?=J (b.aw[i]'(by rw[a.hl];exact f)):=Z1;have k:b.ah[i]?=J (b.ah[i]'(by rw[a.ol];exact f)):=Z1;unfold Jc;simp[h,l,k];have d:=BH (x:=x) a h l;have j:=BI (p:=b.aw[i]'(by rw[a.hl];exact f)) (d.ok a) (by rw[d.g];exact h) (by rw[d.ah];exact k);exact(d.trans j).trans (Z62<|j.ok<|d.ok a)
def Uy(x:Rw)(b:Bt):Nat->Bt
 |0=>b
 |i+1=>Jc x (Uy x b i) i
def L6{x b}(a:BOk b):∀i,i<=I b.g.nodes->Like b (Uy x b i)
 |0,_=>yX a
 |i+1,d=>by
  have h:=L6 (x:=x) a i Z0;exact h.trans<|Z63 (h.ok a) (by rw[h.g];omega)
def Yx(x:Rw)(b:Bt):Hp:=
 let a:=Uy x b<|I b.g.nodes
 {a.h with E:=b.g.E.map λr=>if 0<=r then YJ a.h ((b.aw[r.toNat]?).getD ⟨0,0⟩)else 0}
def GP{x:Rw}(hx:x.ok){b:Bt}(H:BOk b):VC xP 12 xw [Xj b,Wt x]<|ZE<|Yx x b:=by
 refine ZR Z1o follows Z2 Q2 rfl ?_;simp[N0,Xx];refine VO 5 (I b.g.nodes) (λi=>[(2,.m<|Xx<|Uy x b i),(5,.v<|vi i)]) (λ_=>True) (by simp[Uy,Xx]) (λi=>Z1) trivial ?_;rintro i hi-;have F:=L6 (x:=x) H i hi;have L:=Zy ((i:Int)+1) (by have:=H.nn;omega) (by have:=H.nn;omega);by_cases h:i<I b.g.nodes;have f:=F.ok H;simp only[Uy];have z:i< (Uy x b i).g.nodes.length:=by rw[F.g];exact h
 generalize a4:Uy x b i=c at*;have t:c.g.nodes[i]?=J c.g.nodes[i]:=Zhi z;have y:c.aw[i]?=J (c.aw[i]'(by rw[f.hl];exact z)):=Zhi _;have w:c.ah[i]?=J (c.ah[i]'(by rw[f.ol];exact z)):=Zhi _;unfold Jc;simp only[t,y,w,ZhP];generalize c.g.nodes[i]=n at*;generalize c.aw[i]'(by rw[f.hl];exact z)=p at*;generalize c.ah[i]'(by rw[f.ol];exact z)=o at*;have W:∀q∈n.M,q< (I c.aw:Int)/\q< (I c.ah:Int):=λq X=>by
  have:=f.ptr n (Zhq t) q X;rw[f.hl,f.ol];exact⟨this,this⟩
 have kA:=BH (x:=x) f t y;have bA:=kA.ok f;have kO:=BI (p:=p) bA (by rw[kA.g];exact t) (by rw[kA.ah];exact w);have bO:=kO.ok bA;have K:I c.g.nodes=I b.g.nodes:=by rw[F.g]
 have a6:c.g=b.g:=F.g;have S:0<p.part->VC xP 29 xw [Xj c,Wd p,Yk n,vi<|IntKind.i64.wrap<|x.bc+i] (Xj<|Wm c p n<|IntKind.i64.wrap<|x.bc+i):=λP=>by
  obtain rfl|⟨a,M,h2,N⟩:=f.aw i p n y t;simp at P;exact ID f.bd M (by have:=f.len p.part;omega) N W
 have O:0<o.part->VC xP 29 xw [Xj c,Wd o,Yk n,vi 0] (Xj<|Wm c o n 0):=λP=>by
  obtain rfl|⟨a,M,h2,N⟩:=f.ah i o n w t;simp at P;exact ID f.bd M (by have:=f.len o.part;omega) N W
 have a2:p.part=0\/0<p.part:=by
  obtain rfl|⟨a,M,h2,N⟩:=f.aw i p n y t;exact .inl rfl;exact .inr Z0
 have T:o.part=0\/0<o.part:=by
  obtain rfl|⟨a,M,h2,N⟩:=f.ah i o n w t;exact .inl rfl;exact .inr Z0
 obtain u|u:=a2;obtain j|j:=T;simp[Xx,h,z,K,t,y,w,Yn t,Yn y,Yn w,Ux,Uz,Uf,u,j,L];have a7:¬0<p.part:=Z0;have A:Like c<|Wm c o n 0:=by
  have:=BI (p:=p) f t w;unfold Uz at this;rwa[Zht ⟨j,u⟩]at this
 have a1:=O j;simp[Xx,h,z,K,t,y,w,Yn t,Yn y,Yn w,Ux,Uz,Uf,u,j,L];generalize Wm c o n 0=d at*;obtain⟨d1,d2,d3,d4,d5,_,_⟩:=A;refine Zz a1 (by simp[Xj]) ?_;simp[Xx,d1,d2,d3,t,y,w,Yn t,Yn y,Yn w,u,j,L,h];have C:¬p.part=0:=Z0;have A:Like c<|Wm c p n<|IntKind.i64.wrap<|x.bc+i:=by
  have:=BH (x:=x) f t y;unfold Ux at this;rwa[Zht u]at this
 have R:=S u;have Z:=A.ok f;obtain j|j:=T;simp[Xx,h,z,K,t,y,w,Yn t,Yn y,Yn w,Ux,Uz,Uf,u,j,C,L];generalize Wm c p n (IntKind.i64.wrap<|x.bc+i)=d at*;obtain⟨d1,d2,d3,d4,d5,_,_⟩:=A;refine Zz R (by simp[Xj]) ?_;simp[Xx,d1,d2,d3,t,y,w,Yn t,Yn y,Yn w,u,j,C,L,h];simp[Xx,h,z,K,t,y,w,Yn t,Yn y,Yn w,Ux,Uz,Uf,u,j,C,L];generalize Wm c p n (IntKind.i64.wrap<|x.bc+i)=d at*;obtain⟨d1,d2,d3,d4,d5,_,_⟩:=A;refine Zz R (by simp[Xj]) ?_;simp[Xx,d1,d2,d3,t,y,w,Yn t,Yn y,Yn w,u,j,C,L,h];obtain rfl|⟨a,M,h2,N⟩:=f.ah i o n w t;simp at j;have a5:=Z.len o.part;have B:I (Zw d.h o.part)<=Y4:=ZgO;have a0:a< I (Zw d.h o.part):=by
  have:=qR d4 o.part;unfold ZL at N;omega
 refine Zz (EO (h:=d.h) (n:=o.part)) (by simp[ZE]) ?_;simp[B,y];refine Zz (LM (b:=⟨d.h,c.g,c.aw,c.ah⟩) Z.bd (p:=p)) Z1 ?_;simp[M,a0,w,Yn w];have G:=Fw (h:=d.h) (n:=o.part) (l:=(Zw d.h o.part).set a<|YJ d.h p);rw[Zk6]at G;refine Zz G (by simp[ZE]) ?_;simp[L,h,d1,d2,d3];have:i=I b.g.nodes:=Z0;subst this;have Z:=F.ok H;unfold Yx;generalize Uy x b (I b.g.nodes)=d at*;obtain⟨d1,d2,d3,d4,d5,_,_⟩:=F;simp[Xx,d1,d2,d3];refine VO 13 (I b.g.E) (λk=>[(12,.v<|.sl ((b.g.E.take k).map λr=>vu (if 0<=r then YJ d.h ((b.aw[r.toNat]?).getD ⟨0,0⟩)else 0))),(13,.v<|vi k)]) (λ_=>True) Z1 (λi=>Z1) trivial ?_;rintro k hk-;have a8:=H.rl;have Y:=Zy ((k:Int)+1) Z0 Z0;by_cases D:k<I b.g.E;have Q:b.g.E[k]?=J b.g.E[k]:=Zhi D;have a9:=H.uv _<|ZhE D;generalize b.g.E[k]=r at*;have a3:b.g.E.take (k+1)=b.g.E.take k++[r]:=by rw[Zik,Q];rfl
 have B:min k (I b.g.E)+1<=Y4:=ZgO;by_cases P:0<=r;obtain⟨q,rfl⟩:=Zhy P;have X:b.aw[q]?=J (b.aw[q]'(by rw[H.hl];omega)):=Zhi _;generalize b.aw[q]'(by rw[H.hl];omega)=p at*;simp[D,Q,Yn Q,X,Yn X];refine Zz (LM (b:=⟨d.h,b.g,b.aw,b.ah⟩) Z.bd (p:=p)) Z1 ?_;simp[Y,B,D];rw[Zik,ZhG,Q];simp[X];simp[D,Q,Yn Q,P,Y,B,a3,D];have:k=I b.g.E:=Z0;subst this;simp[ZE]
end Vm
namespace Vm
open Go Go.Proofs
def PIn(s:St8)(p:Pl)(sz:Nat):Prop:=p=⟨0,0⟩\/∃a:Nat,p.Z=a/\((p.part=1/\a+sz<=s.n1)\/(p.part=2/\a+sz<=s.n2))
def POl(s:St8)(p:Pl)(sz:Nat):Prop:=p=⟨0,0⟩\/∃a:Nat,p.Z=a/\((p.part=3/\a+sz<=s.n3)\/(p.part=4/\a+sz<=s.n4))
def ZaO{x cycle sz i s}:s.n1<=(X8 x cycle sz i s).n1/\s.n2<=(X8 x cycle sz i s).n2/\s.n3<=(X8 x cycle sz i s).n3/\s.n4<=(X8 x cycle sz i s).n4:=by
 grind [X8]
def PIn.mono{s t p sz}(h:PIn s p sz)(g:s.n1<=t.n1)(h2:s.n2<=t.n2):PIn t p sz:=by
 obtain h|⟨a,d,⟨f,h⟩|⟨f,h⟩⟩:=h;exact .inl h;exact .inr ⟨a,d,Z0⟩;exact .inr ⟨a,d,Z0⟩
def POl.mono{s t p sz}(h:POl s p sz)(g:s.n3<=t.n3)(h2:s.n4<=t.n4):POl t p sz:=by
 obtain h|⟨a,d,⟨f,h⟩|⟨f,h⟩⟩:=h;exact .inl h;exact .inr ⟨a,d,Z0⟩;exact .inr ⟨a,d,Z0⟩
def PG{x cycle g}(h:∀n∈g.nodes,ZL n<=9):∀i,i<=I g.nodes->∀(j:Nat) n,g.nodes[j]?=J n->
  (∀p,(Y5 x cycle g i).aw[j]?=J p->PIn (Y5 x cycle g i) p (ZL n))/\(∀p,(Y5 x cycle g i).ah[j]?=J p->POl (Y5 x cycle g i) p (ZL n))
 |0,_,j,n,l=>⟨λp a=>by simp[Y5]at a,λp a=>by simp[Y5]at a⟩
 |i+1,C,j,n,l=>by
  let⟨o,q⟩:=PG (x:=x) (cycle:=cycle) h i Z0 j n l;let⟨_,_,u,w⟩:=zg (x:=x) (cycle:=cycle) h i Z0;have f:g.nodes[i]?=J g.nodes[i]:=Z1;simp[Y5,f,ZhP];generalize Y5 x cycle g i=s at*;let⟨y,z,A,B⟩:=ZaO (x:=x) (cycle:=cycle) (sz:=ZL g.nodes[i]) (i:=i) (s:=s);have t:j<I g.nodes:=Zgl;constructor;intro p a;by_cases r:j<i;have:s.aw[j]?=J p:=by
   simp[X8]at a;rwa[ZhQ Z0]at a
  exact(o p this).mono y z;by_cases d:j=i;subst d;simp[X8]at a;rw[ZhJ Z0,u,Zjg]at a;simp[Zhh]at a;unfold PIn;obtain k|k|⟨k,rfl⟩:=R5 x j cycle;grind [X8];grind [X8];simp_all;grind [X8,List.getElem?_eq_some_iff];intro p a;by_cases r:j<i;have:s.ah[j]?=J p:=by
   simp[X8]at a;rwa[ZhQ Z0]at a
  exact(q p this).mono A B;by_cases d:j=i;subst d;simp[X8]at a;rw[ZhJ Z0,w,Zjg]at a;grind [List.getElem?_cons_zero,Option.some.injEq,POl,decide,V9,WB,X8];grind [X8,List.getElem?_eq_some_iff]
def M8 l a:∀n∈(ZW l a).nodes,∀q∈n.M,-1<=q/\q< ((ZW l a).nodes.length:Int):=by
 intro n d q f;rw[qg];simp only[ZW,ZhC]at d;obtain⟨y,_,rfl⟩:=d;simp only[Th,ZhC]at f;obtain⟨p,_,rfl⟩:=f;exact P0
def Z6C l a:∀q∈(ZW l a).E,-1<=q/\q< ((ZW l a).nodes.length:Int):=by
 intro q d;rw[qg];simp only[ZW]at d;split at d;grind;simp only[ZhC]at d;obtain⟨p,_,rfl⟩:=d;exact P0
def Z6A l a(f:∀n∈l,∀q∈n.data,ZB q):∀n∈(ZW l a).nodes,∀q∈n.data,ZB q:=by
 intro n d q g;simp only[ZW]at d;grind [Th,List.mem_of_mem_take]
def zh{x}(hx:x.ok)cycle:BOk (Yz x cycle)/\Ym (Yz x cycle).h.aa/\ZJ (Zv (Yz x cycle).h)=xk:=by
 let⟨w,u,y⟩:=BZ x.nodes x.E;have z:=qg x.nodes x.E;have L:=M8 x.nodes x.E;have M:=Z6C x.nodes x.E;have A:=Z6A x.nodes x.E hx.data;unfold Yz;generalize ZW x.nodes x.E=g at*;have t:∀n∈g.nodes,ZL n<=9:=λn K=>by grind [ZL]
 let⟨N,O,D,F⟩:=zg (x:=x) (cycle:=cycle) t (I g.nodes) Z0;have r:=PG (x:=x) (cycle:=cycle) t (I g.nodes) Z0;dsimp only;generalize Y5 x cycle g (I g.nodes)=s at*;have B:=UK (c:=x.bc) (n:=12) Z0;have C:=UK (c:=x.to) (n:=2) Z0;obtain⟨cap,q⟩:∃cap,max ((s.n1:Int)+s.n2+s.wt) ((s.n3:Int)+s.n4)+pick x.bc 12=cap:=⟨_,rfl⟩;rw[q];have G:=Zlk x.base (Z0:(9223372036854775808-2*cap)≠0);have H:=ZkV x.base (Z0:0< (9223372036854775808-2*cap));generalize x.base% (9223372036854775808-2*cap)=base at*;have l:Ym (if cycle=xk/\0<s.n1 then pick x.aa s.n1 else s.n1):=by
  split;rename_i h;have:=UK (c:=x.aa) (n:=s.n1) Z0;exact⟨Z0,Z0⟩;exact⟨Z0,Z0⟩
 refine⟨⟨?_,?_,?_,?_,?_,?_,?_,?_,?_,?_,?_,?_⟩,l,?_⟩;refine⟨⟨?_,?_⟩,⟨?_,?_⟩,⟨?_,?_⟩,⟨?_,?_⟩,⟨?_,?_⟩,⟨?_,?_⟩,⟨?_,?_⟩⟩<;>simp[Zv]<;>omega;exact D;exact F;simp_all;grind;exact A;simp_all;exact u;intro i p n j f;rcases(r i n f).1 p j with h|⟨a,o,⟨d,h⟩|⟨d,h⟩⟩;grind;exact .inr ⟨a,o,.inl d,Zgm⟩;exact .inr ⟨a,o,.inr d,Zgm⟩;intro i p n j f;rcases(r i n f).2 p j with h|⟨a,o,⟨d,h⟩|⟨d,h⟩⟩;grind;exact .inr ⟨a,o,.inl d,Zgm⟩;exact .inr ⟨a,o,.inr d,Zgm⟩;grind [Zw];refine⟨λk=> ?_,Z1⟩;grind [List.replicate,ZB,Zw];refine XO.2 ?_;simp[Zv,Zlo];omega
def DS(x:Rw):Hp:=Yx x<|Yz x xw
def Te(x:Rw):Hp:=if(Yz x xk).h.H.length=0 then DS x else Yx x<|Yz x xk
def Z2l{x:Rw}(hx:x.ok):VC xP 11 xw [Wt x]<|ZE<|DS x:=by
 refine ZR Z1n follows Z2 Ak rfl ?_;simp[qJ];refine Zz (PI hx (cycle:=xw)) (by simp[Wt]) ?_;simp;refine Zz (GP hx (zh hx xw).1) Z1 ?_;simp;rfl
def Z13{x:Rw}(hx:x.ok):VC xP 5 xw [Wt x]<|ZE<|Te x:=by
 refine ZR Z1K follows Z2 c5 rfl ?_;simp[p5];refine Zz (PI hx (cycle:=xk)) (by simp[Wt]) ?_;unfold Te;by_cases a:(Yz x xk).h.H.length=0;simp[Xx,a];refine Zz (Z2l hx) Z1 ?_;simp;rfl;simp[Xx,a];refine Zz (GP hx (zh hx xk).1) Z1 ?_;simp;rfl
def GM{x b}(k:BOk b)(q:Ym b.h.aa):(Yx x b).ok/\Zv (Yx x b)=Zv b.h/\(Yx x b).aa=b.h.aa/\(Yx x b).Y=b.h.Y:=by
 have f:=L6 (x:=x) k (I b.g.nodes) Z0;have n:=f.ok k;unfold Yx;let⟨j,A,B,C,D,F,G,H,K,o,a,d⟩:=n;have t:=a 1;have u:=a 2;have y:=a 3;have z:=a 4;have w1:=d.1 1;have w2:=d.1 2;have w3:=d.1 3;have w4:=d.1 4;simp[Vo,qQ,CF,Lw]at t u y z w1 w2 w3 w4;have p:=k.rl;refine⟨⟨j.1,j.2.1,j.2.2.1,by rw[f.aa];exact q,?_,?_,?_,?_,?_,w1,w2,w3,w4,?_⟩,f.bd,f.aa,f.Y⟩;grind;grind;grind;grind;simp;omega;intro w l;simp[ZhC]at l;obtain⟨r,_,rfl⟩:=l;split;exact Dg _ _;exact⟨Z0,Z0⟩
end Vm
end
section

end
section
namespace Vm
open Go Go.Proofs
structure Ob where
 Z:Int
 size:Int
 M:Int
 gone:Bool
 target:Int
 deriving DecidableEq,Inhabited
def ZM(o:Ob):V:=.agg [vi o.Z,vi o.size,vi o.M,.bool o.gone,vu o.target]
@[simp]theorem ZfP(o:Ob):VL (ZM o) 5=J (ZM o):=rfl
@[simp]theorem Zef(o:Ob):UC (ZM o) 0 5=J (ZM o):=rfl
@[simp]theorem ZeO(o:Ob):(ZM o).cells=[vi o.Z,vi o.size,vi o.M,.bool o.gone,vu o.target]:=rfl
@[simp]theorem ZdT(o:Ob):Y0 (ZM o) 0=J (vi o.Z):=rfl
@[simp]theorem ZdU(o:Ob):Y0 (ZM o) 1=J (vi o.size):=rfl
@[simp]theorem ZdV(o:Ob):Y0 (ZM o) 2=J (vi o.M):=rfl
@[simp]theorem ZdW(o:Ob):Y0 (ZM o) 3=J (.bool o.gone):=rfl
@[simp]theorem ZdX(o:Ob):Y0 (ZM o) 4=J (vu o.target):=rfl
@[simp]theorem Zeg(o:Ob):UC (ZM o) 1 2=J (WT o.size o.M):=rfl
abbrev Zi:=List Ob
@[simp]theorem ZfB(l:Zi):Xv 5 (l.map ZM)=xk:=JY λ_=>rfl
def We(s:Int×Int):V:=WT s.1 s.2
@[simp]theorem Zfw(s:Int×Int):(We s).cells=[vi s.1,vi s.2]:=rfl
@[simp]theorem ZfS(s:Int×Int):VL (We s) 2=J (We s):=rfl
@[simp]theorem Zei(s:Int×Int):UC (We s) 0 2=J (We s):=rfl
@[simp]theorem Ze7(s:Int×Int):Y0 (We s) 0=J (vi s.1):=rfl
@[simp]theorem Ze8(s:Int×Int):Y0 (We s) 1=J (vi s.2):=rfl
@[simp]theorem ZfD(l:List<|Int×Int):Xv 2 (l.map We)=xk:=JY λ_=>rfl
def VZ(w:Int):Bool:=decide (w=0)||decide ((adr w).2=0)
def XQ(l:Z8)(gone:Bool)(ptrs:Int)(i:Nat):Bool:=
 match l with
 | []=>xk
 |w::l=>(!gone||decide (w=0))&&(!decide ((i:Int)<ptrs)||VZ w)&&XQ l gone ptrs (i+1)
def ZaD{l:Z8}{gone:Bool}{ptrs:Int}{i:Nat}{w:Int}(h:l[i]?=J w):XQ (l.drop i) gone ptrs i=((!gone||decide (w=0))&&(!decide ((i:Int)<ptrs)||VZ w)&&XQ (l.drop<|i+1) gone ptrs (i+1)):=by
 obtain⟨a,d⟩:=Zhj.1 h;rw[Zih a,d];rfl
def Wo(shs:List<|Int×Int)(old:Bool)(at_ a:Nat)(w:Int):Option<|Ob×Nat:=
 if old=xk/\(adr w).2=0 then
  match shs[a]? with
  |none=>U
  |some s=>if YC s.1 s.2 then J (⟨at_,s.1,s.2,xk,(adr w).1⟩,a+1)else U
 else if(ZQ w).2.2=0 then J (⟨at_,(ZQ w).1,(ZQ w).2.1,xw,0⟩,a)else U
def E3{w:Int}(h:(ZQ w).2.2=0):YC (ZQ w).1 (ZQ w).2.1=xk:=by
 unfold ZQ at*;grind
def qw{shs:List (Int×Int)}{old:Bool}{at_ d:Nat}{w:Int}{o:Ob}{t:Nat}(h:Wo shs old at_ d w=J (o,t)):YC o.size o.M=xk/\o.Z=at_:=by
 unfold Wo at h;split at h;grind;split at h;rename_i a;cases h;exact⟨E3 a,rfl⟩;cases h
def Xr(ws:Z8)(shs:List<|Int×Int)(old:Bool):Nat->Nat->Nat->List Ob->List Ob×Int
 |0,_,_,_=>([],3)
 |f+1,at_,d,a=>
  match ws[at_]? with
  |none=>if d<(I shs) then([],3)else(a,0)
  |some w=>match Wo shs old at_ d w with
   |none=>([],3)
   |some (o,t)=>
    if(I ws:Int)<at_+1+o.size then([],2)
    else if XQ ((ws.drop<|at_+1).take o.size.toNat) o.gone o.M 0=xw then([],3)
    else Xr ws shs old f (at_+1+o.size.toNat) t<|a++[o]
def ZN(ws:Z8)(shs:List<|Int×Int)(old:Bool):List Ob×Int:=Xr ws shs old (I ws+1) 0 0 []
def Kl(n:Nat)(o:Ob):Prop:=(∃a:Nat,o.Z=a/\(a:Int)+1+o.size<=n)/\YC o.size o.M=xk
def Z7a{shs:List (Int×Int)}{old:Bool}{at_ d:Nat}{w:Int}{o:Ob}{t:Nat}(a:ZB w)(h:Wo shs old at_ d w=J (o,t)):ZB o.target:=by
 unfold Wo at h;split at h;split at h;cases h;split at h;cases h;obtain⟨f,g⟩:=a;show 0<=(adr w).1/\(adr w).1<18446744073709551616;grind [adr];cases h;split at h;cases h;show(0:Int)<=0/\(0:Int)<18446744073709551616;omega;cases h
def Z0b{ws:Z8}{shs:List (Int×Int)}{old:Bool}(k:∀w∈ws,ZB w):∀(f at_ l:Nat) (d:Zi),(∀o∈d,Kl (I ws) o/\ZB o.target)->∀o∈(Xr ws shs old f at_ l d).1,Kl (I ws) o/\ZB o.target
 |0,_,_,_,_=>by simp[Xr]
 |f+1,at_,l,d,a=>by
  simp only[Xr];split;split;simp;exact a;rename_i w q;split;simp;rename_i o t j;split;simp;rename_i u;split;simp;refine Z0b k f _ _ _ λr g=> ?_;obtain h|h:=ZhO.1 g;exact a r h;simp only[Zim]at h;subst h;obtain⟨n,p⟩:=qw j;exact⟨⟨⟨at_,p,Z0⟩,n⟩,Z7a (k w<|Zhq q) j⟩
def Z0f{ws:Z8}{shs:List (Int×Int)}{old:Bool}(a:∀w∈ws,ZB w):∀o∈(ZN ws shs old).1,Kl (I ws) o/\ZB o.target:=Z0b a _ _ _ _ Z1
def Z0c{ws:Z8}{shs:List (Int×Int)}{old:Bool}:∀(f at_ g:Nat) (a:Zi),at_<=I ws->I a<=at_->(Xr ws shs old f at_ g a).1.length<=I ws
 |0,_,_,_,_,_=>by simp[Xr]
 |f+1,at_,g,a,k,d=>by
  simp only[Xr];split;split;simp;simp only;omega;split;simp;rename_i o t h;split;simp;rename_i l;split;simp;have j:=Yy.1 (qw h).1;refine Z0c f _ _ _ Z0 Zgn
def Z0g{ws:Z8}{shs:List (Int×Int)}{old:Bool}:(ZN ws shs old).1.length<=I ws:=Z0c _ _ _ _ Z0 Z1
end Vm
end
section

end
section
namespace Vm
open Go Go.Proofs
def YZ(h:Hp)(part at_:Int):Int:=(Y2 (Zv h) part at_).1
def YG(h:Hp)(part:Int)(l:Zi)(a:Int):Option Ob:=l.find? λo=>YZ h part o.Z==a
theorem FW{h:Hp}{part a:Int}{l:Zi}{o:Ob}(d:YG h part l a=J o):o∈l:=Zk2 d
def Ve(h:Hp)(ws:Z8)(low:Zi):Nat->Nat->List (Int×Int)->Option (List<|Int×Int)
 |0,_,_=>U
 |f+1,i,a=>
  match ws[i]? with
  |none=>J a
  |some w=>if(adr w).2=0 then(match YG h 1 low (adr w).1 with|none=>U|some o=>Ve h ws low f (i+1+o.size.toNat)<|a++[(o.size,o.M)])
   else if(ZQ w).2.2=0 then Ve h ws low f (i+1+(ZQ w).1.toNat) a else U
def VK(h:Hp)(ws:Z8)(low:Zi):Option<|List<|Int×Int:=Ve h ws low (I ws+1) 0 []
structure Pts where
 H:List Ob
 ab:List Ob
 ah:List Ob
 al:List Ob
 deriving Inhabited
def Pts.at(p:Pts)(k:Int):List Ob:=if k=1 then p.H else if k=2 then p.ab else if k=3 then p.ah else p.al
@[simp]theorem Pts.ml(p:Pts):p.at 1=p.H:=rfl
@[simp]theorem Pts.uc(p:Pts):p.at 2=p.ab:=rfl
@[simp]theorem Pts.lg(p:Pts):p.at 3=p.ah:=rfl
@[simp]theorem Pts.lh(p:Pts):p.at 4=p.al:=rfl
def XE(h:Hp):Option Pts:=
 let low:=ZN h.H [] xw;let high:=ZN h.ab [] xw
 if low.2≠0\/high.2≠0 then U else
 let p:=VK h h.ah low.1;let q:=VK h h.al low.1;let d:=ZN h.ah (p.getD []) xk;let a:=ZN h.al (q.getD []) xk
 if p=U\/q=U\/d.2≠0\/a.2≠0 then U else J ⟨low.1,high.1,d.1,a.1⟩
def Xz(h:Hp)(p:Pts)(w one a:Int):Bool:=decide (w=0)||(decide ((adr w).2=0)&&((YG h one (p.at one) (adr w).1).isSome||(YG h a (p.at a) (adr w).1).isSome))
def Wh(o:Ob):Nat:=if o.gone then 0 else 1+o.size.toNat
def Y1(l:Zi):Nat:=(l.map Wh).sum
def Z0y{l:Zi}{i:Nat}{o:Ob}(h:l[i]?=J o):Y1 (l.take<|i+1)=Y1 (l.take i)+Wh o:=by
 simp_all[Y1,Zik,Ziv,ZkM]
def Ke{l:Zi}(h:∀o∈l,YC o.size o.M=xk):Y1 l<=256*I l:=by
 induction l with
 |nil=>simp[Y1]
 |cons o l a=>
  grind [Yy,Wh,Y1,List.length_cons]
def YF(p:Pts):Nat:=Y1 p.ah+Y1 p.al
def X9(l:Zi)(a:Int):Nat:=I (l.filter λo=>o.gone&&decide (o.target=a))
def US(p:Pts)(a:Int):Nat:=X9 p.ah a+X9 p.al a
def TT(h:Hp):Bool:=
 ZJ (Zv h)&&decide (I h.E<=16)&&decide (0<=h.aa)&&decide (h.aa<=I h.H)&&
  (if h.Y then decide (h.aa<I h.H)else decide (h.aa=I h.H)&&decide (I h.ah=0)&&decide (I h.al=0))
def Up(h:Hp)(p:Pts)(part:Int)(k:Nat):Bool:=
 let w:=((Zw h part)[k]?).getD 0;let a:=Xz h p w 1 2;let from_:=Xz h p w 3 4
 if 2<part then from_ else if part=1/\h.aa<=k then a||from_ else a
def qv(h:Hp)(p:Pts)(part:Int)(o:Ob):Bool:=(List.range o.M.toNat).all λj=>Up h p part<|o.Z.toNat+1+j
def WJ(h:Hp)(p:Pts)(part:Int):Bool:=(p.at part).all<|qv h p part
def FD{α:Type}{q:α->Bool}{l:List α}{i:Nat}{x:α}(h:l[i]?=J x):(l.take<|i+1).all q=((l.take i).all q&&q x):=by
 rw[Zik,h,List.all_append];simp
def FB{α:Type}{q:α->Bool}{l:List α}{i:Nat}{x:α}(h:l[i]?=J x)(a:q x=xw):l.all q=xw:=by
 grind
def RJ(h:Hp)(p:Pts)(o:Ob):Bool:=decide (US p (YZ h 1 o.Z)=1)
def SD(h:Hp)(p:Pts):Bool:=
 (!h.Y||p.H.all (RJ h p))&&h.E.all (λw=>Xz h p w 1 2)&&WJ h p 1&&WJ h p 2&&WJ h p 3&&WJ h p 4&&decide ((I h.H:Int)+I h.ab+YF p<=h.cap)
def Yv(h:Hp):Bool:=TT h&&match XE h with
 |none=>xw
 |some p=>SD h p
def XN{h:Hp}(a:h.ok)(k:Int):(∀w∈Zw h k,ZB w)/\I (Zw h k)<=1000000:=by
 unfold Zw;split;exact⟨a.gm,a.H⟩;split;exact⟨a.gx,a.ab⟩;split;exact⟨a.ma,a.ah⟩;exact⟨a.ln,a.al⟩
def Z9u{h:Hp}(a:Yv h=xk):∃p,XE h=J p/\SD h p=xk/\TT h=xk:=by
 unfold Yv at a;grind
def UJ(h:Hp)(part:Int):List Ob×Int:=if Yv h=xk/\1<=part/\part<=4 then(((XE h).getD default).at part,0)else([],1)
def RO(h:Hp):Int:=if Yv h then YF ((XE h).getD default)else 0
end Vm
end
section

end
section
namespace Vm
open Go Go.Proofs
def Z2r{w:Int}(a:ZB w):ZB (adr w).1:=by
 grind [ZB,adr]
def Z3Q{l:Ly}{a:Int}(h:(Yh l a).2.2=0):ZJ l=xk/\1<=(Yh l a).1/\(Yh l a).1<=4/\0<=(Yh l a).2.1/\(Yh l a).2.1<YS l (Yh l a).1/\a=fstL l (Yh l a).1+(Yh l a).2.1:=by
 unfold Yh at*;cases k:ZJ l;grind;simp only[k]at h⊢;simp only[Zka,Zij]at h⊢;by_cases d:X3 l a 1=xk;rw[Zht d];have:=Sj.1 d;grind;rw[Zhs d]at h⊢;by_cases f:X3 l a 2=xk;rw[Zht f];have:=Sj.1 f;grind;rw[Zhs f]at h⊢;by_cases g:X3 l a 3=xk;rw[Zht g];have:=Sj.1 g;grind;rw[Zhs g]at h⊢;by_cases j:X3 l a 4=xk;rw[Zht j];have:=Sj.1 j;grind;simp_all
theorem Tt{h:Hp}{k:Int}(a:1<=k/\k<=4):YS (Zv h) k=I (Zw h k):=by
 have:k=1\/k=2\/k=3\/k=4:=Z0;obtain rfl|rfl|rfl|rfl:=this<;>rfl
def Hp.zero:Hp:=⟨0,0,0,xw,0,[],[],[],[],[]⟩
def zr(ws:List Int)(a:Nat):Nat->List Int
 |0=>ws
 |i+1=>(zr ws a i).set (a+i) 0
@[simp]theorem jX(ws:List Int)(a n:Nat):I (zr ws a n)=I ws:=by
 induction n with
 |zero=>rfl
 |succ n d=>simp[zr,d]
def Xt(h:Hp)(part:Int)(a n:Nat):Hp:= {h with H:=h.H++((Zw h part).take<|a+n).drop a}
def Rc(h:Hp)(part:Int)(a n:Nat):Int×Hp×Int:=
 if I (Zw h part)<a+n then(0,Hp.zero,2)
 else if XY (Zv h)<n then(0,Hp.zero,7)
 else
  let d:=(Xq (Y2 (Zv<|Xt h part a n) 1<|I h.H).1).1
  (d,Xn (Xt h part a n) part<|(zr (Zw h part) a n).set a d,0)
def Z2q{l:Ly}{k a:Int}:ZB (Y2 l k a).1:=by
 unfold Y2;cases d:ZJ l;simp[ZB];simp only[Zka,Zij];split;simp[ZB];split;simp[ZB];have:=WP d k;grind [ZB]
def Og{a:Int}:ZB (Xq a).1:=by
 grind [Xq,ZB]
def fwd(h:Hp)(w:Int):Int×Hp×Int:=
 if ZJ (Zv h)=xw then(0,Hp.zero,1)
 else if w=0 then(0,h,0)
 else if(adr w).2≠0 then(0,Hp.zero,3)
 else if(Yh (Zv h) (adr w).1).2.2≠0 then(0,Hp.zero,6)
 else if(Yh (Zv h) (adr w).1).1<3 then(w,h,0)
 else if(adr<|(Zw h (Yh (Zv h) (adr w).1).1).getD (Yh (Zv h) (adr w).1).2.1.toNat 0).2=0 then((Zw h (Yh (Zv h) (adr w).1).1).getD (Yh (Zv h) (adr w).1).2.1.toNat 0,h,0)
 else if(ZQ<|(Zw h (Yh (Zv h) (adr w).1).1).getD (Yh (Zv h) (adr w).1).2.1.toNat 0).2.2≠0 then(0,Hp.zero,3)
 else Rc h (Yh (Zv h) (adr w).1).1 (Yh (Zv h) (adr w).1).2.1.toNat<|(ZQ<|(Zw h (Yh (Zv h) (adr w).1).1).getD (Yh (Zv h) (adr w).1).2.1.toNat 0).1.toNat+1
end Vm
namespace Vm
open Go Go.Proofs
@[simp]theorem Zcz(k:IntKind)(a b c d e f:Int):Ya (.agg [.int k a,.int k b,.int k c,.int k d,.int k e,.int k f]) (.int .i64 0) 6 1 xw=J (.int k a):=rfl
@[simp]theorem ZcF(a b c d e f:Bool):Ya (.agg [.bool a,.bool b,.bool c,.bool d,.bool e,.bool f]) (.int .i64 0) 6 1 xw=J (.bool a):=rfl
@[simp]theorem ZcA(k:IntKind)(a b c d e f:Int):Ya (.agg [.int k a,.int k b,.int k c,.int k d,.int k e,.int k f]) (.int .i64 1) 6 1 xw=J (.int k b):=rfl
@[simp]theorem ZcG(a b c d e f:Bool):Ya (.agg [.bool a,.bool b,.bool c,.bool d,.bool e,.bool f]) (.int .i64 1) 6 1 xw=J (.bool b):=rfl
@[simp]theorem ZcB(k:IntKind)(a b c d e f:Int):Ya (.agg [.int k a,.int k b,.int k c,.int k d,.int k e,.int k f]) (.int .i64 2) 6 1 xw=J (.int k c):=rfl
@[simp]theorem ZcH(a b c d e f:Bool):Ya (.agg [.bool a,.bool b,.bool c,.bool d,.bool e,.bool f]) (.int .i64 2) 6 1 xw=J (.bool c):=rfl
@[simp]theorem ZcC(k:IntKind)(a b c d e f:Int):Ya (.agg [.int k a,.int k b,.int k c,.int k d,.int k e,.int k f]) (.int .i64 3) 6 1 xw=J (.int k d):=rfl
@[simp]theorem ZcI(a b c d e f:Bool):Ya (.agg [.bool a,.bool b,.bool c,.bool d,.bool e,.bool f]) (.int .i64 3) 6 1 xw=J (.bool d):=rfl
@[simp]theorem ZcD(k:IntKind)(a b c d e f:Int):Ya (.agg [.int k a,.int k b,.int k c,.int k d,.int k e,.int k f]) (.int .i64 4) 6 1 xw=J (.int k e):=rfl
@[simp]theorem ZcJ(a b c d e f:Bool):Ya (.agg [.bool a,.bool b,.bool c,.bool d,.bool e,.bool f]) (.int .i64 4) 6 1 xw=J (.bool e):=rfl
@[simp]theorem ZcE(k:IntKind)(a b c d e f:Int):Ya (.agg [.int k a,.int k b,.int k c,.int k d,.int k e,.int k f]) (.int .i64 5) 6 1 xw=J (.int k f):=rfl
@[simp]theorem ZcK(a b c d e f:Bool):Ya (.agg [.bool a,.bool b,.bool c,.bool d,.bool e,.bool f]) (.int .i64 5) 6 1 xw=J (.bool f):=rfl
end Vm
namespace Vm
open Go Go.Proofs
def Zbx{h:Hp}(A:h.ok){k:Int}{l:List Int}(o:I l<=1000000)(h2:∀w∈l,ZB w):(Xn h k l).ok:=by
 obtain⟨a,d,f,g,p,q,r,t,j,u,x,y,z,n⟩:=A;unfold Xn;split;exact⟨a,d,f,g,o,q,r,t,j,h2,x,y,z,n⟩;split;exact⟨a,d,f,g,p,o,r,t,j,u,h2,y,z,n⟩;split;exact⟨a,d,f,g,p,q,o,t,j,u,x,h2,z,n⟩;exact⟨a,d,f,g,p,q,r,o,j,u,x,y,h2,n⟩
end Vm
end
section
namespace Vm
open Go Go.Proofs
def K5{n:Nat}{x:V}(h:Xm Try.prog (n+1) 3 x):∃m,x=vi m/\Ym m:=by
 obtain⟨m,rfl,a,d⟩:=t5 Try.underlying3 h;exact⟨m,rfl,a,d⟩
def t9{n:Nat}{x:V}(h:Xm Try.prog (n+1) 24 x):∃m,x=vu m/\ZB m:=by
 obtain⟨m,rfl,a,d⟩:=t5 Try.underlying24 h;exact⟨m,rfl,a,Int.lt_of_le_of_lt d ZgB⟩
def DZ{n:Nat}{x:V}(h:Xm Try.prog (n+2) 23 x):∃l:Z8,x=.sl (l.map vi)/\I l<=maxLen/\∀p∈l,Ym p:=
 DY Try.underlying23 h λy a=>K5 a
def Zbf{n:Nat}{x:V}(h:Xm Try.prog (n+2) 28 x):∃l:Z8,x=.sl (l.map vu)/\I l<=maxLen/\∀p∈l,ZB p:=
 DY Try.underlying28 h λy a=>t9 a
def Nd.au(x:Nd):Prop:=(I x.M<=maxLen/\∀p∈x.M,Ym p)/\I x.data<=maxLen/\∀p∈x.data,ZB p
def Zbc{n:Nat}{x:V}(h:Xm Try.prog (n+3) 100 x):∃a:Nd,x=Yk a/\a.au:=by
 obtain⟨q,rfl,o,d⟩:=t8 Try.underlying100 h
 match q,o with
 | [a,b],_=>
   obtain⟨p,rfl,g,j⟩:=DZ<|d 0 _ a rfl rfl;obtain⟨f,rfl,k,l⟩:=Zbf<|d 1 _ b rfl rfl;exact⟨⟨p,f⟩,rfl,⟨g,j⟩,k,l⟩
def Zbd{n:Nat}{x:V}(h:Xm Try.prog (n+4) 22 x):∃l:List Nd,x=.sl (l.map Yk)/\I l<=maxLen/\∀a∈l,a.au:=
 DY Try.underlying22 h λy d=>Zbc d
def Zbe{n:Nat}{x:V}(h:Xm Try.prog (n+5) 26 x):∃r:Rw,x=Wt r/\r.ok:=by
 obtain⟨F,rfl,B,j⟩:=t8 Try.underlying26 h
 match F,B with
 | [a,b,c,d,e,f,g],_=>
   obtain⟨C,rfl,_,o⟩:=Zbd<|j 0 _ a rfl rfl;obtain⟨D,rfl,_,t⟩:=DZ<|j 1 _ b rfl rfl;obtain⟨q,rfl,_,u⟩:=DZ<|j 2 _ c rfl rfl;obtain⟨d,rfl,w⟩:=t9<|j 3 _ d rfl rfl;obtain⟨e,rfl,y⟩:=K5<|j 4 _ e rfl rfl;obtain⟨f,rfl,z⟩:=K5<|j 5 _ f rfl rfl;obtain⟨g,rfl,A⟩:=K5<|j 6 _ g rfl rfl;exact⟨⟨C,D,q,d,e,f,g⟩,rfl,λn k p l=>(o n k).1.2 p l,λn k p l=>(o n k).2.2 p l,t,u,w,y,z,A⟩
def own:ownKnob Try.prog.godebug=U:=Z2
def laidOut:laidOutB Try.prog=xk:=Z2
end Vm
end
section
namespace Vm
open Go Go.Proofs Go.RowKit
section
section
variable {P:Z6}{w:Z3}
def ZbI{o:Oper}{a:Act}{K:Zq}{Q:Zh}(s x:Operand)(t:Zf)
  (G:o.op=.call {callee:=.builtin .append,args:=#[s,x],argTypes:=#[t,t]}) {e:Zf} (M:P.underlying t=J (.slice e)) (p:Uv P e=xk)
  {B n:Nat} {v y:Ze} {xs:Zm} (L:a.eval s=v) (hx:a.eval x=y) (k:w.ownsRow B e (P.cellsOf e) v n xs) (D:B<=xz (xj w))
  {Gy:Z4} {l:Zr} (N:Rd w Gy (.sl l) y) (F:Xv (P.cellsOf e) l=xk) (j:n+I l<=Y4)
  (h:∀g f d,f.ownsRow B e (P.cellsOf e) g (n+I l) (xs++d)->w.grownBy f v.ownBlock->(g.ownBlock=v.ownBlock\/(w.grownBy f U/\f.ownsRow (xz<|xj w) e (P.cellsOf e) g (n+I l) (xs++d)))->
   (∀(i:Nat) (q:V),(flat l)[i]?=J q->∃u,d[i]?=J u/\Rd w Gy q u)->K (a.put o.dst g) f):o.wp P a w K Q:=by
 obtain⟨g,f,d,H,r,z,A,_,C⟩:=LU (ty:=o.type) M p k D N F j;unfold Oper.wp execOp;simp only[G,resolve,invoke,builtin,Zi4,ZjV,Zi2,List.map_toArray,ZhR,ZiN,L,hx,H];exact h g f d r z A C
def Z0s{ops:Zl}{rest:List Oper}{o:Oper}{a:Act}{Q:Zh}(q:o.guard=U)(s x:Operand)(t:Zf)
  (K:o.op=.call {callee:=.builtin .append,args:=#[s,x],argTypes:=#[t,t]}) {e:Zf} (M:P.underlying t=J (.slice e)) (p:Uv P e=xk)
  {B n:Nat} {v y:Ze} {xs:Zm} (L:a.eval s=v) (hx:a.eval x=y) (k:w.ownsRow B e (P.cellsOf e) v n xs) (F:B<=xz (xj w))
  {Gy:Z4} {l:Zr} (N:Rd w Gy (.sl l) y) (H:Xv (P.cellsOf e) l=xk) (j:n+I l<=Y4)
  (h:∀g f d,f.ownsRow B e (P.cellsOf e) g (n+I l) (xs++d)->w.grownBy f v.ownBlock->(g.ownBlock=v.ownBlock\/(w.grownBy f U/\f.ownsRow (xz<|xj w) e (P.cellsOf e) g (n+I l) (xs++d)))->
   (∀(i:Nat) (r:V),(flat l)[i]?=J r->∃u,d[i]?=J u/\Rd w Gy r u)->wpList P ops Q rest (a.put o.dst g) f):wpList P ops Q (o::rest) a w:=
 wpList_plain q λ_ G=>ZbI s x t K M p L hx k F N H j λg f d z A C D=>G _ _<|h g f d z A C D
end
def Ye(k:IntKind)(l:Z8):List Value:=l.map<|Value.int k
def qn{w:Z3}{G:Z4}{k:IntKind}{l:Z8}{d:Zm}(h:∀(i:Nat) (g:V),(flat<|l.map<|V.int k)[i]?=J g->∃u,d[i]?=J u/\Rd w G g u)(n:I d=I l):d=Ye k l:=by
 have f:flat (l.map<|V.int k)=l.map (V.int k):=by
  clear h n;induction l with
  |nil=>rfl
  |cons a l q=>rw[ZhR,Qe,q];rfl
 apply ZiO;intro i;unfold Ye;by_cases j:i<I l;obtain⟨u,p,o⟩:=h i (.int k l[i]) (by rw[f,ZhG,Zhi j];rfl);rw[p,ZhG,Zhi j];cases o;rfl;rw[Zib Z0,Zib Zgn]
def Wc{w:Z3}{B:Nat}{e:Zf}{z n:Nat}{v:Ze}{xs:Zm}(h:w.ownsRow B e z v n xs):∃a c,v=.slice a n c:=by
 obtain⟨rfl,rfl⟩|⟨g,cap,d,rfl,_⟩:=h.2;exact⟨_,_,rfl⟩;exact⟨_,_,rfl⟩
theorem XM{w w':Z3}{B:Nat}{e:Zf}{z n:Nat}{v:Ze}{xs:Zm}(h:w.ownsRow B e z v n xs)(l:∀b,v.ownBlock=J b->w'.heap[b]?=w.heap[b]?):w'.ownsRow B e z v n xs:=by
 refine⟨h.1,?_⟩;obtain⟨f,d⟩|⟨g,cap,a,rfl,d,j,k⟩:=h.2;exact .inl ⟨f,d⟩;exact .inr ⟨g,cap,a,rfl,d,by rw[l g rfl];exact j,k⟩
def Yp{w:Z3}{b o:Nat}{cs:Zb}{T:Zf}(h:w.heap[b]?=J (.cells cs T (0,0))):w.frozen? ⟨b,o,U⟩=xw:=by
 simp[World.frozen?,h]
def J8:Uv xP 24=xk:=Z2
theorem T4:xP.cellsOf 24=1:=Z2
def Y7{w:Z3}{b:Nat}{o:Obj}(h:w.heap[b]?=J o):b<xz (xj w):=(Zho.1 h).1
def qI{w:Z3}{B B':Nat}{e:Zf}{z n:Nat}{v:Ze}{xs:Zm}(h:w.ownsRow B e z v n xs)(j:B'<=B):w.ownsRow B' e z v n xs:=by
 refine⟨h.1,?_⟩;obtain d|⟨g,cap,a,l,k,f⟩:=h.2;exact .inl d;exact .inr ⟨g,cap,a,l,ZhU j k,f⟩
def Lj(k:IntKind)(l:Z8)(i:Nat)(x:Int):Ye k (l.set i x)=(Ye k l).set i (.int k x):=by unfold Ye;rw[Zk6]
def Z5L:(xP.info? 24).map (λi=>(i.zero,i.size,i.bytes))=J (J<|.int .u64 0,1,8):=Z2
section
variable {w:Z3}{B:Nat}{G:Z4}
def yr{k:IntKind}(l:Z8):flat (l.map<|V.int k)=l.map (V.int k):=by
 induction l with
 |nil=>rfl
 |cons a l d=>rw[ZhR,Qe,d];rfl
def Rq{k:IntKind}{e:Zf}{v:Ze}{l:Z8}(h:w.ownsRow B e 1 v (I l)<|Ye k l)(r:∀c,B<=c->c<xz (xj w)->G c):Rd w G (.sl<|l.map<|V.int k) v:=by
 obtain⟨rfl,q⟩|⟨g,cap,p,rfl,t,u,o,f,_⟩:=h.2;have:l=[]:=Zje.1 q;subst this;exact .nil _ _ ZgC
 have:=Rd.sl (w:=w) (G:=G) (l.map<|V.int k) g 0 cap 1 (λi=>(Ye k l).getD i xy) (by simpa using o) f (r g t<|Y7 u) (λx y=>by
  obtain⟨n,_,rfl⟩:=ZhC.1 y
  exact⟨rfl,λc d=>by simp[V.cells]at d;subst d;rfl⟩) (λi j=>by
   have a:i<I l:=by simpa using j
   rw[Zi5,h.cellAt i Z0];simp[Ye,a]) (λi c d=>by
   rw[yr]at d;obtain⟨j,rfl⟩:=Zhj.1 d;have a:i<I l:=by simpa using j
   simp[Ye,a];exact .int _ _)
 simpa using this
end
def Z7S(w:Z3)(b k:Nat)(a:k=1\/k=2\/k=3\/k=4):
  Calls xP 39 #[.pointer<|J ⟨b,0,U⟩,.int .i64 k] w λe d=>e=.returned (.pointer<|J ⟨b,4+k,U⟩)/\Below (xz<|xj w) w d:=by
 go_enter F8,Try.ntmps39;obtain rfl|rfl|rfl|rfl:=a;all_goals
  go_wp2;go_region;go_wp2;go_ret
  exact⟨rfl,((ZhH _ _).alloc (Zhm _) _).drew⟩
def ZX:Array Value:=#[.int .u64 0,.int .i64 0,.int .i64 0,.bool xw,.int .i64 0,.slice U 0 0,.slice U 0 0,.slice U 0 0,.slice U 0 0,.slice U 0 0]
abbrev Tp(w:Z3)(b:Nat)(v0 v1 v2 v3 v4 v5 v6 v7 v8 v9:Ze):World:=(((((((((w.setCell ⟨b,0,U⟩ v0).setCell ⟨b,1,U⟩ v1).setCell ⟨b,2,U⟩ v2).setCell ⟨b,3,U⟩ v3).setCell ⟨b,4,U⟩ v4).setCell ⟨b,5,U⟩ v5).setCell ⟨b,6,U⟩ v6).setCell ⟨b,7,U⟩ v7).setCell ⟨b,8,U⟩ v8).setCell ⟨b,9,U⟩ v9
def qX{w2:Z3}{b:Nat}{T:Zf}(a:w2.heap[b]?=J (.cells ZX T (0,0))){v0 v1 d f v4 g v6 h j k:Ze}:(Tp w2 b v0 v1 d f v4 g v6 h j k).heap[b]?=J (.cells #[v0,v1,d,f,v4,g,v6,h,j,k] T (0,0)):=by
 unfold ZX at a;simp[World.setCell,ZhW,a]
def Sv{w2:Z3}{b:Nat}{T:Zf}(l:w2.heap[b]?=J (.cells ZX T (0,0)))(v0 v1 a d v4 f v6 g h k:Ze)(j:Nat):(Tp w2 b v0 v1 a d v4 f v6 g h k).cell? ⟨b,j,U⟩=(#[v0,v1,a,d,v4,f,v6,g,h,k]:Array Value)[j]? :=
 Zhv _ _ _ _ _ _ (qX l)
def Vq{B:Nat}{w0 w2:Z3}{b:Nat}(h:Below B w0 w2)(a:B<=b){v0 v1 d f v4 g v6 j k l:Ze}:Below B w0<|Tp w2 b v0 v1 d f v4 g v6 j k l:=
 (((((((((h.setCell a _).setCell a _).setCell a _).setCell a _).setCell a _).setCell a _).setCell a _).setCell a _).setCell a _).setCell a _
def UM{w2:Z3}{b c:Nat}(hc:c≠b){v0 v1 a d v4 f v6 g h j:Ze}:(Tp w2 b v0 v1 a d v4 f v6 g h j).heap[c]?=w2.heap[c]? :=by
 have:¬b=c:=λe=>hc e.symm;simp[World.setCell,ZhW,this]
end
def Zu(h:Hp)(j:Nat):List Int:=if j=0 then h.H else if j=1 then h.ab else if j=2 then h.ah else if j=3 then h.al else h.E
structure OwSt (w:World) (b:Nat) (el:Nat->Option Obj) (T:TypeId) (hd src:Nat->Value) (L:Nat->List Int) (k:Nat) (xs:Nat->Value) (wr:World):Prop where
 below:Below (xz<|xj w) w wr
 new:xz (xj w)<=b
 blk:wr.heap[b]?=J (.cells #[hd 0,hd 1,hd 2,hd 3,hd 4,xs 0,xs 1,xs 2,xs 3,src 4] T (0,0))
 ou:∀c,xz (xj w)<=c->c<b->wr.heap[c]?=el c
 rest:∀j,k<=j->xs j=src j
 own:∀j,j<k->wr.ownsRow (xz<|xj w) 24 1 (xs j) (I<|L j) (Ye .u64<|L j)
 pp:∀j,j<k->∀c,(xs j).ownBlock=J c->b<c
 apart:∀i j,i<j->j<k->∀c,(xs i).ownBlock=J c->(xs j).ownBlock≠J c
def OwSt.next{w wr w1 o b z T g l L k xs}(h:OwSt w b z T g l L k xs wr)(G:k<4)
  (p:Below (xz<|xj wr) wr w1) (r:w1.grownBy o U) {v} (H:o.ownsRow (xz<|xj w) 24 1 v (I<|L k)<|Ye .u64<|L k) (D:∀c,v.ownBlock=J c->xz (xj w1)<=c):
  OwSt w b z T g l L (k+1) (λj=>if j=k then v else xs j) (o.setCell ⟨b,5+k,U⟩ v):=by
 have q:=Y7 h.blk;have F:=p.size;have y:=h.below.size;have f:∀c,c<xz (xj wr)->c≠b->(o.setCell ⟨b,5+k,U⟩ v).heap[c]?=wr.heap[c]? :=λc d x=>by
  rw[ZhD _ _ _ _ x,r.block c Z0 Z1,p.block c d]
 have C:o.heap[b]?=J (.cells #[g 0,g 1,g 2,g 3,g 4,xs 0,xs 1,xs 2,xs 3,l 4] T (0,0)):=by
  rw[r.block b Z0 Z1,p.block b q,h.blk]
 refine⟨((h.below.trans<|p.mono y).grown r Z0 Z1).setCell h.new _,h.new,?_,?_,?_,?_,?_,?_⟩;have:k=0\/k=1\/k=2\/k=3:=Z0;obtain rfl|rfl|rfl|rfl:=this<;>simp[World.setCell,ZhW,C];intro c A B;rw[f c Z0 Z0];exact h.ou c A B;intro j u;rw[Zhs Z0];exact h.rest j Z0;intro j u;by_cases a:j=k;subst a;grind [XM,Below.heap_setCell];rw[Zhs a];have n:=h.own j Z0;exact XM n λc d=>f c (n.lt c d).2 (by have:=h.pp j Z0 c d;omega);intro j u c d;by_cases a:j=k;grind;rw[Zhs a]at d;exact h.pp j Z0 c d;intro i j t u c d;rw[Zhs Z0]at d;by_cases a:j=k;rw[Zht a];intro e;have:=D c e;have:=((h.own i Z0).lt c d).2;omega;rw[Zhs a];exact h.apart i j t Z0 c d
structure HOwn (B:Nat) (w:World) (h:Hp) (x:Nat->Value):Prop where
 own:∀j,j<5->w.ownsRow B 24 1 (x j) (I<|Zu h j) (Ye .u64<|Zu h j)
 apart:∀i j,i<j->j<5->∀c,(x i).ownBlock=J c->(x j).ownBlock≠J c
abbrev Z5:=Nat->Value
def ZC(h:Hp)(x:Z5):Value:=.agg #[.int .u64 h.base,.int .i64 h.cap,.int .i64 h.to,.bool h.Y,.int .i64 h.aa,x 0,x 1,x 2,x 3,x 4]
abbrev RT(W:Z3)(b:Nat)(h:Hp)(x:Z5):World:=Tp W b (.int .u64 h.base) (.int .i64 h.cap) (.int .i64 h.to) (.bool h.Y) (.int .i64 h.aa) (x 0) (x 1) (x 2) (x 3)<|x 4
def Z11(w:Z3)(h:Hp)(e:Ending)(w':Z3):Prop:=∃x,e=.returned (ZC h x)/\Below (xz<|xj w) w w'/\HOwn (xz<|xj w) w' h x
def Jw{h}(a:h.ok)k:I (Zu h k)<=1000000:=by
 unfold Zu;split;exact a.H;split;exact a.ab;split;exact a.ah;split;exact a.al;exact a.E
def Z7T(w:Z3)(b k:Nat)(d:k<4):
  Calls xP 39 #[.pointer<|J ⟨b,0,U⟩,.int .i64 ((k+1:Nat):Int)] w λe a=>e=.returned (.pointer<|J ⟨b,5+k,U⟩)/\Below (xz<|xj w) w a:=by
 have:=Z7S w b (k+1) Z0;grind
def EM(w:Z3)(G:Z4)(hG:∀b,G b->b<xz (xj w))(h:Hp)(hh:h.ok)(d:Z5)(hs:∀j,j<5->Rd w G (.sl<|(Zu h j).map vu) (d j)):
  Calls xP 19 #[ZC h d] w (Z11 w h):=by
 have HS:=Zhp hs;have HH:=Zhp hh;clear hs hh;unfold ZC;go_enter F1,Try.ntmps19;go_wp2
 go_loopw [4] (λi wr=>∃(k:Nat) (xs:Z5),i=.int .i64 ((k+1:Nat):Int)/\k<=4/\Hid (OwSt w (xz (xj w)+2) (λc=>if c=(xz<|xj w) then J (.cells #[.int .u64 h.base,.int .i64 h.cap,.int .i64 h.to,.bool h.Y,.int .i64 h.aa,d 0,d 1,d 2,d 3,d 4] 30 (0,0))else J<|.cells #[.int .u64 0,.int .i64 0,.int .i64 0,.bool xw,.int .i64 0,.slice U 0 0,.slice U 0 0,.slice U 0 0,.slice U 0 0,.slice U 0 0] 30 (0,0)) 90 (λj=>if j=0 then .int .u64 h.base else if j=1 then .int .i64 h.cap else if j=2 then .int .i64 h.to else if j=3 then .bool h.Y else .int .i64 h.aa) d (Zu h) k xs wr))
  (λi _=>5- (intOf i).toNat)
 case atStart=>
  refine⟨0,d,rfl,Z0,Zhp ⟨(((ZhH _ _).alloc (Zhm _) _).alloc Z1 _).alloc Zgn _,Z0,?_,?_,λ_ _=>rfl,λj hj=>Z0,λj hj=>Z0,λi j _ hj=>Z0⟩⟩;have:=ZhT ((w.alloc<|.cells #[.int .u64 h.base,.int .i64 h.cap,.int .i64 h.to,.bool h.Y,.int .i64 h.aa,d 0,d 1,d 2,d 3,d 4] 30).alloc<|.cells #[.int .u64 0,.int .i64 0,.int .i64 0,.bool xw,.int .i64 0,.slice U 0 0,.slice U 0 0,.slice U 0 0,.slice U 0 0,.slice U 0 0] 30)<|.cells #[.int .u64 h.base,.int .i64 h.cap,.int .i64 h.to,.bool h.Y,.int .i64 h.aa,d 0,d 1,d 2,d 3,d 4] 90;simp_all;intro c h1 h2;have:c=(xz<|xj w)\/c=xz (xj w)+1:=Z0;obtain rfl|rfl:=this;rw[Zht rfl,Zhz _ _ _ Zgn,Zhz _ _ _ Z1];exact ZhT _ _;rw[Zhs Z0,Zhz _ _ _ Z1];have:=ZhT (w.alloc<|.cells #[.int .u64 h.base,.int .i64 h.cap,.int .i64 h.to,.bool h.Y,.int .i64 h.aa,d 0,d 1,d 2,d 3,d 4] 30)<|.cells #[.int .u64 0,.int .i64 0,.int .i64 0,.bool xw,.int .i64 0,.slice U 0 0,.slice U 0 0,.slice U 0 0,.slice U 0 0,.slice U 0 0] 30;simp_all
 case round=>
  obtain⟨k,xs,rfl,hk,g⟩:=hrel;have a4:=Y7 g.out.blk;by_cases a2:k<4
  .have b4:((k+1:Nat):Int)<=4:=Z0;have c0:wr.cell? ⟨xz (xj w)+2,5+k,U⟩=J (d k):=by
    rw[Zhv _ _ _ _ _ _ g.out.blk];have h3:k=0\/k=1\/k=2\/k=3:=Z0;have hr:=g.out.rest k<|Zhm _;obtain rfl|rfl|rfl|rfl:=h3<;>simp[<-hr]
   have f0:wr.frozen? ⟨xz (xj w)+2,5+k,U⟩=xw:=Yp g.out.blk;have b2:I (Zu h k)<=1000000:=Jw HH.out k
   go_wp2_with (first
    |(go_at_call 39;refine(Z7T _ _ _ a2).mono ?_;rintro e w1 ⟨rfl,C⟩;have c1:=(C.cell (p:=⟨xz (xj w)+2,5+k,U⟩)<|by exact a4).trans c0;have f1:=(C.frozen (p:=⟨xz (xj w)+2,5+k,U⟩)<|by exact a4).trans f0;have S:=Zhp<|(HS.out k<|by omega).keep (w':=w1) (λb hb=>by rw[C.block b (by have:=hG b hb;omega)];exact g.out.below.block b<|hG b hb) (λ_ h=>h);have a5:=Zhp C;have b5:=C.size;have a3:=g.out.below.size;clear C)
    |(at_builtin;refine Z0s (B:=xz<|xj w) (n:=0) (xs:=[]) rfl _ _ _ rfl SX J8 rfl rfl (ZiK _ _ _ _) (by omega) (l:=(Zu h k).map vu) (Gy:=G) S.out (by grind [T4,zc]) (by grind [Y4]) ?_))
   intro v6 w6 x a f A Q;simp only[T4]at a;have W:I x=I (Zu h k):=by have:=a.1;simp_all
   rw[qn Q W]at a;try simp only[ZhN,Zi5,Zic]at a
   obtain⟨P,R,X⟩:=Wc a;subst X;have u:(Value.slice U 0 0).ownBlock=U:=rfl;rw[u]at f;have c6:=(f.cell_far ⟨xz (xj w)+2,5+k,U⟩ Zgl Z1).trans c1;have f6:=(f.frozen_far ⟨xz (xj w)+2,5+k,U⟩ Zgl Z1).trans f1;have q:∀c,(Value.slice P (I<|Zu h k) R).ownBlock=J c->xz (xj w1)<=c:=by
    intro c t;obtain e|⟨_,e⟩:=A;simp_all;exact(e.lt c t).1
   have HN:=Zhp<|g.out.next a2 a5.out f a q;clear a f A Q q;go_wp2;go_roundw
   case rel=>grind
   case measure=>grind [intOf]
  .have a9:k=4:=Z0;subst a9;have b0:=g.out.ou (xz<|xj w) Z0 Z0;rw[Zht rfl]at b0;have b1:=g.out.ou (xz (xj w)+1) Z0 Z0;rw[Zhs Z0]at b1;have c9:wr.cell? ⟨xz<|xj w,9,U⟩=J (d 4):=by rw[Zhv _ _ _ _ _ _ b0];rfl
   have b2:I (Zu h 4)<=1000000:=Jw HH.out 4;have S:=Zhp<|(HS.out 4 Z0).keep (w':=wr) (λb hb=>g.out.below.block b<|hG b hb) (λ_ h=>h);have a3:=g.out.below.size;go_wp2_with (at_builtin;refine Z0s (B:=xz<|xj w) (n:=0) (xs:=[]) rfl _ _ _ rfl SX J8 rfl rfl (ZiK _ _ _ _) Z0 (l:=(Zu h 4).map vu) (Gy:=G) S.out (by grind [T4,zc]) (by grind [Y4]) ?_)
   intro v6 w6 x a f A Q;simp only[T4]at a;have W:I x=I (Zu h 4):=by have:=a.1;simp_all
   rw[qn Q W]at a;try simp only[ZhN,Zi5,Zic]at a
   obtain⟨P,R,X⟩:=Wc a;subst X;have u:(Value.slice U 0 0).ownBlock=U:=rfl;rw[u]at f;obtain⟨D,L,e0⟩:=Wc<|g.out.own 0 Z0;obtain⟨F,M,e1⟩:=Wc<|g.out.own 1 Z0;obtain⟨H,N,e2⟩:=Wc<|g.out.own 2 Z0;obtain⟨K,O,e3⟩:=Wc<|g.out.own 3 Z0;have blk:wr.heap[xz (xj w)+2]?=J (.cells #[.int .u64 h.base,.int .i64 h.cap,.int .i64 h.to,.bool h.Y,.int .i64 h.aa,.slice D (I<|Zu h 0) L,.slice F (I<|Zu h 1) M,.slice H (I<|Zu h 2) N,.slice K (I<|Zu h 3) O,d 4] 90 (0,0)):=by rw[<-e0,<-e1,<-e2,<-e3];exact g.out.blk
   have y:=(f.block (xz (xj w)+2) Z0 Z1).trans blk;have Z:=(f.block (xz (xj w)+1) Z0 Z1).trans b1;have x9:w6.cell? ⟨xz (xj w)+2,9,U⟩=J (d 4):=by rw[Zhv _ _ _ _ _ _ y];rfl
   have y9:w6.frozen? ⟨xz (xj w)+2,9,U⟩=xw:=Yp y;obtain⟨Y,h7⟩:∃Y,w6.setCell ⟨xz (xj w)+2,9,U⟩ (.slice P (I<|Zu h 4) R)=Y:=⟨_,rfl⟩;have a0:Y.heap[xz (xj w)+2]?=J (.cells #[.int .u64 h.base,.int .i64 h.cap,.int .i64 h.to,.bool h.Y,.int .i64 h.aa,.slice D (I<|Zu h 0) L,.slice F (I<|Zu h 1) M,.slice H (I<|Zu h 2) N,.slice K (I<|Zu h 3) O,.slice P (I<|Zu h 4) R] 90 (0,0)):=by
    rw[<-h7];simp[World.setCell,ZhW,y]
   have T:Y.heap[xz (xj w)+1]?=J (.cells ZX 30 (0,0)):=by
    rw[<-h7,ZhD _ _ _ _ Z1];exact Z
   have l:=λj=>Zhv _ _ j _ _ _ a0;have m:=λj=>Zhv _ _ j _ _ _ T;unfold ZX at m;have r:=λj=>Yp (o:=j) T;have z:=Sv T (.int .u64 h.base) (.int .i64 h.cap) (.int .i64 h.to) (.bool h.Y) (.int .i64 h.aa) (.slice D (I<|Zu h 0) L) (.slice F (I<|Zu h 1) M) (.slice H (I<|Zu h 2) N) (.slice K (I<|Zu h 3) O)<|.slice P (I<|Zu h 4) R;have a7:Below (xz<|xj w) w Y:=by rw[<-h7];exact(g.out.below.grown f a3 Z1).setCell Z1 _
   have b3:∀c,c≠xz (xj w)+2->Y.heap[c]?=w6.heap[c]? :=λc t=>by rw[<-h7];exact ZhD _ _ _ _ t
   have q:∀c,(Value.slice P (I<|Zu h 4) R).ownBlock=J c->xz (xj wr)<=c:=by
    intro c t;obtain e|⟨_,e⟩:=A;simp_all;exact(e.lt c t).1
   clear y Z blk b0 b1 c9;go_wp2;refine Zi8 (v:=.agg #[.int .u64 h.base,.int .i64 h.cap,.int .i64 h.to,.bool h.Y,.int .i64 h.aa,.slice D (I<|Zu h 0) L,.slice F (I<|Zu h 1) M,.slice H (I<|Zu h 2) N,.slice K (I<|Zu h 3) O,.slice P (I<|Zu h 4) R]) (by simp[results,Try.results19,go_sem,z]) rfl ⟨λj=>if j=4 then .slice P (I<|Zu h 4) R else xs j,by simp[ZC,e0,e1,e2,e3],Vq a7 Z1,?_⟩;have a1:=λc h1 h2=>(@UM Y (xz (xj w)+1) c h1 (.int .u64 h.base) (.int .i64 h.cap) (.int .i64 h.to) (.bool h.Y) (.int .i64 h.aa) (.slice D (I<|Zu h 0) L) (.slice F (I<|Zu h 1) M) (.slice H (I<|Zu h 2) N) (.slice K (I<|Zu h 3) O)<|.slice P (I<|Zu h 4) R).trans<|b3 c h2;refine⟨λj hj=> ?_,λi j a8 hj c t=> ?_⟩;by_cases h4:j=4;subst h4;rw[Zht rfl];exact XM a λc t=>a1 c (by have:=q c t;omega) (by have:=q c t;omega);rw[Zhs h4];have ho:=g.out.own j Z0;exact XM ho λc t=>by
    have h1:=g.out.pp j Z0 c t;have h2:=(ho.lt c t).2;rw[a1 c Z0 Z0,f.block c h2 Z1]
   rw[Zhs Z0]at t;by_cases h4:j=4;subst h4;rw[Zht rfl];intro e;have h1:=q c e;have h2:=((g.out.own i Z0).lt c t).2;omega;rw[Zhs h4];exact g.out.apart i j a8 Z0 c t
def ZbQ(z:Ze)(n:Nat):(Builtin.zeroCells #[z] n).toList=List.replicate n z:=by
 simp[Builtin.zeroCells];apply List.ext_getElem;simp;intro i a d;simp[Nat.mod_one]
def Z9J{P:Z6}{w:Z3}{T tI ty e:Zf}{i:TypeInfo}{z:Ze}{kn:IntKind}(Z:P.underlying T=J (.slice e))(R:P.underlying tI=J (.int kn))(Y:P.info? e=J i)(hz:i.zero=J z)
  (H:z.cells=#[z]) (h1:z.oneCell'=xk) (hs:i.size=1) (M:i.bytes=8) {B n m:Nat} {v:Ze} {xs:Zm} (l:w.ownsRow B e 1 v n xs) (hB:B<=xz (xj w)) (hm:0<m) (a1:n+m<=4294967296) (N:IntKind):
  ∃O K,(Builtin.append_ #[T,tI] ty #[v,.int N m]).run P w=.ok O K/\K.ownsRow B e 1 O (n+m) (xs++List.replicate m z)/\w.grownBy K v.ownBlock/\
   (O.ownBlock=v.ownBlock\/(w.grownBy K U/\K.ownsRow (xz<|xj w) e 1 O (n+m) (xs++List.replicate m z))):=by
 have q:I xs=n:=by have:=l.1;simpa using this
 have f:I (xs++List.replicate m z)=n+m:=by simp[q]
 have Q:n+m<=maxLen:=by simp only[maxLen];omega
 have d:∀(a:Nat),a<n+m->∀(row:Option Nat) (L:Zb),L=xs.toArray++(List.replicate m z).toArray->
   (w.drew.alloc<|.cells (L++Builtin.zeroCells z.cells (grownCap w (n+m) a e- (n+m))) e).ownsRow (xz<|xj w) e 1
    (.slice (J ⟨xz<|xj w,0,U⟩) (n+m)<|grownCap w (n+m) a e) (n+m) (xs++List.replicate m z)/\
   w.grownBy (w.drew.alloc<|.cells (L++Builtin.zeroCells z.cells (grownCap w (n+m) a e- (n+m))) e) row:=by
  rintro a ho row L rfl;have X:=grownCap_ge w (n+m) a e;have x:grownCap w (n+m) a e<=maxLen:=grownCap_le_maxLen w (n+m) a e Q;refine⟨⟨ZgD,.inr ⟨xz<|xj w,_,_,rfl,Zhm _,ZhT w.drew _,X,x,?_,?_⟩⟩,⟨rfl,rfl,rfl,Z1,λk F _=>Zhz w.drew _ k F⟩⟩;simp only[Array.size_append,ZiP,size_zeroCells,H];simp[q];omega;simp only[Array.toList_append,Zi7];rw[<-Zi7,ZlA,<-f];exact Zl3
 have A:Builtin.zeroCells z.cells m=(List.replicate m z).toArray:=by
  rw[H];apply Array.ext';rw[ZbQ]
 obtain⟨rfl,rfl⟩|⟨g,cap,h,rfl,S,hg,a2,x,a0,p⟩:=l.2;have hx:xs=[]:=Zj7 q;subst hx;have t:=Lib.run_append_nil_zeros (P:=P) w T tI ty e i z N kn Z R Y hz m hm Z0 Z0 (by rw[M];omega);have D:=d 0 Z0;simp only[Zi5,Zic,Array.empty_append]at D t⊢;rw[A]at t;obtain⟨g1,g2⟩:=D U _ rfl;exact⟨_,_,t,qI g1 hB,g2,.inr ⟨g2,g1⟩⟩;by_cases o:n+m<=cap;have r:n+I (List.replicate m z)<=h.size:=Zgn;have y:=run_storeCells_at P g n e (List.replicate m z) 0 h w hg (by simpa using r) (by intro v hv;rw[List.eq_of_mem_replicate hv];exact h1);simp only[ZiZ]at y;have hw:IntKind.i64.wrap (m:Int)=m:=by rw[IntKind.wrap_i64];omega
 have G:¬((m:Int)<0):=Z0;have C:¬(281474976710656< (m:Int)*8):=Z0;have F:m≠0:=Z0
 have t:(Builtin.append_ #[T,tI] ty #[.slice (J ⟨g,0,U⟩) n cap,.int N m]).run P w=
   .ok (.slice (J ⟨g,0,U⟩) (n+m) cap) (w.setRow g (h.toList.take n++List.replicate m z++h.toList.drop (n+I (List.replicate m z))).toArray):=by
  simp[Builtin.append_,Zi6 Z,Zi6 R,Go.sizeOf,typeInfo,zeroValue,Y,hz,asInt,asIntOf,hw,G,hs,M,C,F,o,A,ZiX];simp at y;rw[y];simp
 refine⟨_,_,t,⟨ZgD,.inr ⟨g,cap,_,rfl,S,Zly w g h _ e _ hg,o,x,?_,?_⟩⟩,⟨rfl,rfl,rfl,Z1,λk _ F=>Zjf w g k _<|λe=>F (by simp[Value.ownBlock,e])⟩,.inl rfl⟩;simp only[ZiP,Zi3,Zil,Zj8,ZjI];simp at r⊢;omega;rw[ZlA]at p⊢;rw[p,<-f];exact Zl3;have holds:∀j u,xs[j]?=J u->w.cell? ((⟨g,0,U⟩:Addr).add j)=J u:=l.cells (g:=g) rfl;have W:=run_firstCells_some (P:=P) w.drew i.size n ⟨g,0,U⟩ n cap xs (by rw[hs,ZlA];exact q) (by simpa using holds);have t:=Lib.run_append_grow_zeros (P:=P) w T tI ty e i z N kn Z R Y hz (J ⟨g,0,U⟩) n cap xs W m hm Z0 Z0 Z0 (by rw[M];omega)<|Zlv Z0 (by rw[M];omega);rw[A]at t;obtain⟨g1,g2⟩:=d cap Z0 U _ rfl;obtain⟨_,g3⟩:=d cap Z0 (Value.ownBlock<|.slice (J ⟨g,0,U⟩) n cap) _ rfl;exact⟨_,_,t,qI g1 hB,g3,.inr ⟨g2,g1⟩⟩
end Vm
end
section
namespace Vm
open Go Go.Proofs
def Hp.ej:Hp.zero.ok:=by
 refine⟨?_,?_,?_,?_,?_,?_,?_,?_,?_,?_,?_,?_,?_,?_⟩<;>simp[Hp.zero,ZB,Ym]
def Mc{h:Hp}(d:h.ok){part:Int}{a n:Nat}(o:a+n<=I (Zw h part))(h2:(n:Int)<=XY (Zv h))(p:0<n):(Xt h part a n).ok:=by
 have g:ZJ (Zv h)=xk:=by
  cases j:ZJ<|Zv h;have:XY (Zv h)=0:=by unfold XY;rw[j];rfl
  omega;rfl
 have l:XY (Zv h)=(Zv h).cap- (Zv h).H- (Zv h).ab:=by unfold XY;rw[g];rfl
 have k:=XO.1 g;have q:(Zv h).H=I h.H:=rfl;have r:(Zv h).ab=I h.ab:=rfl;refine⟨d.base,d.cap,d.to,d.aa,?_,d.ab,d.ah,d.al,d.E,?_,d.gx,d.ma,d.ln,d.dj⟩;simp only[Xt,Zi3,Zj8,Zil];omega;intro w f;simp only[Xt]at f;obtain f|f:=ZhO.1 f;exact d.gm w f;exact(XN d part).1 w (Zio<|ZjC f)
def Z0H{ws:Z8}{a:Nat}(h:∀w∈ws,ZB w):∀n,∀w∈zr ws a n,ZB w
 |0=>h
 |n+1=>by
  intro w d;obtain d|d:=ZiS d;exact Z0H h n w d;subst d;unfold ZB;omega
def Z4c{h:Hp}(f:h.ok){part:Int}{a n:Nat}(g:0<n):(Rc h part a n).2.1.ok/\ZB (Rc h part a n).1:=by
 unfold Rc;split;exact⟨Hp.ej,by simp[ZB]⟩;split;exact⟨Hp.ej,by simp[ZB]⟩;rename_i g1 g2;have j:=XN f part;refine⟨Zbx (Mc f Z0 Z0 g) Zgn ?_,Og⟩;intro w d;obtain d|d:=ZiS d;exact Z0H j.1 _ w d;subst d;exact Og
def yB{h:Hp}(a:h.ok){w:Int}(j:ZB w):(fwd h w).2.1.ok/\ZB (fwd h w).1:=by
 unfold fwd;split;exact⟨Hp.ej,by simp[ZB]⟩;split;exact⟨a,by simp[ZB]⟩;split;exact⟨Hp.ej,by simp[ZB]⟩;split;exact⟨Hp.ej,by simp[ZB]⟩;split;exact⟨a,j⟩;split;refine⟨a,?_⟩;generalize (Yh (Zv h) (adr w).1).2.1.toNat=k;have g:=(XN a (Yh (Zv h) (adr w).1).1).1;generalize Zw h (Yh (Zv h) (adr w).1).1=d at*;by_cases f:k<I d;have e:d.getD k 0=d[k]:=by simp[List.getD,f]
 simp only[e];exact g _<|ZhE f;have e:d.getD k 0=0:=by simp[List.getD,f]
 simp only[e];unfold ZB;omega;split;exact⟨Hp.ej,by simp[ZB]⟩;exact Z4c a Z0
def Z4t{x:Rw}(hx:x.ok):(Te x).ok/\ZJ (Zv<|Te x)=xk/\(Te x).E.length<=5:=by
 have key:∀c,(Yx x<|Yz x c).ok/\ZJ (Zv<|Yx x<|Yz x c)=xk/\(Yx x<|Yz x c).E.length<=5:=λc=>by
  obtain⟨a,d,f⟩:=zh hx c;obtain⟨k1,g,_,_⟩:=GM (x:=x) a d;refine⟨k1,by rw[g];exact f,?_⟩;simp only[Yx,ZhN];exact a.rl
 unfold Te DS;split;exact key xw;exact key xk
end Vm
end
section
namespace Vm
open Go Go.Proofs Go.RowKit
section
def J6:V->Value
 |.int k n=>.int k n
 |.bool b=>.bool b
 |_=>xy
def TL:V->Bool
 |.int _ _=>xk
 |.bool _=>xk
 |_=>xw
def TF:V->Value
 |.agg a=>.agg (a.map J6).toArray
 |x=>J6 x
def UB:V->Bool
 |.agg a=>a.all TL
 |x=>TL x
def Az:V->Value
 |.am l=>.tuple (l.map TF).toArray
 |x=>TF x
def yq:V->Bool
 |.am l=>l.all UB
 |x=>UB x
variable {w:Z3}{G:Z4}
def Z8S{x:V}(h:TL x=xk):Rd w G x<|J6 x:=by
 cases x<;>simp[TL]at h;exact .int _ _;exact .bool _
def Z8T{x:V}(h:UB x=xk):Rd w G x<|TF x:=by
 cases x with
 |agg d=>
  simp only[UB,Zhw]at h;refine .agg _ _ Z1 (λc a=> ?_) λi c a=> ?_;have:=h c a;cases c<;>simp[TL]at this<;>rfl;have f:=Z8S (w:=w) (G:=G)<|h c<|Zhq a;have:((d.map J6).toArray).getD i xy=J6 c:=by
   obtain⟨g,rfl⟩:=Zhj.1 a;simp[Array.getD,g]
  rw[this];exact f
 |int k n=>exact .int _ _
 |bool b=>exact .bool _
 |_=>simp[UB,TL]at h
def Z3v{x:V}{v:Ze}(h:TL x=xk)(r:Rd w G x v):v=J6 x:=by
 cases x<;>simp[TL]at h;cases r;rfl;cases r;rfl
def Ay{x:V}{v:Ze}(h:UB x=xk)(r:Rd w G x v):v=TF x:=by
 cases x with
 |agg a=>
  simp only[UB,Zhw]at h;cases r with
  |agg _ vs j _ l=>
   simp only[TF,Value.agg.injEq];apply ZjR;simpa using j;intro i f o;have d:i<I a:=Z0;have g:a[i]?=J a[i]:=Zhi d;have:=Z3v (h _<|ZhE d)<|l i _ g;simp[Array.getD,f]at this;simpa using this
 |int k n=>cases r;rfl
 |bool b=>cases r;rfl
 |_=>simp[UB,TL]at h
def Gm{x:V}{v:Ze}(h:yq x=xk)(r:Rd w G x v):v=Az x:=by
 cases x with
 |am a=>
  simp only[yq,Zhw]at h;cases r with
  |am _ vs j l=>
   simp only[Az,Value.tuple.injEq];apply ZjR;simpa using j;intro i f o;have d:i<I a:=Z0;have g:a[i]?=J a[i]:=Zhi d;have:=Ay (h _<|ZhE d)<|l i _ g;simp[Array.getD,f]at this;simpa using this
 |agg a=>exact Ay (x:=.agg a) h r
 |int k n=>cases r;rfl
 |bool b=>cases r;rfl
 |_=>simp[yq,UB,TL]at h
def TC{P:Z6}{f:Zp}{fr:Bool}{args:Zr}{r:V}(h:VC P f fr args r)(a:args.all UB=xk)(k:yq r=xk)(w:Z3):
  Calls P f (args.map TF).toArray w λe g=>e=.returned (Az r)/\Below (xz<|xj w) w g:=by
 simp only[Zhw]at a;refine ZjX (h.2 w (λ_=>False) _ Z1 Z1 ?_) ?_;intro i x n;obtain⟨d,rfl⟩:=Zhj.1 n;have:((args.map TF).toArray).getD i xy=TF args[i]:=by simp[Array.getD,d]
 rw[this];exact Z8T<|a _<|ZhE d;rintro e g ⟨v,rfl,j,l⟩;exact⟨by rw[Gm k l],j⟩
def TR(l:Ly):Value:=.agg #[.int .u64 l.base,.int .i64 l.cap,.int .i64 l.to,.int .i64 l.H,.int .i64 l.ab,.int .i64 l.ah,.int .i64 l.al]
def Z9t{l:Ly}(a:l.au)(w:Z3):Calls xP 42 #[TR l] w λe d=>e=.returned (.bool<|ZJ l)/\Below (xz<|xj w) w d:=
 TC (LR a) rfl rfl w
def Z9v{l:Ly}(a:l.au)(w:Z3):Calls xP 62 #[TR l] w λe d=>e=.returned (.int .i64<|XY l)/\Below (xz<|xj w) w d:=
 TC (Z9w a) rfl rfl w
def A8{l:Ly}(a:l.au)(part at_:Int)(w:Z3):Calls xP 23 #[TR l,.agg #[.int .i64 part,.int .i64 at_]] w λe d=>e=.returned (.tuple #[.int .u64 (Y2 l part at_).1,.int .i64 (Y2 l part at_).2])/\Below (xz<|xj w) w d:=
 TC (Fx a) rfl rfl w
def Z3P{l:Ly}(f:l.au){a:Int}(d:ZB a)(w:Z3):Calls xP 59 #[TR l,.int .u64 a] w λe g=>e=.returned (.tuple #[.agg #[.int .i64 (Yh l a).1,.int .i64 (Yh l a).2.1],.int .i64 (Yh l a).2.2])/\Below (xz<|xj w) w g:=
 TC (Z3R f d) rfl rfl w
def SZ{x:Int}(hx:ZB x)(w:Z3):Calls xP 56 #[.int .u64 x] w λe a=>e=.returned (.tuple #[.int .u64 (adr x).1,.int .i64 (adr x).2])/\Below (xz<|xj w) w a:=
 TC (Ko hx) rfl rfl w
def Of{x:Int}(hx:ZB x)(w:Z3):Calls xP 25 #[.int .u64 x] w λe a=>e=.returned (.tuple #[.int .u64 (Xq x).1,.int .i64 (Xq x).2])/\Below (xz<|xj w) w a:=
 TC (Z8z hx) rfl rfl w
def Ka{x:Int}(hx:ZB x)(w:Z3):Calls xP 61 #[.int .u64 x] w λe a=>e=.returned (.tuple #[.agg #[.int .i64 (ZQ x).1,.int .i64 (ZQ x).2.1],.int .i64 (ZQ x).2.2])/\Below (xz<|xj w) w a:=
 TC (Z00 hx) rfl rfl w
def zA{h:Hp}{x:Z5}(g:∀b,G b->b<xz (xj w))(d:∀j,j<5->Rd w G (.sl<|(Zu h j).map vu) (x j)):
  Calls xP 24 #[ZC h x] w λe f=>e=.returned (TR<|Zv h)/\Below (xz<|xj w) w f:=by
 refine ZjX ((EG (h:=h)).2 w G _ g rfl ?_) ?_;intro i y a
 match i,a with
 |0,a=>
  cases a;refine .agg _ _ rfl (by simp[V.one]) ?_;intro i y a
  match i,a with
  |0,a=>cases a;exact .int _ _
  |1,a=>cases a;exact .int _ _
  |2,a=>cases a;exact .int _ _
  |3,a=>cases a;exact .bool _
  |4,a=>cases a;exact .int _ _
  |5,a=>cases a;exact d 0 Z0
  |6,a=>cases a;exact d 1 Z0
  |7,a=>cases a;exact d 2 Z0
  |8,a=>cases a;exact d 3 Z0
  |9,a=>cases a;exact d 4 Z0
 rintro e f ⟨v,rfl,k,l⟩;exact⟨by rw[Gm Zhb l];rfl,k⟩
end
end Vm
end
section
namespace Vm
open Go Go.Proofs Go.RowKit
structure Now (B:Nat) (w:World) (b:Nat) (h:Hp) (x:Nat->Value):Prop where
 blk:w.heap[b]?=J (.cells #[.int .u64 h.base,.int .i64 h.cap,.int .i64 h.to,.bool h.Y,.int .i64 h.aa,x 0,x 1,x 2,x 3,x 4] 134 (0,0))
 own:HOwn B w h x
 al:∀j,j<5->∀c,(x j).ownBlock=J c->c≠b
 new:B<=b
def SL(h:Hp)(part:Int)(a n:Nat):Int:=(Xq (Y2 (Zv<|Xt h part a n) 1<|I h.H).1).1
def Z0P(B:Nat)(w:World)(b:Nat)(h:Hp)(p a n:Nat)(e:Ending)(w':World):Prop:=
 ∃d,e=.returned (.int .u64<|SL h (p+1) a n)/\Below B w w'/\Now B w' b (Xn (Xt h (p+1) a n) (p+1)<|(zr (Zu h p) a n).set a<|SL h (p+1) a n) d
def ZbJ{P}w{o:Oper}{a K Q}s t
  (d:o.op=.call {callee:=.builtin .clear,args:=#[s],argTypes:=#[t]}) vs (g:a.eval s=vs)
  w' (f:(Builtin.clear_ #[t] o.type #[vs]).run P w=.ok (.tuple #[]) w') (h:K (a.put o.dst<|.tuple #[]) w'):o.wp P a w K Q:=by
 unfold Oper.wp execOp;simp[d,resolve,invoke,builtin,g,f];exact h
def ZbG{P}w{ops rest o a Q}(d:o.guard=U)s t
  (f:o.op=.call {callee:=.builtin .clear,args:=#[s],argTypes:=#[t]}) vs (j:a.eval s=vs)
  w' (g:(Builtin.clear_ #[t] o.type #[vs]).run P w=.ok (.tuple #[]) w') (h:wpList P ops Q rest (a.put o.dst<|.tuple #[]) w'):wpList P ops Q (o::rest) a w:=
 wpList_plain d λ_ k=>ZbJ w s t f vs j w' g Zgm
def Pq{b c}(hc:c≠b):∀vs o (w:World),(w.setCells b o vs).heap[c]?=w.heap[c]?
 | [],_,_=>rfl
 |v::r,o,w=>by
  show((w.setCell ⟨b,o,U⟩ v).setCells b _ r).heap[c]?=_;rw[Pq hc r];exact ZhD _ _ _ _ hc
def Pr b:∀vs o (w:World),xz (xj<|w.setCells b o vs)=xz (xj w)
 | [],_,_=>rfl
 |v::r,o,w=>by
  show xz (xj<|(w.setCell ⟨b,o,U⟩ v).setCells b _ r)=_;rw[Pr b r];simp
def Pn{B b}(d:B<=b):∀vs o a w,Below B a w->Below B a (w.setCells b o vs)
 | [],_,_,_,h=>h
 |v::r,o,a,w,h=>Pn d r _ a _<|h.setCell d _
def MW{B g len cap L}a:∀n k (w:World),a+k+n<=len->w.ownsRow B 24 1 (.slice (J ⟨g,0,U⟩) len cap) len (Ye .u64<|zr L a k)->
  (w.setCells g (a+k)<|List.replicate n<|.int .u64 0).ownsRow B 24 1 (.slice (J ⟨g,0,U⟩) len cap) len (Ye .u64<|zr L a<|k+n)
 |0,k,w,_,h=>h
 |n+1,k,w,j,h=>by
  have d:=(h.stored (a+k)<|.int .u64 0).1;have f:(Ye .u64<|zr L a k).set (a+k) (.int .u64 0)=Ye .u64 (zr L a<|k+1):=by rw[zr,Lj]
  rw[f]at d;have:=MW a n _ _ Z0 d;rw[show k+1+n=k+(n+1)by omega]at this;exact this
def Z3i(w:World)(B b:Nat)(h:Hp)(x:Nat->Value)(q:Now B w b h x)(hB:B<=xz (xj w))(hh:h.ok)(p a n:Nat)(hp:p=2\/p=3)(S:0<n)(hn:n<=1000)(f3:(n:Int)<=XY (Zv h))
  (g cap:Nat) (hx:x p=.slice (J ⟨g,0,U⟩) (I<|Zu h p) cap) (j0:a+n<=I (Zu h p)) (c':Nat):
  Calls xP 63 #[.pointer<|J ⟨b,0,U⟩,.slice (J ⟨g,a,U⟩) n c'] w (Z0P B w b h p a n):=by
 obtain⟨iU,e7,i7,i4,j1⟩:=info_parts Z5L;have k5:I (Zu h 0)<=1000000:=Jw hh 0;obtain⟨v1,w1,i3,f2,z,a9⟩:=Z9J (P:=xP) (w:=w) (T:=28) (tI:=3) (ty:=28) SX Z2k e7 i7 rfl rfl i4 j1 (q.own.own 0 Z0) hB S Z0 .i64;obtain⟨a0,q0,e0⟩:=Wc<|q.own.own 0 Z0;have b0:w.cell? ⟨b,5,U⟩=J (x 0):=by rw[Zhv _ _ _ _ _ _ q.blk];rfl
 have f0:w.frozen? ⟨b,5,U⟩=xw:=Yp q.blk;have c8:=Y7 q.blk;have F:J b≠(x 0).ownBlock:=λe=>q.al 0 Z0 b e.symm rfl;have c1:=(z.cell_far ⟨b,5,U⟩ c8 F).trans b0;have f1:=(z.frozen_far ⟨b,5,U⟩ c8 F).trans f0;rw[e0]at i3 b0 c1;have i0:I (Ye .u64<|Zu h 0)=I (Zu h 0):=by simp[Ye]
 obtain⟨_,k0⟩|⟨g0,q1,y,j9,b3,g6,j7,j8,b1,f5⟩:=f2.2;omega;subst j9;have k2:¬q1=I (Zu h 0):=Z0;have R:g0≠b:=by
  intro e;obtain r|⟨_,r⟩:=a9;exact F (by rw[<-r,e];rfl);have:=(r.lt g0 rfl).1;omega
 have e4:g≠b:=q.al p Z0 g (by rw[hx];rfl);have h7:g<xz (xj w):=((q.own.own p Z0).lt g (by rw[hx];rfl)).2;have e5:J g≠(x 0).ownBlock:=λe=>q.own.apart 0 p Z0 Z0 g e.symm (by rw[hx];rfl);have b4:g≠g0:=by
  intro e;obtain r|⟨_,r⟩:=a9;exact e5 (by rw[<-r,e];rfl);have:=(r.lt g0 rfl).1;omega
 obtain⟨w2,H⟩:∃w2,w2=w1.setCell ⟨b,5,U⟩ (.slice (J ⟨g0,0,U⟩) (I (Zu h 0)+n) q1):=⟨_,rfl⟩;have Q:w2.heap[g0]?=J (.cells y 24 (0,0)):=by rw[H,ZhD _ _ _ _ R];exact g6
 have h5:∀c,c≠b->c<xz (xj w)->J c≠(x 0).ownBlock->w2.heap[c]?=w.heap[c]? :=λc A h2 h3=>by
  rw[H,ZhD _ _ _ _ A,z.block c h2 h3]
 have N:w2.heap[b]?=J (.cells #[.int .u64 h.base,.int .i64 h.cap,.int .i64 h.to,.bool h.Y,.int .i64 h.aa,.slice (J ⟨g0,0,U⟩) (I (Zu h 0)+n) q1,x 1,x 2,x 3,x 4] 134 (0,0)):=by
  have:=(z.block b c8 F).trans q.blk;rw[H];simp[World.setCell,ZhW,this]
 have i8:w2.cell? ⟨b,5,U⟩=J (.slice (J ⟨g0,0,U⟩) (I (Zu h 0)+n) q1):=by rw[Zhv _ _ _ _ _ _ N];rfl
 have X:w2.ownsRow B 24 1 (x p) (I<|Zu h p)<|Ye .u64<|Zu h p:=XM (q.own.own p Z0) λc f=>by
  rw[hx]at f;cases f;exact h5 g e4 h7 e5
 obtain⟨M,a8⟩:∃M,M=Ye .u64 (((Zu h p).take<|a+n).drop a):=⟨_,rfl⟩;have O:I M=n:=by rw[a8];simp[Ye];omega
 have i5:∀j v,M[j]?=J v->w2.cell? ((⟨g,a,U⟩:Addr).add j)=J v:=by
  intro j v hv;have o:j<n:=by rw[<-O];exact(Zhj.1 hv).1
  rw[hx]at X;have:=X.cellAt (a+j) Z0;rw[ZiX,this];rw[a8]at hv;simp only[Ye]at hv⊢;rw[<-hv];simp[ZhV,show a+j<a+n by omega]
 obtain⟨w3,K⟩:∃w3,w3=w2.setRow g0 (y.toList.take (I<|Zu h 0)++(M++y.toList.drop (I (Zu h 0)+I M))).toArray:=⟨_,rfl⟩;have b2:I (Zu h 0)+I M<=y.size:=by rw[O];simp at b1;omega
 have i2:∀v∈M,v.oneCell'=xk:=by
  intro v hv;rw[a8]at hv;obtain⟨_,_,rfl⟩:=ZhC.1 hv;rfl
 have i1:I M=Nat.min n n:=by rw[O];simp
 have i6:(xP.info? 24).map (·.size)=J 1:=by rw[e7];simp[i4]
 have d:w3.heap[b]?=J (.cells #[.int .u64 h.base,.int .i64 h.cap,.int .i64 h.to,.bool h.Y,.int .i64 h.aa,.slice (J ⟨g0,0,U⟩) (I (Zu h 0)+n) q1,x 1,x 2,x 3,x 4] 134 (0,0)):=by
  rw[K,Zjf _ _ _ _ R.symm];exact N
 have h8:∀c,c≠b->c≠g0->c<xz (xj w)->J c≠(x 0).ownBlock->w3.heap[c]?=w.heap[c]? :=λc A h2 h3 h4=>by
  rw[K,Zjf _ _ _ _ h2];exact h5 c A h3 h4
 have k3:xz (xj w)<=xz (xj w3):=by
  have:=z.size;have e2:xz (xj w2)=xz (xj w1):=by rw[H];simp[World.setCell]
  have e3:xz (xj w3)=xz (xj w2):=by rw[K];simp[World.setRow]
  omega
 have j4:Zu (Xt h (p+1) a n) 0=Zu h 0++((Zu h p).take<|a+n).drop a:=by
  obtain rfl|rfl:=hp<;>rfl
 have h9:∀j,j≠0->Zu (Xt h (p+1) a n) j=Zu h j:=λj o=>by
  unfold Zu Xt;simp[o]
 have Y:∀j,j<5->w3.ownsRow B 24 1 (if j=0 then .slice (J ⟨g0,0,U⟩) (I (Zu h 0)+n) q1 else x j) (I<|Zu (Xt h (p+1) a n) j) (Ye .u64<|Zu (Xt h (p+1) a n) j):=by
  intro j o;by_cases e8:j=0;subst e8;rw[Zht rfl,j4];have hd:I (((Zu h p).take<|a+n).drop a)=n:=Zgn;refine⟨by simp[Ye],.inr ⟨g0,q1,(y.toList.take (I<|Zu h 0)++(M++y.toList.drop (I (Zu h 0)+I M))).toArray,?_,b3,?_,?_,j8,?_,?_⟩⟩;rw[Zi3,hd];rw[K];exact Zly _ _ _ _ _ _ Q;rw[Zi3,hd];exact j7;simp[O]at b1 b2⊢;omega;have ht:y.toList.take (I<|Zu h 0)=Ye .u64 (Zu h 0):=by
   have:=Zit (List.take<|I<|Zu h 0) f5;rw[List.take_take,ZkP Z0]at this;rw[this,List.take_left' i0]
  rw[Zi3,hd,ht];simp only[ZlA];rw[<-Zi7,List.take_left' (by simp[i0,O]),a8];simp[Ye];rw[Zhs e8,h9 j e8];have ho:=q.own.own j o
  exact XM ho λc f=>h8 c (q.al j o c f) (λe=>by
   obtain r|⟨_,r⟩:=a9;exact q.own.apart 0 j Z0 o c (by rw[<-r,e];rfl) f;have A:=(r.lt g0 rfl).1;have h2:=(ho.lt c f).2;omega) (ho.lt c f).2 (λe=>q.own.apart 0 j Z0 o c e.symm f)
 have g7:∀j,0<j->j<5->(x j).ownBlock≠J g0:=λj h0 o f=>by
  obtain r|⟨_,r⟩:=a9;exact q.own.apart 0 j h0 o g0 (by rw[<-r];rfl) f;have A:=(r.lt g0 rfl).1;have h2:=((q.own.own j o).lt g0 f).2;omega
 have j2:∀j,j<5->j≠p->(x j).ownBlock≠J g:=λj o F f=>by
  have h6:(x p).ownBlock=J g:=by rw[hx];rfl
  obtain A|A:=Zki F;exact q.own.apart j p A Z0 g f h6;exact q.own.apart p j A o g h6 f
 have g9:B<=g:=((q.own.own p Z0).lt g (by rw[hx];rfl)).1;have b5:=q.own.own p Z0;rw[hx]at b5;have Z:∀W:World,W.heap[g]?=w.heap[g]? ->W.ownsRow B 24 1 (.slice (J ⟨g,0,U⟩) (I<|Zu h p) cap) (I<|Zu h p) (Ye .u64<|Zu h p):=λW hW=>XM b5 λc f=>by
  cases f;exact hW
 have j5:I (Ye .u64<|Zu h p)=I (Zu h p):=by simp[Ye]
 have l:∀W:World,W.heap[g]?=w.heap[g]? ->(∀j,j<n->(W.cell? ⟨g,a+j,U⟩).isSome=xk)/\(∀j,j<n->W.frozen? ⟨g,a+j,U⟩=xw):=λW hW=>⟨λj o=>by
  rw[(Z W hW).cellAt (a+j) Z0];simp[j5];omega,λj o=>(Z W hW).frozenAt _⟩
 have g8:w3.heap[g]?=w.heap[g]? :=h8 g e4 b4 h7 e5;have HN:=Zhp q;have HO:=Zhp f2;have HG:=Zhp z;have f9:=Zhp H;have g3:=Zhp K;have f8:=Zhp Y;have d0:w3.cell? ⟨b,0,U⟩=J (Value.int .u64 h.base):=Zgv;have d1:w3.cell? ⟨b,1,U⟩=J (Value.int .i64 h.cap):=Zgv;have d2:w3.cell? ⟨b,2,U⟩=J (Value.int .i64 h.to):=Zgv;have d3:w3.cell? ⟨b,3,U⟩=J (Value.bool h.Y):=Zgv;have d4:w3.cell? ⟨b,4,U⟩=J (Value.int .i64 h.aa):=Zgv;have d5:w3.cell? ⟨b,5,U⟩=J (Value.slice (J ⟨g0,0,U⟩) (I (Zu h 0)+n) q1):=Zgv;have d6:w3.cell? ⟨b,6,U⟩=J (x 1):=Zgv;have d7:w3.cell? ⟨b,7,U⟩=J (x 2):=Zgv;have d8:w3.cell? ⟨b,8,U⟩=J (x 3):=Zgv;have d9:w3.cell? ⟨b,9,U⟩=J (x 4):=Zgv;have j6:(Xt h (p+1) a n).ok:=Mc hh (by obtain rfl|rfl:=hp<;>exact j0) f3 S;clear q f2 z H K Y;go_enter Fj,Try.ntmps63
 go_wp2_with (first
  |(at_builtin;refine Lib.wpList_append_run _ rfl _ _ 28 3 rfl _ _ rfl rfl _ _ i3 ?_)
  |(rw[<-f9.out];refine wpList_copy_own rfl _ _ 28 28 rfl 24 SX i6 g0 (I<|Zu h 0) n (q1- I (Zu h 0)) ⟨g,a,U⟩ n c' rfl rfl y 24 Q M i1 i5 b2 i2 ?_;rw[<-g3.out])
  |(go_at_call 24;refine(zA (h:=Xt h (p+1) a n) (x:=λj=>if j=0 then .slice (J ⟨g0,0,U⟩) (I (Zu h 0)+n) q1 else x j) (G:=λc=>B<=c/\c<xz (xj w3)) (λc f=>f.2)<|λj o=>Rq (f8.out j o) (λc A h2=>⟨A,h2⟩)).mono ?_;rintro e w4 ⟨rfl,g5⟩;have t:=Zhp g5;clear g5)
  |(go_at_call 23;refine(A8 j6.bd _ _ _).mono ?_;rintro e C ⟨rfl,a6⟩;have D:C.heap[g]?=w.heap[g]? :=(a6.block g (by have:=t.out.size;omega)).trans<|(t.out.block g<|by omega).trans g8;have k7:xz (xj w3)<=xz (xj C):=ZhU t.out.size a6.size;have a4:=Zhp a6;clear a6;obtain⟨w6,a3⟩:∃w6,w6=C.setCells g a (List.replicate n<|.int .u64 0):=⟨_,rfl⟩;have k8:xz (xj w6)=xz (xj C):=by {rw[a3];exact Pr _ _ _ _};have c6:w6.cell? ⟨g,a,U⟩=J (.int .u64 0):=by {rw[a3];have:=World.cell?_setCells_in g (List.replicate n<|Value.int .u64 0) a C (by simpa using(l C D).1) 0 (by simpa using S);simpa using this};have f6:w6.frozen? ⟨g,a,U⟩=xw:=by {rw[a3,World.frozen?_setCells];exact(l C D).2 0 S};have a5:=Zhp a3;clear a3)
  |(refine ZbG _ rfl _ 28 rfl _ rfl _ (Lib.run_clear_slice _ _ 24 _ (.int .u64 0) SX (jt e7 i7) rfl rfl g a n c' S (l C D).1 (l C D).2) ?_;rw[<-a5.out])
  |(go_at_call 25;refine(Of Z2q _).mono ?_;rintro e w7 ⟨rfl,a7⟩;have c7:=(a7.cell (p:=⟨g,a,U⟩) (by show g<xz (xj w6);omega)).trans c6;have f7:=(a7.frozen (p:=⟨g,a,U⟩) (by show g<xz (xj w6);omega)).trans f6;have b6:=Zhp a7;clear a7))
 go_ret
 have b7:Below B w w3:=by
  rw[g3.out,f9.out];exact Go.below_setRow (Below.setCell (p:=⟨b,5,U⟩) ((ZhH B w).grown HG.out hB<|λk hk=>((HN.out.own.own 0 Z0).lt k hk).1) HN.out.new _) b3 _
 have i9:B<=xz (xj w3):=Z0;have b8:Below B w C:=(b7.trans<|t.out.mono i9).trans<|a4.out.mono (by have:=t.out.size;omega);have b9:Below B w w6:=by rw[a5.out];exact Pn g9 _ _ _ _ b8
 have c0:Below B w w7:=b9.trans<|b6.out.mono Z0;have k6:=t.out.size;have k4:=a4.out.size;have g4:∀(c:Nat) (u:Value),c≠g->c<xz (xj w3)->(w7.setCell ⟨g,a,U⟩ u).heap[c]?=w3.heap[c]? :=λc u A h2=>by
  rw[ZhD _ _ _ _ A,b6.out.block c Z0,a5.out,Pq A,a4.out.block c Z0,t.out.block c h2]
 have D:C.heap[g]?=w.heap[g]? :=(a4.out.block g Z0).trans<|(t.out.block g Z0).trans g8;have a1:=MW (L:=Zu h p) a n 0 C Z0<|Z C D;have e6:C.setCells g (a+0) (List.replicate n<|.int .u64 0)=w6:=a5.out.symm;rw[e6,Zi5]at a1;have f4:=XM (w':=w7) a1 λc f=>by
  cases f;exact b6.out.block g Z0
 have a2:=(f4.stored a<|.int .u64<|SL h (p+1) a n).1;rw[<-Lj]at a2;refine⟨λj=>if j=0 then .slice (J ⟨g0,0,U⟩) (I (Zu h 0)+n) q1 else x j,rfl,c0.setCell g9 _,?_,⟨?_,?_⟩,?_,HN.out.new⟩;rw[g4 b _ (λe=>e4 e.symm) Z0,d];obtain rfl|rfl:=hp<;>rfl;intro j o;by_cases e9:j=p;subst e9;have r:Zu (Xn (Xt h (j+1) a n) (j+1)<|(zr (Zu h j) a n).set a<|SL h (j+1) a n) j=(zr (Zu h j) a n).set a (SL h (j+1) a n):=by
  obtain rfl|rfl:=hp<;>rfl
 rw[r,Zhs Z0,hx,Zjl,jX];exact a2;have r:Zu (Xn (Xt h (p+1) a n) (p+1)<|(zr (Zu h p) a n).set a<|SL h (p+1) a n) j=Zu (Xt h (p+1) a n) j:=by
  have:j=0\/j=1\/j=2\/j=3\/j=4:=Z0;obtain rfl|rfl:=hp<;>obtain rfl|rfl|rfl|rfl|rfl:=this<;>first|rfl|exact(e9 rfl).elim
 rw[r];have ho:=f8.out j o;refine XM ho λc f=>g4 c _ (λe=> ?_) (ho.lt c f).2;subst e;by_cases h0:j=0;rw[Zht h0]at f;cases f;exact b4 rfl;rw[Zhs h0]at f;exact j2 j o e9 f;intro i j j3 o c f;rw[Zhs (Z0:¬j=0)];by_cases h0:i=0;rw[Zht h0]at f;cases f;exact g7 j Z0 o;rw[Zhs h0]at f;exact HN.out.own.apart i j j3 o c f;intro j o c f;by_cases h0:j=0;rw[Zht h0]at f;cases f;exact R;rw[Zhs h0]at f;exact HN.out.al j o c f
end Vm
namespace Vm
open Go Go.Proofs Go.RowKit
def Z49(w:World)(B b:Nat)(h:Hp)(x:Nat->Value)(j:Now B w b h x)(o:h.ok)(p a:Nat)(q:p=2\/p=3)(g cap:Nat)
  (hx:x p=.slice (J ⟨g,0,U⟩) (I<|Zu h p) cap) (u:a< I (Zu h p)):
  Calls xP 60 #[.pointer<|J ⟨b,0,U⟩,.agg #[.int .i64<|(p:Int)+1,.int .i64 a]] w λe r=>e=.returned (.slice (J ⟨g,a,U⟩) (I (Zu h p)-a)<|cap-a)/\Below (xz<|xj w) w r:=by
 have f:=Y7 j.blk;have y:=Jw o p;have l:I (Zu h p)<=cap:=by
  have:=(j.own.own p Z0).2;rw[hx]at this;obtain⟨k,_⟩|⟨_,_,_,k,_,_,n,_⟩:=this;cases k;cases k;exact n
 obtain rfl|rfl:=q
 .have c7:(w.alloc<|.cells #[.int .i64 3,.int .i64 a] 67).cell? ⟨b,7,U⟩=J (.slice (J ⟨g,0,U⟩) (I<|Zu h 2) cap):=by
   rw[ZiQ _ _ _ f,Zhv _ _ _ _ _ _ j.blk,<-hx];rfl
  have d:(I (Zu h 2):Int)<=9223372036854775807:=Z0;go_enter A2,Try.ntmps60;go_wp2;go_region;go_wp2;go_ret
  exact⟨rfl,((ZhH _ _).alloc (Zhm _) _).drew⟩
 .have t:(w.alloc<|.cells #[.int .i64 4,.int .i64 a] 67).cell? ⟨b,8,U⟩=J (.slice (J ⟨g,0,U⟩) (I<|Zu h 3) cap):=by
   rw[ZiQ _ _ _ f,Zhv _ _ _ _ _ _ j.blk,<-hx];rfl
  have d:(I (Zu h 3):Int)<=9223372036854775807:=Z0;go_enter A2,Try.ntmps60;go_wp2;go_region;go_wp2;go_ret
  exact⟨rfl,((ZhH _ _).alloc (Zhm _) _).drew⟩
end Vm
namespace Vm
open Go Go.Proofs Go.RowKit
def FwdPost(w:World)(r:Int×Hp×Int)(e:Ending)(w':World):Prop:=
 ∃x,e=.returned (.tuple #[.int .u64 r.1,ZC r.2.1 x,.int .i64 r.2.2])/\Below (xz<|xj w) w w'/\HOwn (xz<|xj w) w' r.2.1 x
def Lq{B' B}{w:World}{e n v l}(h:w.ownsRow B' e 1 v n l)(k:∀c,B'<=c->c<xz (xj w)->B<=c/\c<xz (xj w)):w.ownsRow B e 1 v n l:=by
 refine⟨h.1,?_⟩;obtain d|⟨g,cap,a,j,o,f,r⟩:=h.2;exact .inl d;exact .inr ⟨g,cap,a,j,Zgl,f,r⟩
def jW w' G:∀j,j<5->Rd w' G (.sl<|(Zu Hp.zero j).map vu) (.slice U 0 0):=λj a=>by
 have:Zu Hp.zero j=[]:=by
  unfold Zu Hp.zero;split;rfl;split;rfl;split;rfl;split<;>rfl
 rw[this];exact .nil _ _ ZgC
def Ep B w':HOwn B w' Hp.zero (λ_=>.slice U 0 0):=⟨λj d=>by
 have:Zu Hp.zero j=[]:=by
  unfold Zu Hp.zero;split;rfl;split;rfl;split;rfl;split<;>rfl
 rw[this];exact ZiK _ _ _ _,λi j _ _ c a=>by cases a⟩
def Eo(w:World)(o:Obj):((w.alloc o).alloc<|.cells #[.int .u64 0,.int .i64 0,.int .i64 0,.bool xw,.int .i64 0,.slice U 0 0,.slice U 0 0,.slice U 0 0,.slice U 0 0,.slice U 0 0] 30).heap[xz (xj w)+1]?=J (.cells ZX 30 (0,0)):=by
 have e:xz (xj<|w.alloc o)=xz (xj w)+1:=Z1;have:=ZhT (w.alloc o)<|.cells ZX 30;rw[e]at this;exact this
end Vm
namespace Vm
open Go Go.Proofs Go.RowKit
def Eg(h:Hp)(x:Nat->Value):Obj:=.cells #[.int .u64 h.base,.int .i64 h.cap,.int .i64 h.to,.bool h.Y,.int .i64 h.aa,x 0,x 1,x 2,x 3,x 4] 134
def Z75{B a h x}(f:HOwn B a h x)(k:B<=xz (xj a)):Now B (a.alloc<|Eg h x) (xz<|xj a) h x:=by
 refine⟨ZhT a _,⟨λj d=> ?_,f.apart⟩,λj d c g=> ?_,k⟩;exact XM (f.own j d) λc g=>Zhz _ _ _ ((f.own j d).lt c g).2;have:=((f.own j d).lt c g).2;omega
def Gp(W:World):W.drew.heap=W.heap:=rfl
def Z8C{w2:World}{b c:Nat}(hc:c≠b){v0 v1 a d v4 f v6 g h j:Value}:(Tp w2 b v0 v1 a d v4 f v6 g h j).drew.heap[c]?=w2.heap[c]? :=by
 rw[Gp];exact UM hc
def Cr{w:World}{B n q e z a v xs}(h:w.ownsRow B e z v n xs)(j:v=.slice a n q)(l:0<n):∃g,a=J ⟨g,0,U⟩:=by
 subst j;obtain⟨_,k⟩|⟨g,cap,d,f,_⟩:=h.2;omega;cases f;exact⟨g,rfl⟩
def Z7K{w:World}{B n q e z a xs}(h:w.ownsRow B e z (.slice a n q) n xs)(o:0<n):n<=q/\q<=maxLen:=by
 obtain⟨_,l⟩|⟨g,cap,d,k,_,_,f,j,_⟩:=h.2;omega;cases k;exact⟨f,j⟩
def Z7L{w:World}{B g cap l}(h:w.ownsRow B 24 1 (.slice (J ⟨g,0,U⟩) (I l) cap) (I l)<|Ye .u64 l){i v}(a:l[i]?=J v):w.cell? ⟨g,i,U⟩=J (.int .u64 v):=by
 let⟨d,f⟩:=Zhj.1 a;rw[h.cellAt i Z0];simp[Ye,a]
abbrev UX:=List<|Nat×Array Value×TypeId
structure Kp (w W:World) (L:UX):Prop where
 cm:Below (xz<|xj w) w W
 row:∀x∈L,W.heap[x.1]?=J (.cells x.2.1 x.2.2 (0,0))
def Kf(W:World):UX->Prop
 | []=>True
 |x::L=>((∀j,W.cell? ⟨x.1,j,U⟩=x.2.1[j]?)/\∀j,W.frozen? ⟨x.1,j,U⟩=xw)/\Kf W L
def Kp.below{w W W':World}{L:UX}(k:Kp w W L)(a:Below (xz<|xj W) W W'):Kp w W' L:=⟨k.cm.trans<|a.mono k.cm.size,λx d=>(a.block _<|Y7<|k.row x d).trans<|k.row x d⟩
def Kp.alloc{w W:World}{L:UX}(k:Kp w W L)(cs:Array Value)(T:TypeId){n:Nat}(d:xz (xj W)=n:=by first|rfl):Kp w (W.alloc<|.cells cs T)<|(n,cs,T)::L:=by
 subst d;refine⟨k.cm.alloc k.cm.size _,λx a=> ?_⟩;obtain rfl|a:=ZhK.1 a;exact ZhT W _;rw[Zhz _ _ _<|Y7<|k.row x a];exact k.row x a
def Kp.F{w W:World}:∀ {L:UX},Kp w W L->Kf W L
 | [],_=>trivial
 |x::L,k=>⟨⟨λj=>Zhv _ _ _ _ _ _<|k.row x<|.head _,λj=>Yp<|k.row x<|.head _⟩,Kp.F ⟨k.cm,λy a=>k.row y<|.tail _ a⟩⟩
def Now.below{B b:Nat}{W W':World}{h:Hp}{x:Nat->Value}(s:Now B W b h x)(a:Below (xz<|xj W) W W'):Now B W' b h x:=
 ⟨(a.block _<|Y7 s.blk).trans s.blk,⟨λj d=>XM (s.own.own j d) λc f=>a.block _ ((s.own.own j d).lt c f).2,s.own.apart⟩,s.al,s.new⟩
abbrev UR(h:Hp)(a:Nat->Option Addr)(q:Nat->Nat):Nat->Value:=λj=>.slice (a j) (I<|Zu h j)<|q j
def HOwn.nd{B:Nat}{w:World}{h:Hp}{x:Nat->Value}(o:HOwn B w h x):∃a q,ZC h x=ZC h (UR h a q)/\HOwn B w h (UR h a q):=by
 have:∀j,∃p:Option Addr×Nat,j<5->x j=.slice p.1 (I<|Zu h j) p.2:=λj=>by
  by_cases d:j<5;obtain⟨a,q,e⟩:=Wc<|o.own j d;exact⟨(a,q),λ_=>e⟩;exact⟨(U,0),λh=>absurd h d⟩
 obtain⟨f,e⟩:=ZjJ this;refine⟨λj=>(f j).1,λj=>(f j).2,?_,λj d=> ?_,λi j g d c k=> ?_⟩;simp only[ZC,e 0 Z0,e 1 Z0,e 2 Z0,e 3 Z0,e 4 Z0];have:=o.own j d;rwa[e j d]at this;have:=o.apart i j g d c;rw[e i Z0,e j d]at this;exact this k
def ZbT{w W:World}{L:UX}(k:Kp w W L){rb:Nat}(a:xz (xj w)<=rb){r:Int×Hp×Int}{c:Int}(e:r=(0,Hp.zero,c)):
  FwdPost w r (.returned<|.tuple #[.int .u64 0,.agg ZX,.int .i64 r.2.2]) (Tp W rb (.int .u64 0) (.int .i64 0) (.int .i64 0) (.bool xw) (.int .i64 0) (.slice U 0 0) (.slice U 0 0) (.slice U 0 0) (.slice U 0 0)<|.slice U 0 0):=by
 subst e;exact⟨λ_=>.slice U 0 0,by simp[ZC,Hp.zero,ZX],Vq k.cm a,Ep _ _⟩
def FwdPost.drew{w W:World}{r:Int×Hp×Int}{e:Ending}(p:FwdPost w r e W):FwdPost w r e W.drew:=by
 obtain⟨x,d,f,a⟩:=p;exact⟨x,d,f.drew,⟨λj g=>XM (a.own j g) λc h=>rfl,a.apart⟩⟩
def Hw{w W:World}{rb B:Nat}{L:UX}(k:Kp w W L)(f:xz (xj w)<=rb)(p:rb<B){h:Hp}{x:Nat->Value}(o:HOwn B W h x){r:Int×Hp×Int}(c:Int)(e:r=(c,h,0)):
  FwdPost w r (.returned<|.tuple #[.int .u64 c,ZC h x,.int .i64 0]) (RT W rb h x):=by
 subst e;refine⟨x,rfl,Vq k.cm f,λj l=> ?_,o.apart⟩;have a:=o.own j l;exact Lq (XM a λc g=>UM (by have:=(a.lt c g).1;omega)) λc n d=>⟨Z0,d⟩
def EL(w:World)(G:Nat->Prop)(n:∀b,G b->b<xz (xj w))(h:Hp)(p:h.ok)(d:Nat->Value)(t:∀j,j<5->Rd w G (.sl<|(Zu h j).map vu) (d j)):
  Calls xP 19 #[ZC h d] w λe g=>∃a q,e=.returned (ZC h<|UR h a q)/\Below (xz<|xj w) w g/\HOwn (xz<|xj w) g h (UR h a q):=
 (EM w G n h p d t).mono λe g ⟨x,k,o,r⟩=>by
  obtain⟨a,q,l,f⟩:=r.nd;exact⟨a,q,by rw[k,l],o,f⟩
def Z4e{h:Hp}(P:h.ok){v:Int}(S:ZB v):
  (ZJ (Zv h)=xw/\fwd h v=(0,Hp.zero,1))\/(ZJ (Zv h)=xk/\¬v=0/\¬(adr v).2=0/\fwd h v=(0,Hp.zero,3))\/(ZJ (Zv h)=xk/\¬v=0/\(adr v).2=0/\¬(Yh (Zv h) (adr v).1).2.2=0/\fwd h v=(0,Hp.zero,6))\/
  (ZJ (Zv h)=xk/\v=0/\fwd h v=(0,h,0))\/(∃(part:Int) (at_:Nat),ZJ (Zv h)=xk/\¬v=0/\(adr v).2=0/\Yh (Zv h) (adr v).1=(part,(at_:Int),0)/\(part=1\/part=2)/\fwd h v=(v,h,0))\/
  ∃(j at_:Nat) (f:Int),ZJ (Zv h)=xk/\¬v=0/\(adr v).2=0/\Yh (Zv h) (adr v).1=((j:Int)+1,(at_:Int),0)/\(j=2\/j=3)/\(Zu h j)[at_]?=J f/\ZB f/\
   (((adr f).2=0/\fwd h v=(f,h,0))\/(¬(adr f).2=0/\∃(sz:Nat) (pt x:Int),ZQ f=((sz:Int),pt,x)/\sz<=255/\
     ((¬x=0/\fwd h v=(0,Hp.zero,3))\/(x=0/\I (Zu h j)<at_+(sz+1)/\fwd h v=(0,Hp.zero,2))\/
       (x=0/\at_+(sz+1)<=I (Zu h j)/\XY (Zv h)< ((sz+1:Nat):Int)/\fwd h v=(0,Hp.zero,7))\/
       (x=0/\at_+(sz+1)<=I (Zu h j)/\¬XY (Zv h)< ((sz+1:Nat):Int)/\
        fwd h v=(SL h ((j:Int)+1) at_<|sz+1,Xn (Xt h ((j:Int)+1) at_<|sz+1) ((j:Int)+1)<|(zr (Zu h j) at_<|sz+1).set at_<|SL h ((j:Int)+1) at_<|sz+1,0))))):=by
 cases p:ZJ<|Zv h;exact .inl ⟨rfl,by simp[fwd,p]⟩;by_cases a:v=0;exact .inr<|.inr<|.inr<|.inl ⟨rfl,a,by simp[fwd,p,a]⟩;by_cases o:(adr v).2=0;case neg=>exact .inr<|.inl ⟨rfl,a,o,by simp[fwd,p,a,o]⟩
 by_cases D:(Yh (Zv h) (adr v).1).2.2=0;case neg=>exact .inr<|.inr<|.inl ⟨rfl,a,o,D,by simp[fwd,p,a,o,D]⟩
 obtain⟨_,L,M,N,G,_⟩:=Z3Q D;rw[Tt ⟨L,M⟩]at G;obtain⟨k,K⟩:=Zhy N;have t:Yh (Zv h) (adr v).1=((Yh (Zv h) (adr v).1).1,(k:Int),0):=by rw[<-K,<-D]
 rw[K]at G;generalize (Yh (Zv h) (adr v).1).1=part at*;by_cases u:part<3;exact .inr<|.inr<|.inr<|.inr<|.inl ⟨part,k,rfl,a,o,t,Z0,by simp[fwd,p,a,o,t,u]⟩;obtain⟨j,Q,rfl,l⟩:∃j:Nat,(j=2\/j=3)/\(j:Int)+1=part/\Zw h part=Zu h j:=by
  have:part=3\/part=4:=Z0;obtain rfl|rfl:=this;exact⟨2,.inl rfl,rfl,rfl⟩;exact⟨3,.inr rfl,rfl,rfl⟩
 have r:=(XN P<|(j:Int)+1).1;rw[l]at G r;have y:k< I (Zu h j):=Z0;have C:(Zu h j)[k]?=J (Zu h j)[k]:=Zhi y;replace r:=r _<|ZhE y;generalize (Zu h j)[k]=f at*;have z:(Zu h j).getD k 0=f:=by simp[List.getD,C]
 refine .inr<|.inr<|.inr<|.inr<|.inr ⟨j,k,f,rfl,a,o,t,Q,C,r,?_⟩;by_cases g:(adr f).2=0;exact .inl ⟨g,by simp[fwd,p,a,o,t,u,l,-List.getD_eq_getElem?_getD,z,g]⟩;refine .inr ⟨g,?_⟩;by_cases d:(ZQ f).2.2=0;have R:=Yy.1<|E3 (w:=f) d;obtain⟨n,F⟩:=Zhy R.1;have H:ZQ f=((n:Int),(ZQ f).2.1,(ZQ f).2.2):=by rw[<-F]
 refine⟨n,_,_,H,Z0,.inr ?_⟩;by_cases q:I (Zu h j)<k+(n+1);exact .inl ⟨d,q,by simp[fwd,Rc,p,a,o,t,u,l,-List.getD_eq_getElem?_getD,z,g,d,F,q]⟩;by_cases A:XY (Zv h)< ((n+1:Nat):Int);exact .inr<|.inl ⟨d,Z0,A,by simp[fwd,Rc,p,a,o,t,u,l,-List.getD_eq_getElem?_getD,z,g,d,F,q];omega⟩;refine .inr<|.inr ⟨d,Z0,A,?_⟩;have B:¬XY (Zv h)< (n:Int)+1:=Z0;simp only[fwd,p,a,o,t,Zij,Zig,Zka,ZlG,Zl8];simp[-List.getD_eq_getElem?_getD,u,l,z,g,F,d,Rc,q,B];exact⟨rfl,rfl⟩;have O:ZQ f=(((0:Nat):Int),(ZQ f).2.1,(ZQ f).2.2):=by
  unfold ZQ at d⊢;split;rename_i c;rw[Zht c]at d;exact absurd rfl d;rfl
 exact⟨0,_,_,O,Z0,.inl ⟨d,by simp[fwd,p,a,o,t,u,l,-List.getD_eq_getElem?_getD,z,g,d]⟩⟩
abbrev FwQ{w W:World}{L:UX}{B b c d:Nat}{h:Hp}{x:Nat->Value}{r s:Array Value}{T S:TypeId}(_:Hid<|Kp w W L)(_:Hid<|Now B W b h x)(_:(c,r,T)∈L)(_:(d,s,S)∈L)(W:World):Prop:=
 (∀j,W.cell? ⟨c,j,U⟩=r[j]?)/\(∀j,W.cell? ⟨d,j,U⟩=s[j]?)/\Kp w W L/\Now B W b h x
theorem FwQ.of{w W V:World}{L:UX}{B b c d:Nat}{h:Hp}{x:Nat->Value}{r s:Array Value}{T S:TypeId}{k:Hid (Kp w W L)}{n:Hid (Now B W b h x)}{m:(c,r,T)∈L}{m':(d,s,S)∈L}(e:Kp w V L)(o:Now B V b h x):FwQ k n m m' V:=
 ⟨λj=>Zhv _ _ _ _ _ _<|e.row _ m,λj=>Zhv _ _ _ _ _ _<|e.row _ m',e,o⟩
def Kp.drew{w W:World}{L:UX}(k:Kp w W L):Kp w W.drew L:=⟨k.cm.drew,k.row⟩
def Now.drew{B b:Nat}{W:World}{h:Hp}{x:Nat->Value}(s:Now B W b h x):Now B W.drew b h x:=⟨s.blk,⟨λj a=>XM (s.own.own j a) λc d=>rfl,s.own.apart⟩,s.al,s.new⟩
def Kp.sub{w W W':World}{L:UX}(k:Kp w W L){B c:Nat}{r:Array Value}{T:TypeId}(a:Below B W W')(d:xz (xj w)<=B)(m:(c,r,T)∈L)(hc:c<B):Kp w W' [(c,r,T)]:=
 ⟨k.cm.trans<|a.mono d,λx f=>by
  cases Zim.1 f;exact(a.block _ hc).trans (k.row _ m)⟩
def Now.nd{B b:Nat}{W:World}{h:Hp}{x:Nat->Value}(s:Now B W b h x):∃a q,Now B W b h<|UR h a q:=by
 obtain⟨a,q,e,o⟩:=s.own.nd;simp only[ZC,Value.agg.injEq]at e;have d:=s.blk;rw[e]at d;refine⟨a,q,d,o,λj f c g=> ?_,s.new⟩;simp at e;have:=s.al j f c
 match j,f with
 |0,_|1,_|2,_|3,_|4,_=>simp_all
def qH{w:World}{B g cap:Nat}{l:List Int}{a:Option Addr}(h:w.ownsRow B 24 1 (.slice a (I l) cap) (I l)<|Ye .u64 l)(d:a=J ⟨g,0,U⟩){i:Nat}{v:Int}(f:l[i]?=J v):w.cell? ⟨g,i,U⟩=J (.int .u64 v):=by
 subst d;exact Z7L h f
def ED(w:World)(G:Nat->Prop)(hG:∀b,G b->b<xz (xj w))(h:Hp)(hh:h.ok)(f:Nat->Value)(hs:∀j,j<5->Rd w G (.sl<|(Zu h j).map vu) (f j))(v:Int)(hv:ZB v):
  Calls xP 41 #[ZC h f,.int .u64 v] w (FwdPost w<|fwd h v):=by
 have HS:=Zhp hs;have K:=Zhp hh;have HW:=Z4e hh hv;clear hs hh;have KZ:=Zhp<|((Kp.mk (ZhH (xz<|xj w) w) (L:=[]) nofun).alloc #[.int .u64 h.base,.int .i64 h.cap,.int .i64 h.to,.bool h.Y,.int .i64 h.aa,f 0,f 1,f 2,f 3,f 4] 30).alloc ZX 30 (n:=xz (xj w)+1) Z1;unfold ZC;go_enter Fb,Try.ntmps41;obtain⟨hr,d⟩|⟨hr,a1,h1,d⟩|⟨hr,a1,h1,h2,d⟩|⟨hr,rfl,d⟩|⟨part,at_,hr,a1,h1,hf,rfl|rfl,d⟩|⟨j,at_,wd,hr,a1,h1,hf,O,u,b0,H⟩:=HW
 rotate_right
 have h5:j<5:=Z0;have hp:(j:Int)+1=3\/(j:Int)+1=4:=by clear H;omega
 have b4:=(Zhj.1 u).1;have e5:=Jw K.out j;obtain⟨m,hm⟩:∃m,I (Zu h j)-at_=m:=⟨_,rfl⟩;have e3:0<m:=Z0;have e4:(0:Int)< (m:Int):=Z0;have hz:at_+0=at_:=rfl;have e6:m<=1000000:=Z0;have e2:at_+m=I (Zu h j):=Z0;generalize b5:(j:Int)+1=part at hp hf;obtain⟨H,d⟩|⟨H,sz,pt,er,c0,g3,⟨Z,d⟩|⟨Z,t,d⟩|⟨Z,t,a8,d⟩|⟨Z,t,a8,d⟩⟩:=H;iterate 5 (obtain rfl|rfl:=hp;rotate_left 2)
 all_goals
  go_wp2_with (first
   |(go_at_call 60;obtain⟨g,hg⟩:=Cr (N6.out.own.own j h5) rfl (by omega);have a0:=Z49 _ _ _ h _ N6.out K.out j at_ O g (q j) (by simp[UR,hg]) b4;rw[b5,hm]at a0;refine a0.mono ?_;clear a0;rintro e w7 ⟨rfl,B⟩;have e1:=Z7K (N6.out.own.own j h5) (by omega);obtain⟨qm,b6⟩:∃qm,q j-at_=qm:=⟨_,rfl⟩;rw[b6];have k7:=K6.out.below B;have n:=N6.out.below B;have b9:=B.size;simp at b9;have k:=k7.F;simp only[Kf,ZX]at k;obtain⟨⟨n7,m7⟩,⟨p7,_⟩,⟨c7,f7⟩,⟨y7,z7⟩,_⟩:=k;have d7:=qH (n.own.own j h5) hg u;have Q:=Zhp n.own;have N7:=Zhp n;have K7:=Zhp k7;have l:=K7;clear k7 B n n6 m6 p6 c6 f6 y6 z6)
   |(go_at_call 56;have k7:=K7.out;refine(SZ b0 _).mono ?_;rintro e w8 ⟨rfl,C⟩;have k8:=k7.below C;have n:=N7.out.below C;have f0:=C.size;have k:=k8.F;simp only[Kf,ZX]at k;obtain⟨⟨n8,m8⟩,⟨p8,_⟩,⟨c8,f8⟩,⟨y8,z8⟩,_⟩:=k;have d8:=qH (n.own.own j h5) hg u;have Q:=Zhp n.own;have N8:=Zhp n;have K8:=Zhp k8;have l:=K8;clear k7 k8 C n n7 m7 p7 c7 f7 y7 z7 d7)
   |(go_at_call 61;refine(Ka b0 _).mono ?_;rintro e w9 ⟨rfl,D⟩;rw[c0];dsimp only;have f1:=D.size;have k9:=(K8.out.below D).alloc #[.int .i64 (sz:Nat),.int .i64 pt] 39;have n:=(N8.out.below D).below<|(ZhH _ _).alloc (Zhm _)<|.cells #[.int .i64 (sz:Nat),.int .i64 pt] 39;have k:=k9.F;simp only[Kf,ZX]at k;obtain⟨⟨s9,_⟩,⟨n9,m9⟩,⟨p9,_⟩,⟨c9,f9⟩,⟨y9,z9⟩,_⟩:=k;have d9:=qH (n.own.own j h5) hg u;have Q:=Zhp n.own;have N9:=Zhp n;have K9:=Zhp k9;have l:=K9;clear k9 D n n8 m8 p8 c8 f8 y8 z8 d8)
   |(go_at_call 24;refine(zA (h:=h) (x:=f) (G:=G) (λc hc=>by have:=hG c hc;simp;omega) (λj O=>(HS.out j O).keep (λb z=>by have:=hG b z;rw[Zhz _ _ _ (by simp;omega),Zhz _ _ _ (by omega)])<|λ_ h=>h)).mono ?_;rintro e w1 ⟨rfl,W⟩;unfold TR;have K1:=Zhp<|KZ.out.below W;have a9:=W.size;simp at a9;clear W)
   |(go_at_call 42;refine(Z9t K.out.bd _).mono ?_;rintro e w2 ⟨rfl,X⟩;rw[hr];have k2:=(K1.out.alloc _ _).below X;have b7:=X.size;simp at b7;have k:=k2.F;simp only[Kf,ZX]at k;obtain⟨⟨c2,f2⟩,⟨y2,z2⟩,⟨x2,_⟩,_⟩:=k;have K2:=Zhp k2;have l:=K2;clear k2 X)
   |(go_at_call 56;refine(SZ hv _).mono ?_;rintro e w3 ⟨rfl,o⟩;have k3:=K2.out.below o;have e8:=o.size;have k:=k3.F;simp only[Kf,ZX]at k;obtain⟨⟨c3,f3⟩,⟨y3,z3⟩,⟨x3,_⟩,_⟩:=k;have K3:=Zhp k3;have l:=K3;clear k3 o c2 f2 y2 z2 x2)
   |(go_at_call 59;refine(Z3P K.out.bd (Z2r hv) _).mono ?_;rintro e w4 ⟨rfl,Y⟩;(try (rw[hf];dsimp only));have e9:=Y.size;have k4:=K3.out.below Y;have k:=λcs T=>(k4.alloc cs T).F;simp only[Kf,ZX,forall_and]at k;obtain⟨_,⟨c4,f4⟩,⟨y4,z4⟩,⟨x4,_⟩,_⟩:=k;have K4:=Zhp k4;have l:=Zhp<|k4.alloc #[.int .i64 (Yh (Zv h) (adr v).1).1,.int .i64 (Yh (Zv h) (adr v).1).2.1] 67;clear k4 Y c3 f3 y3 z3 x3)
   |(go_at_call 19;have kg:=K4;refine(EL _ G (λb z=>by have:=hG b z;simp;omega) h K.out f (λj O=>(HS.out j O).keep (λb z=>(K4.out.cm.alloc (by have:=K4.out.cm.size;omega) _).block b<|hG b z)<|λ_ h=>h)).mono ?_;rintro e w5 ⟨a,q,rfl,A,a7⟩;have k5:=(K4.out.alloc _ _).below A;have b8:=A.size;simp at b8;have hN:=Z75 a7 A.size;have k6:Kp w (w5.alloc<|Eg h<|UR h a q) _:=k5.alloc _ _;unfold ZC;unfold Eg at k6 hN;dsimp only[UR]at k6 hN⊢;have k:=k6.F;simp only[Kf,ZX]at k;obtain⟨⟨n6,m6⟩,⟨p6,_⟩,⟨c6,f6⟩,⟨y6,z6⟩,_⟩:=k;have Q:=Zhp hN.own;have N6:=Zhp hN;have K6:=Zhp k6;have l:=K6;clear kg k5 k6 hN A a7 c4 f4 y4 z4 x4)
   |(go_at_call 19;refine(EL _ G (λb z=>by have:=hG b z;omega) h K.out f<|λj O=>(HS.out j O).keep (λb z=>K2.out.cm.block b<|hG b z) (λ_ h=>h)).mono ?_;rintro e w3 ⟨a,q,rfl,o,a6⟩;unfold ZC;dsimp only[UR];have k3:=K2.out.below o;have k:=k3.F;simp only[Kf,ZX]at k;obtain⟨⟨c3,f3⟩,⟨y3,z3⟩,⟨x3,_⟩,_⟩:=k;have l:=Zhp k3;have Q:=Zhp a6;clear k3 o a6))
  try
   generalize f5:sz+1=sm at a8 t d;have g4:IntKind.i64.wrap ((sz:Int)+1)=(sm:Int):=by rw[Zy ((sz:Int)+1) Z0 Z0];omega
   have a9:(sm:Int)<=(qm:Int):=Z0;have e7:(0:Int)<=(sm:Int):=Z0;have HL:=Zhp t;have S:=FwQ.of (k:=K9) (n:=N9) (m:=.tail _<|.tail _<|.tail _<|.head _) (m':=.head _) K9.out.drew N9.out.drew;clear s9 n9 m9 p9 c9 f9 y9 z9 d9 t
   go_region_held3 (FwQ K9 N9 (.tail _<|.tail _<|.tail _<|.head _)<|.head _) (first|exact S|assumption)
    (first|(go_at_call 62;refine(Z9v K.out.bd _).mono ?_;rintro e d5 ⟨rfl,M⟩;have S:=FwQ.of (k:=K9) (n:=N9) (m:=.tail _<|.tail _<|.tail _<|.head _) (m':=.head _) (S.2.2.1.below M)<|S.2.2.2.below M))
   obtain⟨-,-,a2,a4⟩:=S;rename_i R;clear R;have k:=a2.F;simp only[Kf,ZX]at k;obtain⟨⟨d0,_⟩,⟨b1,c1⟩,⟨qJ,_⟩,⟨Ak,b3⟩,⟨d6,e0⟩,_⟩:=k;have b2:=qH (a4.own.own j h5) hg u;have a5:=Zhp a2;have l:=a5;have P:=Zhp a4;clear a2 a4;go_wp2_with (first|(go_at_call 63;refine(Z3i d5 _ _ h _ P.out (by have:=Y7 P.out.blk;have:=P.out.new;omega) K.out j at_ sm O Z0 Z0 Z0 g (q j) (by simp[UR,hg]) (by have:=HL.out;omega) qm).mono ?_;rintro e g5 ⟨x',rfl,N,y⟩;obtain⟨a',q',y⟩:=y.nd;generalize SL h ((j:Int)+1) at_ sm=to at*;generalize Xn (Xt h ((j:Int)+1) at_ sm) ((j:Int)+1) ((zr (Zu h j) at_ sm).set at_ to)=h' at*;have a3:=a5.out.sub N (by have:=K1.out.cm.size;simp;omega) (c:=xz (xj w)+1) (r:=ZX) (T:=30) Z1 Zgn;have k:=a3.F;have n:=λj=>Zhv _ _ j _ _ _ y.blk;simp only[Kf,ZX]at k;dsimp only[UR]at n;have Q:=Zhp y.own;have l:=Zhp a3;clear a3 N y d0 b1 c1 qJ Ak b3 d6 e0 b2))
  have r:=Sv<|l.out.row (xz (xj w)+1,ZX,30) Z1;dsimp only at r;first
  |go_region
   all_goals
    go_wp2;try simp only[Exit.inBlock,Exit.then]
    refine Zi8 ?_ rfl (Hw l.out Z0 Zgn Q.out _ d).drew
  |have p:=ZbT l.out (rb:=xz (xj w)+1) (by omega) d
   refine Zi8 ?_ rfl p
  |have p:=Hw l.out (rb:=xz (xj w)+1) (by omega) (by omega) Q.out _ d
   refine Zi8 ?_ rfl p
  all_goals simp[results,Try.results41,go_sem,r,ZC,UR,ZX,d]
end Vm
namespace Vm
open Go Go.Proofs Go.RowKit
def Sw{w G k n v}(r:Rd w G (.int k n) v):v=.int k n:=by cases r;rfl
def Dc{w G b v}(r:Rd w G (.bool b) v):v=.bool b:=by cases r;rfl
def yI{w G h v}(r:Rd w G (ZE h) v):∃f,v=ZC h f/\∀j,j<5->Rd w G (.sl<|(Zu h j).map vu) (f j):=by
 cases r with
 |agg _ vs t _ a=>
  refine⟨λj=>vs.getD (5+j) xy,?_,?_⟩;have g:=Sw<|a 0 _ rfl;have k:=Sw<|a 1 _ rfl;have l:=Sw<|a 2 _ rfl;have n:=Dc<|a 3 _ rfl;have o:=Sw<|a 4 _ rfl;have d:=t;unfold ZC;rw[<-g,<-k,<-l,<-n,<-o];congr 1;apply ZjR;simp[d];intro i u x;have p:i<10:=Z0
  match i,p with
  |0,_|1,_|2,_|3,_|4,_|5,_|6,_|7,_|8,_|9,_=>simp[Array.getD,d]
  intro j q
  match j,q with
  |0,_=>exact a 5 _ rfl
  |1,_=>exact a 6 _ rfl
  |2,_=>exact a 7 _ rfl
  |3,_=>exact a 8 _ rfl
  |4,_=>exact a 9 _ rfl
def Jn{w G h x}(d:∀j,j<5->Rd w G (.sl<|(Zu h j).map vu) (x j)):Rd w G (ZE h)<|ZC h x:=by
 refine .agg _ _ rfl Z1 ?_;intro i y a
 match i,a with
 |0,a=>cases a;exact .int _ _
 |1,a=>cases a;exact .int _ _
 |2,a=>cases a;exact .int _ _
 |3,a=>cases a;exact .bool _
 |4,a=>cases a;exact .int _ _
 |5,a=>cases a;exact d 0 Z0
 |6,a=>cases a;exact d 1 Z0
 |7,a=>cases a;exact d 2 Z0
 |8,a=>cases a;exact d 3 Z0
 |9,a=>cases a;exact d 4 Z0
end Vm
end
section
namespace Vm
open Go Go.Proofs Go.RowKit
def Rd.bu{w:Z3}{G:Z4}{l:Zr}{v:Ze}(h:Rd w G (.sl l) v):∃a c,v=.slice a (I l) c:=by
 cases h with
 |nil a cap _=>exact⟨a,cap,rfl⟩
 |sl l b o cap k vs=>exact⟨_,cap,rfl⟩
def append_empty{P:Z6}{w:Z3}{t ty e:Zf}(u:P.underlying t=J (.slice e))(o:Uv P e=xk)(p a:Addr)(n c:Nat)(d:Zm)(r:I d=n*P.cellsOf e)(f:∀j v,d[j]?=J v->w.cell? (a.add j)=J v)(y:0<n)(h:n<=Y4):
  (Builtin.append_ #[t,t] ty #[.slice (J p) 0 0,.slice (J a) n c]).run P w=(Builtin.append_ #[t,t] ty #[.slice U 0 0,.slice (J a) n c]).run P w:=by
 obtain⟨i,z,q,x,C,D,l,k⟩:=Q8 o;simp only[Y4]at h;have g:n*i.bytes<=140737488355328:=by
  have:n*i.bytes<=4294967296*32768:=Zl4 h l;omega
 rw[run_append_nil (P:=P) w t ty e i z u q x a n c d (by rw[r,k]) f y Z0 Z0];have A:=run_append_grow (P:=P) w t ty e i z u q x p 0 0 [] Z1 (λj v B=>by simp at B) a n c d (by rw[r,k]) f Z0 Z0<|Zlv Z0 Zhd;simpa using A
def Z2u{w:Z3}(f:Option Addr){ty:Zf}{G:Z4}{l:Z8}{y:Ze}(hl:I l<=1000000)(Q:Rd w G (.sl<|l.map vu) y):
  ∃C h,(Builtin.append_ #[28,28] ty #[.slice f 0 0,y]).run xP w=.ok C h/\Below (xz<|xj w) w h/\Rd h (λc=>xz (xj w)<=c/\c<xz (xj h)) (.sl<|l.map vu) C:=by
 have F:=SX;have g:∀(w:Z3),Rd w (λc=>xz (xj w)<=c/\c<xz (xj w)) (.sl ([]:List V))<|.slice f 0 0:=λw=>.nil _ _ ZgC;by_cases t:l=[];subst t;obtain⟨i,z,hi,hz,a1,d,Z,a0⟩:=Q8 (P:=xP) J8;have hv:∃a c,y=.slice a 0 c:=by
  obtain⟨a,c,e⟩:=Rd.bu Q;exact⟨a,c,by simpa using e⟩
 obtain⟨a,c,rfl⟩:=hv;refine⟨.slice f 0 0,w,?_,ZhH _ _,g w⟩;cases a<;>cases f<;>simp[Builtin.append_,Zi6 F,Go.sizeOf,typeInfo,hi,Builtin.lenOf,Builtin.firstCells,loadCells,loadCellsFrom,storeCells]
 have W:0<I l:=Zjk.2 t;have key:(Builtin.append_ #[28,28] ty #[.slice f 0 0,y]).run xP w=(Builtin.append_ #[28,28] ty #[.slice U 0 0,y]).run xP w:=by
  obtain _|f:=f;rfl;have p:=Q;generalize A:l.map vu=L at p;cases p with
  |nil=>simp at A;exact absurd A t
  |sl _ b o cap kk vs d k X Y D R=>
   have T:I L=I l:=by rw[<-A,ZhN]
   have H:kk=1:=by
    obtain⟨x,hx⟩:=Zl0 l t;have:=(Y (vu x) (by rw[<-A];exact Zj3 hx)).1;simpa using this.symm
   subst H;refine append_empty (P:=xP) F J8 f ⟨b,o,U⟩ _ cap ((List.range<|I L).map vs) (by rw[T4];simp) (λj u S=> ?_) Z0 (by simp only[Y4];omega);have M:j<I L:=by simpa using(Zhj.1 S).1
   have O:vs j=u:=by simpa[M]using S
   rw[ZiX,<-O];exact D j Z0
 obtain⟨C,h,q,N,d,k,X,_,D⟩:=LU (P:=xP) (ty:=ty) (B:=xz<|xj w) (n:=0) (xs:=[]) F J8 (ZiK w _ _ _) (Zhm _) Q (by rw[T4];exact zc _) (by simp only[Y4,ZhN];omega);rw[T4]at d;have K:I q=I l:=by have:=d.1;simpa using this
 have R:=qn D K;rw[R]at d;simp only[ZhN,Zi5,Zic]at d;refine⟨C,h,key.trans N,?_,Rq d λc d k=>⟨d,k⟩⟩;have hn:(Value.slice U 0 0).ownBlock=U:=rfl;rw[hn]at k;exact Below.grown (ZhH _ _) k (Zhm _) (λr N=>by cases N)
def ZbK{w:Z3}{o:Oper}{a:Act}{K:Zq}{Q:Zh}(s x:Operand)
  (p:o.op=.call {callee:=.builtin .append,args:=#[s,x],argTypes:=#[28,28]}) {g:Option Addr} {y:Ze} (r:a.eval s=.slice g 0 0) (hx:a.eval x=y)
  {G:Z4} {l:Z8} (n:I l<=1000000) (t:Rd w G (.sl<|l.map vu) y)
  (h:∀f d,Below (xz<|xj w) w d->Rd d (λc=>xz (xj w)<=c/\c<xz (xj d)) (.sl<|l.map vu) f->K (a.put o.dst f) d):o.wp xP a w K Q:=by
 obtain⟨f,d,q,j,k⟩:=Z2u g (ty:=o.type) n t;unfold Oper.wp execOp;simp only[p,resolve,invoke,builtin,Zi4,ZjV,Zi2,List.map_toArray,ZhR,ZiN,r,hx,q];exact h f d j k
def Z0t{w:Z3}{ops:Zl}{rest:List Oper}{o:Oper}{a:Act}{Q:Zh}(g:o.guard=U)(s x:Operand)
  (r:o.op=.call {callee:=.builtin .append,args:=#[s,x],argTypes:=#[28,28]}) {j:Option Addr} {y:Ze} (t:a.eval s=.slice j 0 0) (hx:a.eval x=y)
  {G:Z4} {l:Z8} (q:I l<=1000000) (u:Rd w G (.sl<|l.map vu) y)
  (h:∀f d,Below (xz<|xj w) w d->Rd d (λc=>xz (xj w)<=c/\c<xz (xj d)) (.sl<|l.map vu) f->wpList xP ops Q rest (a.put o.dst f) d):wpList xP ops Q (o::rest) a w:=
 wpList_plain g λ_ p=>ZbK s x r t hx q u λf d k n=>p _ _<|h f d k n
def AZ(w:Z3){G:Z4}{l:Z8}{y:Ze}(j:I l<=1000000)(f:Rd w G (.sl<|l.map vu) y):
  Calls xP 40 #[y] w λe d=>∃v,e=.returned v/\Below (xz<|xj w) w d/\Rd d (λc=>xz (xj w)<=c/\c<xz (xj d)) (.sl<|l.map vu) v:=by
 obtain⟨a,c,rfl⟩:=Rd.bu f;go_enter Fa,Try.ntmps40;go_wp2_with (at_builtin;refine Z0t rfl _ _ rfl rfl rfl j f ?_;intro g d h k)
 exact Zi8 (v:=g) (by simp[results,Try.results40,go_sem]) rfl ⟨g,rfl,h,k⟩
def Z3J(w:Z3)(n c:Nat):Sem.run xP (binOp .eql 28 (.slice U n c)<|.slice U 0 0) w=.ok (.bool xk) w:=Zhb
def Z3K(w:Z3)(a:Addr)(n c:Nat):Sem.run xP (binOp .eql 28 (.slice (J a) n c)<|.slice U 0 0) w=.ok (.bool xw) w:=Zhb
def Z0Q(w:Z3){G:Z4}(x:∀b,G b->b<xz (xj w)){l:Z8}{y:Ze}(A:I l<=1000000)(g:Rd w G (.sl<|l.map vu) y):
  Calls xP 77 #[y] w λe k=>∃v,e=.returned v/\Below (xz<|xj w) w k/\Rd k (λc=>xz (xj w)<=c/\c<xz (xj k)) (.sl<|l.map vu) v:=by
 obtain⟨a,c,rfl⟩:=Rd.bu g;cases a with
 |none=>
  have u:l=[]:=by
   generalize z:l.map vu=L at g;cases g with
   |nil=>simpa using z
  subst u;have q:=Z3J w 0 c;go_enter Fl,Try.ntmps77;simp only[ZiN,Ziu];go_wp2;exact Zi8 (v:=.slice U 0 0) (by simp[results,Try.results77,go_sem]) rfl ⟨_,rfl,ZhH _ _,.nil _ _ ZgC⟩
 |some p=>
  have q:=Z3K w p (I l) c;go_enter Fl,Try.ntmps77;have h:Rd (w.alloc<|.cells #[] 24) G (.sl<|l.map vu)<|.slice (J p) (I<|l.map vu) c:=g.keep (λb d=>Zhz _ _ _<|x b d) λ_ q=>q;have f:Below (xz<|xj w) w<|w.alloc<|.cells #[] 24:=(ZhH _ _).alloc (Zhm _) _;have j:xz (xj<|w.alloc<|.cells #[] 24)=xz (xj w)+1:=Z1;have n:=Zhp<|And.intro f j;clear f j g;go_wp2_with (at_builtin;refine Z0t rfl _ _ rfl rfl rfl A h ?_;intro t k d r;have o:=Zhp<|And.intro d r;clear d r h)
  refine Zi8 (v:=t) (by simp[results,Try.results77,go_sem]) rfl ⟨t,rfl,n.out.1.trans<|o.out.1.mono (by rw[n.out.2];omega),o.out.2.mono λb d=>⟨by have:=n.out.2;omega,d.2⟩⟩
section
def QN(K:Zq)(Q:Zh):Exit->Act->World->Prop
 |.normal,a,w=>K a w
 |.ret,a,w=>Q .ret a w
 |.outgrown,a,w=>Q .outgrown a w
 |e,a,w=>Q e a w
section
variable {P:Z6}{ops:Zl}{Q:Zh}
def ZbH{i:Nat}{o:Oper}{K:Zq}{a:Act}{w:Z3}(k:ops[i]?=J o)(h:wpList P ops (QN K Q) [o] a w):wpOp P ops Q i K a w:=by
 unfold wpOp;rw[k];simp only;unfold wpList at h;split at h;rename_i f;rw[Zht f];obtain h|⟨g,j⟩:=h;left;unfold Oper.wp at*;generalize (execOp a.eval o).run P w=r at*;cases r with
 |ok n l=>
  cases n<;>simp only[Oper.upon]at h⊢ <;>
   first
    |exact h
    |exact ZjX h (λe p d=>by cases e<;>exact d)
    |exact Rows.mono h (λ_ _ d=>d)
 |halt x l=>cases x<;>simp only[Oper.upon]at h⊢ <;>exact h
 exact .inr ⟨g,j⟩;rename_i f;rw[Zhs f];exact h
def Z9i{id:Nat}{C:Act}{w0:Z3}(hm:P.follows .mixedOrders=xk)(y:∀(i:Nat) (o:Oper),ops[i]?=J o->∀e∈Ue o,e<i)(I:(Nat->Bool)->Act->World->Prop)
  (S:I (λ_=>xw) C {w0 with drawn:=w0.drawn+1})
  (H:∀(L:Zgk) (i:Nat) (o:Oper) (a:Act) (w:Z3),ops[i]?=J o->L i=xw->(∀j∈Ue o,L j=xk)->I L a w->wpList P ops (QN (I<|add L i) Q) [o] a w)
  (M:∀(L:Zgk) (a:Act) (w:Z3),(∀i,i<ops.size->L i=xk)->I L a w->Q .normal a w):(Code.region id ops xk).wp P Q C w0:=by
 have t:∀(listed:Array Bool) (i:Nat),listed.size=ops.size->i<ops.size->listed.getD i xk=listed.getD i xw:=by
  intro listed i l D;simp[Zhn,l,D]
 have h:∀(listed:Array Bool),listed.size=ops.size->Region.ready .any ops listed=[]->∀i,i<ops.size->listed.getD i xw=xk:=by
  intro listed f z i;induction i using Nat.strongRecOn with
  |_ i K=>
   intro q;cases Z:listed.getD i xw with
   |true=>rfl
   |false=>
    have:i∈Region.ready .any ops listed:=Zli.2 ⟨by rw[t listed i f q];exact Z,ops[i],Zi9 q,λe X W=>by
     have k:=y i ops[i] (Zi9 q) e.on<|M5 X W;exact K e.on k Z0⟩
    rw[z]at this;simp at this
 refine wp_region_any hm ?_;have A:∀(d:Nat) (listed:Array Bool) (a:Act) (w:Z3),listed.size=ops.size->zm ops.size (λi=>listed.getD i xw)<=d->I (λi=>listed.getD i xw) a w->wpAny P .any ops Q d listed a w:=by
  intro d;induction d with
  |zero=>
   intro listed a w f N B;have g:=u9<|Nat.le_zero.1 N;refine⟨?_,M _ a w g B⟩;cases z:Region.ready .any ops listed with
   |nil=>rfl
   |cons i r=>
    have:i∈Region.ready .any ops listed:=by rw[z];simp
    obtain⟨l,o,x,_⟩:=Zli.1 this;have q:i<ops.size:=(Zho.1 x).1;rw[t listed i f q,g i q]at l;cases l
  |succ d K=>
   intro listed a w f N B;refine⟨λz=>M _ a w (h listed f z) B,λi q=> ?_⟩;obtain⟨l,o,x,g⟩:=Zli.1 q;have k:i<ops.size:=(Zho.1 x).1;rw[t listed i f k]at l;have p:(λj=>(listed.setIfInBounds i xk).getD j xw)=add (λi=>listed.getD i xw) i:=by
    funext j;simp only[add];by_cases u:j=i;subst u;have:j<listed.size:=Z0;simp[Zhn,this];have:(listed.setIfInBounds i xk).getD j xw=listed.getD j xw:=getD_set_ne xw<|Zj5 u;rw[this];simp[u]
   have hs:=ZbH x (H _ i o a w x l (λj Y=>by
    obtain⟨R,D,T,rfl⟩:=Gu Y;exact g R D T) B)
   refine wpOp_mono (λO w' F=>K _ O w' ZgD ?_ (by rw[p];exact F)) hs;rw[p];have:=u5 (n:=ops.size) (L:=λi=>listed.getD i xw) k l;omega
 have G:(λi=>(Array.replicate ops.size xw).getD i xw)=λ_=>xw:=by
  funext i;simp only[Zhn,Array.getElem?_replicate];split<;>rfl
 refine A _ _ C _ Z1 ?_ (by rw[G];exact S);exact ZhU (Zkw _ _) Z1
end
def QG(a:Act)(l:List<|Nat×Value):Act:= {a with tmps:=l.foldl (λt p=>t.setIfInBounds p.1 p.2) a.tmps}
def Ce(ops:Zl):Bool:=(List.range ops.size).all λi=>match ops[i]? with|some o=>(Ue o).all λe=>decide (e<i)|none=>xk
def Z7B{ops:Zl}(h:Ce ops=xk):∀(i:Nat) (o:Oper),ops[i]?=J o->∀e∈Ue o,e<i:=by
 intro i o a e d;unfold Ce at h;rw[Zhw]at h;have:=h i (by simpa using(Zho.1 a).1);rw[a]at this;simp only[Zhw,ZhS]at this;exact this e d
def To(a:Act)(d:Za)(v:Z5):Act:=QG a (d.map λs=>(s,v s))
def Xi(v:Z5)(s:Nat)(x:Ze):Nat->Value:=λt=>if t=s then x else v t
def RE(v:Z5)(s:Nat)(x:Ze):Xi v s x s=x:=Zht rfl
def TZ(v:Z5){s t:Nat}(x:Ze)(h:t≠s):Xi v s x t=v t:=Zhs h
def OH{P:Z6}{ops:Zl}{Q:Zh}{id:Nat}{d:Act}{w0:Z3}(g:Za)(C:(Nat->Bool)->(Nat->Value)->World->Prop)
  (t:P.follows .mixedOrders=xk) (f:Ce ops=xk) (l:∃v,d=To d g v/\C (λ_=>xw) v {w0 with drawn:=w0.drawn+1})
  (k:∀(L:Zgk) (i:Nat) (o:Oper) (v:Z5) (w:Z3),ops[i]?=J o->L i=xw->(∀j∈Ue o,L j=xk)->C L v w->
   wpList P ops (QN (λa w=>∃v,a=To d g v/\C (add L i) v w) Q) [o] (To d g v) w)
  (p:∀(L:Zgk) (v:Z5) (w:Z3),(∀i,i<ops.size->L i=xk)->C L v w->Q .normal (To d g v) w):(Code.region id ops xk).wp P Q d w0:=by
 refine Z9i t (Z7B f) (λL a w=>∃v,a=To d g v/\C L v w) l ?_ ?_;rintro L i o _ w u q r ⟨v,rfl,h⟩;exact k L i o v w u q r h;rintro L _ w n ⟨v,rfl,h⟩;exact p L v w n h
def zK(L:Zgk)(i:Nat):add L i i=xk:=by simp[add]
def WM{L:Zgk}{i j:Nat}(h:j≠i):add L i j=L j:=by simp[add,h]
end
section
def JX{v:Z5}{s:Nat}{x:Ze}(h:v s=x):Xi v s x=v:=by
 funext t;unfold Xi;by_cases e:t=s;rw[Zht e,e,h];rw[Zhs e]
def UA(h:Hp)(i:Nat):List Int:=if i=9 then h.H else if i=12 then h.ab else h.E
def Ug(h:Hp)(y:Z5):Array Value:=#[.int .u64 h.base,.int .i64 h.cap,.int .i64<|1-h.to,.bool xw,.int .i64 0,.slice U 0 0,.slice U 0 0,y 9,y 12,y 15]
def T8(bh:Nat)(h:Hp)(src:Z5):Nat->Value
 |0=>.pointer<|J ⟨bh,0,U⟩
 |1=>.int .u64 h.base
 |2=>.pointer<|J ⟨bh,1,U⟩
 |3=>.int .i64 h.cap
 |4=>.pointer<|J ⟨bh,2,U⟩
 |5=>.int .i64 h.to
 |6=>.int .i64<|1-h.to
 |7=>.pointer<|J ⟨bh,5,U⟩
 |8=>src 0
 |10=>.pointer<|J ⟨bh,6,U⟩
 |11=>src 1
 |13=>.pointer<|J ⟨bh,9,U⟩
 |14=>src 4
 |_=>xy
def XZ(i:Nat):Prop:=i<15/\i≠9/\i≠12
def Xy(i:Nat):Prop:=i=9\/i=12\/i=15
def Va(W0 W:Z3)(L:Zgk)(v:Z5)(b:Nat):Prop:=xz (xj W0)<=b/\b<xz (xj W)/\(L 17=xk->v 4≠.pointer (J ⟨b,0,U⟩))
structure FlC (W0:World) (bh:Nat) (h:Hp) (src:Nat->Value) (L:Nat->Bool) (v:Nat->Value) (W:World):Prop where
 b:Below (xz<|xj W0) W0 W
 eq:∀i,XZ i->L i=xk->v (16+i)=T8 bh h src i
 rd:∀i,Xy i->L i=xk->Rd W (Va W0 W L v) (.sl<|(UA h i).map vu) (v<|16+i)
 agg:L 16=xk->∃y,v 32=.agg (Ug h y)/\∀i,Xy i->Rd W (Va W0 W L v) (.sl<|(UA h i).map vu) (y i)
 new:L 17=xk->∃c,v 4=.pointer (J ⟨c,0,U⟩)/\xz (xj W0)<=c/\c<xz (xj W)/\(L 18=xw->W.heap[c]?=J (.cells ZX 30 (0,0)))
 put:L 18=xk->∃c y,v 4=.pointer (J ⟨c,0,U⟩)/\xz (xj W0)<=c/\W.heap[c]?=J (.cells (Ug h y) 30 (0,0))/\∀i,Xy i->Rd W (Va W0 W L v) (.sl<|(UA h i).map vu) (y i)
 c18:L 18=xk->L 17=xk
section
variable {W0 W W':Z3}{bh:Nat}{h:Hp}{src:Z5}{L:Zgk}{v:Z5}
def FlC.step(C:FlC W0 bh h src L v W){i s:Nat}(O:i<17)(M:s=16+i){x:Ze}(q:Below (xz<|xj W) W W')(H:XZ i->x=T8 bh h src i)
  (K:Xy i->Rd W' (λb=>xz (xj W)<=b/\b<xz (xj W')) (.sl<|(UA h i).map vu) x) (G:i=16->∃y,x=.agg (Ug h y)/\∀j,Xy j->Rd W (Va W0 W L v) (.sl<|(UA h j).map vu) (y j)):FlC W0 bh h src (add L i) (Xi v s x) W':=by
 subst M;have o:add L i 18=L 18:=WM Z0;have k:add L i 17=L 17:=WM Z0;have v4:Xi v (16+i) x 4=v 4:=TZ v x Z0;have B:∀b,Va W0 W L v b->b<xz (xj W)/\Va W0 W' (add L i) (Xi v (16+i) x) b:=λb d=>by
  obtain⟨D,A,F⟩:=d;refine⟨A,D,Zhr A q.size,?_⟩;rw[k,v4];exact F
 have t:∀ {u:V} {z:Ze},Rd W (Va W0 W L v) u z->Rd W' (Va W0 W' (add L i)<|Xi v (16+i) x) u z:=λN=>N.keep (λb d=>q.block b (B b d).1) λb d=>(B b d).2;refine⟨C.b.trans<|q.mono C.b.size,λj f a=> ?_,λj f a=> ?_,λa=> ?_,λa=> ?_,λa=> ?_,λa=> ?_⟩;by_cases e:j=i;subst e;rw[RE];exact H f;rw[WM e]at a;rw[TZ v x Z0];exact C.eq j f a;by_cases e:j=i;subst e;rw[RE];refine(K f).mono λb d=> ?_;refine⟨ZhU C.b.size d.1,d.2,λl=> ?_⟩;rw[k]at l;rw[v4];obtain⟨c,g,_,p,_⟩:=C.new l;rw[g];intro r;cases r;omega;rw[WM e]at a;rw[TZ v x Z0];exact t<|C.rd j f a;by_cases e:i=16;subst e;obtain⟨y,g,n⟩:=G rfl;exact⟨y,by rw[<-g];exact RE _ _ _,λj f=>t<|n j f⟩;rw[WM<|Zj5 e]at a;obtain⟨y,g,n⟩:=C.agg a;exact⟨y,by rw[TZ v x Z0];exact g,λj f=>t<|n j f⟩;rw[k]at a;obtain⟨c,g,n,p,r⟩:=C.new a;refine⟨c,by rw[v4];exact g,n,Zhr p q.size,λw=> ?_⟩;rw[o]at w;exact(q.block c p).trans (r w);rw[o]at a;obtain⟨c,y,g,n,p,r⟩:=C.put a;exact⟨c,y,by rw[v4];exact g,n,(q.block c<|Y7 p).trans p,λj f=>t<|r j f⟩;rw[o]at a;rw[k];exact C.c18 a
def FlC.pure(C:FlC W0 bh h src L v W){i s:Nat}(a:XZ i)(g:s=16+i){x:Ze}(f:x=T8 bh h src i):FlC W0 bh h src (add L i) (Xi v s x) W:=
 C.step (by unfold XZ at a;omega) g (ZhH _ _) (λ_=>f) (λd=>by unfold XZ at a;unfold Xy at d;omega) (λe=>by unfold XZ at a;omega)
def FlC.call(C:FlC W0 bh h src L v W){i s:Nat}(a:Xy i)(j:s=16+i){x:Ze}(f:Below (xz<|xj W) W W')(g:Rd W' (λb=>xz (xj W)<=b/\b<xz (xj W')) (.sl<|(UA h i).map vu) x):FlC W0 bh h src (add L i) (Xi v s x) W':=
 C.step (by unfold Xy at a;omega) j f (λd=>by unfold XZ at d;unfold Xy at a;omega) (λ_=>g) (λe=>by unfold Xy at a;omega)
def FlC.built(C:FlC W0 bh h src L v W)(k:L 9=xk)(f:L 12=xk)(g:L 15=xk):FlC W0 bh h src (add L 16) (Xi v 32<|.agg (Ug h λi=>v<|16+i)) W:=
 C.step Z0 rfl (ZhH _ _) (λa=>by unfold XZ at a;omega) (λa=>by unfold Xy at a;omega) λ_=>⟨_,rfl,λj d=>C.rd j d (by unfold Xy at d;obtain rfl|rfl|rfl:=d<;>assumption)⟩
def FlC.alloc(C:FlC W0 bh h src L v W)(g:L 17=xw):FlC W0 bh h src (add L 17) (Xi v 4<|.pointer<|J ⟨xz<|xj W,0,U⟩)<|W.alloc<|.cells ZX 30:=by
 have k:L 18=xw:=by
  cases e:L 18 with
  |false=>rfl
  |true=>have:=C.c18 e;rw[g]at this;cases this
 have o:Below (xz<|xj W) W<|W.alloc<|.cells ZX 30:=(ZhH _ _).alloc (Zhm _) _;have p:xz (xj<|W.alloc<|.cells ZX 30)=xz (xj W)+1:=Z1;have n:∀b,Va W0 W L v b->b<xz (xj W)/\Va W0 (W.alloc<|.cells ZX 30) (add L 17) (Xi v 4<|.pointer<|J ⟨xz<|xj W,0,U⟩) b:=λb d=>by
  obtain⟨w,x,A⟩:=d;refine⟨x,w,Z0,λ_=> ?_⟩;rw[RE];intro e;cases e;omega
 have q:∀ {u:V} {z:Ze},Rd W (Va W0 W L v) u z->Rd (W.alloc<|.cells ZX 30) (Va W0 (W.alloc<|.cells ZX 30) (add L 17)<|Xi v 4<|.pointer<|J ⟨xz<|xj W,0,U⟩) u z:=λp=>p.keep (λb d=>o.block b (n b d).1) λb d=>(n b d).2;refine⟨C.b.trans<|o.mono C.b.size,λj f a=> ?_,λj f a=> ?_,λa=> ?_,λa=> ?_,λa=> ?_,λa=> ?_⟩;have l:j<15:=f.1;rw[WM Z0]at a;rw[TZ _ _ Z0];exact C.eq j f a;have l:j<17:=by unfold Xy at f;omega
 rw[WM Z0]at a;rw[TZ _ _ Z0];exact q<|C.rd j f a;rw[WM Z0]at a;obtain⟨y,r,t⟩:=C.agg a;exact⟨y,by rw[TZ _ _ Z0];exact r,λj f=>q<|t j f⟩;exact⟨xz<|xj W,RE _ _ _,C.b.size,Z0,λ_=>ZhT W _⟩;rw[WM Z0,k]at a;cases a;exact zK _ _
def FlC.store(C:FlC W0 bh h src L v W){c:Nat}(hc:v 4=.pointer (J ⟨c,0,U⟩)){y:Z5}(N:v 32=.agg (Ug h y))(g:L 17=xk)(B7:L 16=xk)(R:L 18=xw)(B:W.heap[c]?=J (.cells ZX 30 (0,0)))
  (H:∀b,b≠c->W'.heap[b]?=W.heap[b]?) (S:xz (xj W')=xz (xj W)) (M:W'.heap[c]?=J (.cells (Ug h y) 30 (0,0))) (K:Below (xz<|xj W0) W W'):FlC W0 bh h src (add L 18) v W':=by
 have k:add L 18 17=L 17:=WM Z0;have x:∀b,Va W0 W L v b->b≠c/\Va W0 W' (add L 18) v b:=λb a=>by
  obtain⟨G,Q,w⟩:=a;refine⟨λe=> ?_,G,Z0,by rw[k];exact w⟩;subst e;exact w g hc
 have q:∀ {u:V} {z:Ze},Rd W (Va W0 W L v) u z->Rd W' (Va W0 W' (add L 18) v) u z:=λB=>B.keep (λb a=>H b (x b a).1) λb a=>(x b a).2;obtain⟨O,l,n,P,_⟩:=C.new g;rw[hc]at l;cases l;refine⟨C.b.trans K,λj d f=> ?_,λj d f=> ?_,λf=> ?_,λf=> ?_,λf=> ?_,λf=>by rw[k];exact g⟩;have o:j<15:=d.1;rw[WM Z0]at f;exact C.eq j d f;have o:j<17:=by unfold Xy at d;omega
 rw[WM Z0]at f;exact q<|C.rd j d f;obtain⟨y,l,n⟩:=C.agg B7;exact⟨y,l,λj d=>q<|n j d⟩;refine⟨c,hc,n,Z0,λt=> ?_⟩;rw[zK]at t;cases t;obtain⟨D,r,F⟩:=C.agg B7;rw[N]at r;have p:∀i,Xy i->D i=y i:=λi A=>by
  have e:Ug h y=Ug h D:=by injection r
  unfold Ug at e;unfold Xy at A;simp at e;obtain rfl|rfl|rfl:=A;exact e.1.symm;exact e.2.1.symm;exact e.2.2.symm
 exact⟨c,y,hc,n,M,λj d=>by rw[<-p j d];exact q<|F j d⟩
end
end
end Vm
end
section
namespace Vm
open Go Go.Proofs
def N1:Fn:=⟨5,[0,1,2,3,4],pQ [pR [(1,pS 0 10),pV 2 pF],pC [pK 5 33 [.mm 1 0 10]] [pV 3<|.ext (.s 5) 0,pV 4<|.ext (.s 5) 1]]<|px [pV 2<|.s 4],[(2,.v)]⟩
def c13:ZY [.fz] Try.f13=J N1:=Z2
def N3:Fn:=⟨6,[0,1,2,3,4,11],pQ [pR [(1,pS 0 10),pV 2<|pI 0],pC [pK 6 33 [.mm 1 0 10]] [pV 3<|.ext (.s 6) 0,pV 4<|.ext (.s 6) 1],pi 5 (.un .not<|.s 4)<|px [pV 2<|pI 0],pC [pK 7 35 [.s 3]] [pV 2<|.s 7]] .ret,[(2,.v)]⟩
def Q3:ZY [.fz] Try.f15=J N3:=Z2
def Nj:Fn:=⟨12,[0,1,2,3,13,4,16,15,17,6,14,24],pQ [pR [(1,pS 0 10),pV 2<|.c<|.lx 0,pV 3 pF],.ao ⟨[pK 12 24 [.mm 1 0 10]],[([],.ag [.ae (.mm 1 0 10) 0,.ae (.mm 1 0 10) 1,.ae (.mm 1 0 10) 2,.ae (.mm 1 0 10) 3,.ae (.mm 1 0 10) 4,.ae (.mm 1 0 10) 5,.ae (.mm 1 0 10) 6,.ae (.mm 1 0 10) 7,.ae (.mm 1 0 10) 8,.ae (.mm 1 0 10) 9,.ae (.sz (.s 12) 7) 0,.ae (.sz (.s 12) 7) 1,.ae (.sz (.s 12) 7) 2,.ae (.sz (.s 12) 7) 3,.ae (.sz (.s 12) 7) 4,.ae (.sz (.s 12) 7) 5,.ae (.sz (.s 12) 7) 6,pN,pN,pN,pN,.c<|.mp 0 [] [],.c<|.mp 0 [] []])],[(5,.m [.ae (.mm 1 0 10) 0,.ae (.mm 1 0 10) 1,.ae (.mm 1 0 10) 2,.ae (.mm 1 0 10) 3,.ae (.mm 1 0 10) 4,.ae (.mm 1 0 10) 5,.ae (.mm 1 0 10) 6,.ae (.mm 1 0 10) 7,.ae (.mm 1 0 10) 8,.ae (.mm 1 0 10) 9,.ae (.sz (.s 12) 7) 0,.ae (.sz (.s 12) 7) 1,.ae (.sz (.s 12) 7) 2,.ae (.sz (.s 12) 7) 3,.ae (.sz (.s 12) 7) 4,.ae (.sz (.s 12) 7) 5,.ae (.sz (.s 12) 7) 6,pN,pN,pN,pN,.c<|.mp 0 [] [],.c<|.mp 0 [] []])]⟩,pQ [pC [pK 10 50 []] [pV 6<|pI 0,pV 7<|.len<|.s 10]]<|po [0,1,2,3,5,6,7,10] 8 (pl (.s 6)<|.s 7) (pQ [pR [(9,.m [.ae (.bb (.az (.s 10) (.s 6) 1) 0 1) 0])],pC [.co 13 [] (.e<|.m 9 0) [.mem [.fz,.fz,.fz,.fz,.fz,.fz,.fz,.fz,.fz,.fz,.fz,.fz,.fz,.fz,.fz,.fz,.fz,.fz,.fz,.fz,.fz,.own 102,.own 103]] [.ag [.m 5 0,.m 5 1,.m 5 2,.m 5 3,.m 5 4,.m 5 5,.m 5 6,.m 5 7,.m 5 8,.m 5 9,.m 5 10,.m 5 11,.m 5 12,.m 5 13,.m 5 14,.m 5 15,.m 5 16,.m 5 17,.m 5 18,.m 5 19,.m 5 20,.m 5 21,.m 5 22]]] [(5,pM (.ext (.s 13) 1) 23),pV 11<|.un .not<|.ext (.s 13) 0]]<|pw (.s 11)<|px [pV 2<|.c<|.lx 0,pV 3 pF])<|pc 6]<|px [pV 2<|.pt U [.m 5 0,.m 5 1,.m 5 2,.m 5 3,.m 5 4,.m 5 5,.m 5 6,.m 5 7,.m 5 8,.m 5 9,.m 5 10,.m 5 11,.m 5 12,.m 5 13,.m 5 14,.m 5 15,.m 5 16,.m 5 17,.m 5 18,.m 5 19,.m 5 20,.m 5 21,.m 5 22],pV 3 pT,(5,.no)],[(2,.v),(3,.v)]⟩
def c33:ZY [.fz] Try.f33=J Nj:=Z2
def Nk:Fn:=⟨11,[0,2,3,4,8,19,18,20,6,17,25],pQ [pR [pV 1<|pI 0],pR [pV 2<|pI 0],pQ [pR [pV 3<|pI 3]]<|.block 0<|.loop [0,1,2,3]<|pQ [pu 4 (pL (.s 3)<|pI 4) .skip<|.exit 0,.block 1<|pQ [pR [pV 5<|pI 0,pV 6<|.len<|.ae (.ai (.bb (.aq<|.s 0) 17 4) (pb (.s 3)<|pI 1) 4 1 xk) 0,pV 9<|.ae (.ai (.bb (.aq<|.s 0) 17 4) (pb (.s 3)<|pI 1) 4 1 xk) 0]]<|.block 2<|.loop [0,1,2,3,4,5,6,9]<|pQ [pR [pV 7<|pl (.s 5)<|.s 6],.cond (.s 7) .skip<|.exit 2,.block 3<|pQ [pR [(8,pM (.bb (.az (.s 9) (.s 5) 5) 0 5) 5)]]<|pi 10 (.un .not<|.m 8 3)<|pR [pV 2<|pa (.s 2)<|pa (pI 1)<|.m 8 1]]<|pc 5]<|pc 3]<|px [pV 1<|.s 2],[(1,.v)]⟩
def c35:ZY [.fz] Try.f35=J Nk:=Z2
def Ns:Fn:=⟨1,[0],pQ [pR [pV 0 pN]]<|px [pV 0<|.lit [.ag [.c<|.fn 69],.ag [.c<|.fn 70],.ag [.c<|.fn 71],.ag [.c<|.fn 72],.ag [.c<|.fn 73],.ag [.c<|.fn 74],.ag [.c<|.fn 75],.ag [.c<|.fn 76]]],[(0,.v)]⟩
def c50:ZY [] Try.f50=J Ns:=Z2
def NB:Fn:=⟨2,[0,2],pQ [pR [pV 1 pF],.ao ⟨[pK 2 42 [.bb (.aq<|.s 0) 10 7],.lt 3 []<|.s 2,.lt 4 []<|.ite (.s 3) (pL (.len<|.ae (.aq<|.s 0) 9)<|pI 16) pF,.lt 5 []<|.ite (.s 4) (pg (.ae (.aq<|.s 0) 4)<|pI 0) pF],[([(3,xk)],pL (.len<|.ae (.aq<|.s 0) 9)<|pI 16),([(4,xk)],pg (.ae (.aq<|.s 0) 4)<|pI 0),([(5,xk)],pL (.ae (.aq<|.s 0) 4)<|.len<|.ae (.aq<|.s 0) 5)],[pV 1<|.ite (.s 5) (pL (.ae (.aq<|.s 0) 4)<|.len<|.ae (.aq<|.s 0) 5) pF]⟩] .ret,[(1,.v)]⟩
def c69:ZY [.fz] Try.f69=J NB:=Z2
def Lt:Fn:=⟨3,[0,2,7],pQ [pR [pV 1 pF],pi 2 (.ae (.aq<|.s 0) 3)<|px [pV 1<|pl (.ae (.aq<|.s 0) 4)<|.len<|.ae (.aq<|.s 0) 5],.ao ⟨[.lt 3 []<|pe (.len<|.ae (.aq<|.s 0) 7)<|pI 0,.lt 4 []<|.ite (.s 3) (pe (.len<|.ae (.aq<|.s 0) 8)<|pI 0) pF],[([(3,xk)],pe (.len<|.ae (.aq<|.s 0) 8)<|pI 0),([(4,xk)],pe (.ae (.aq<|.s 0) 4)<|.len<|.ae (.aq<|.s 0) 5)],[pV 1<|.ite (.s 4) (pe (.ae (.aq<|.s 0) 4)<|.len<|.ae (.aq<|.s 0) 5) pF]⟩] .ret,[(1,.v)]⟩
def c70:ZY [.fz] Try.f70=J Lt:=Z2
def NC:Fn:=⟨11,[0,2,3,8,9,4,5,6,7,18,39],pQ [pR [pV 1 pF],pR [pV 2 pT],.skip,pQ [pR [pV 3<|pI 0]]<|po [0,1,2,3] 4 (pl (.s 3)<|pI 4) (pQ [pR [pV 5<|.s 3],pR [pV 6<|pa (.s 5)<|pI 1],pR [pV 7 pN],pR [pV 8<|pI 0],pQ [.ao ⟨[.lt 11 []<|pe (.s 6)<|pI 1],[([(11,xw)],pe (.s 6)<|pI 2)],[pV 9<|.ite (.s 11) pT<|pe (.s 6)<|pI 2]⟩]<|.cond (.s 9) (pC [pK 12 83 [.pt U [.m 0 0,.m 0 1,.m 0 2,.m 0 3,.m 0 4,.m 0 5,.m 0 6,.m 0 7,.m 0 8,.m 0 9,.m 0 10,.m 0 11,.m 0 12,.m 0 13,.m 0 14,.m 0 15,.m 0 16,.m 0 17,.m 0 18,.m 0 19,.m 0 20,.m 0 21,.m 0 22],.s 6],.call 13 [] (.id 82) xk xw [.s 12]] [pV 7<|.ext (.s 13) 0,pV 8<|.ext (.s 13) 1])<|pC [pK 14 83 [.pt U [.m 0 0,.m 0 1,.m 0 2,.m 0 3,.m 0 4,.m 0 5,.m 0 6,.m 0 7,.m 0 8,.m 0 9,.m 0 10,.m 0 11,.m 0 12,.m 0 13,.m 0 14,.m 0 15,.m 0 16,.m 0 17,.m 0 18,.m 0 19,.m 0 20,.m 0 21,.m 0 22],.s 6],pK 15 83 [.pt U [.m 0 0,.m 0 1,.m 0 2,.m 0 3,.m 0 4,.m 0 5,.m 0 6,.m 0 7,.m 0 8,.m 0 9,.m 0 10,.m 0 11,.m 0 12,.m 0 13,.m 0 14,.m 0 15,.m 0 16,.m 0 17,.m 0 18,.m 0 19,.m 0 20,.m 0 21,.m 0 22],.s 6],pK 16 85 [.pt U [.m 0 0,.m 0 1,.m 0 2,.m 0 3,.m 0 4,.m 0 5,.m 0 6,.m 0 7,.m 0 8,.m 0 9,.m 0 10,.m 0 11,.m 0 12,.m 0 13,.m 0 14,.m 0 15,.m 0 16,.m 0 17,.m 0 18,.m 0 19,.m 0 20,.m 0 21,.m 0 22],.s 15],.call 17 [] (.id 84) xk xw [.s 14,.s 16]] [pV 7<|.ext (.s 17) 0,pV 8<|.ext (.s 17) 1],pi 10 (pn (.s 8)<|pI 0)<|pQ [pR [pV 2 pF]]<|.exit 0]<|pC [.co 18 [] (.id 86) [.mem [.fz,.fz,.fz,.fz,.fz,.fz,.fz,.fz,.fz,.fz,.fz,.fz,.fz,.fz,.fz,.fz,.fz,.fz,.fz,.fz,.fz,.own 102,.own 103],.fz,.fz] [.ag [.m 0 0,.m 0 1,.m 0 2,.m 0 3,.m 0 4,.m 0 5,.m 0 6,.m 0 7,.m 0 8,.m 0 9,.m 0 10,.m 0 11,.m 0 12,.m 0 13,.m 0 14,.m 0 15,.m 0 16,.m 0 17,.m 0 18,.m 0 19,.m 0 20,.m 0 21,.m 0 22],.s 6,.s 7]] [(0,pM (.ext (.s 18) 1) 23)])<|pc 3]<|px [pV 1<|.s 2],[(1,.v)]⟩
def c71:WW xP fresh sig [(.mem [.fz,.fz,.fz,.fz,.fz,.fz,.fz,.fz,.fz,.fz,.fz,.fz,.fz,.fz,.fz,.fz,.fz,.fz,.fz,.fz,.fz,(.own 102),(.own 103)])] [(0,(.mem [.fz,.fz,.fz,.fz,.fz,.fz,.fz,.fz,.fz,.fz,.fz,.fz,.fz,.fz,.fz,.fz,.fz,.fz,.fz,.fz,.fz,(.own 102),(.own 103)]))] Try.f71=J NC:=Z2
def Cz:Fn:=⟨13,[0,2,12,3,4,15,26,25,27,6,24,32,46],pQ [pR [pV 1 pF],pi 2 (.un .not<|.ae (.aq<|.s 0) 3)<|px [pV 1 pT],pR [pV 3<|.c<|.mp 0 [] []],pQ [pR [pV 4<|pI 3]]<|.block 0<|.loop [0,1,2,3,4]<|pQ [pu 5 (pL (.s 4)<|pI 4) .skip<|.exit 0,.block 1<|pQ [pR [pV 6<|pI 0,pV 7<|.len<|.ae (.ai (.bb (.aq<|.s 0) 17 4) (pb (.s 4)<|pI 1) 4 1 xk) 0,pV 10<|.ae (.ai (.bb (.aq<|.s 0) 17 4) (pb (.s 4)<|pI 1) 4 1 xk) 0]]<|.block 2<|.loop [0,1,2,3,4,5,6,7,10]<|pQ [pR [pV 8<|pl (.s 6)<|.s 7],.cond (.s 8) .skip<|.exit 2,.block 3<|pQ [pR [(9,pM (.bb (.az (.s 10) (.s 6) 5) 0 5) 5)],pi 11 (.un .not<|.m 9 3)<|.exit 3,pQ [.ao ⟨[.lt 13 []<|pn (.lk (.i .u64) (.ae (.aq<|.s 0) 21) (.m 9 4) (.int .i64 0) xw)<|pI 1],[([(13,xw)],.fl<|.lk (.i .u64) (.s 3) (.m 9 4) (.bool xw) xw)],[pV 12<|.ite (.s 13) pT<|.fl<|.lk (.i .u64) (.s 3) (.m 9 4) (.bool xw) xw]⟩]<|pw (.s 12)<|px [pV 1 pF]]<|pR [pV 3<|.dg (.i .u64) (.s 3) (.m 9 4) pT]]<|pc 6]<|pc 4]<|px [pV 1<|pe (.dz<|.s 3)<|.len<|.ae (.ai (.bb (.aq<|.s 0) 17 4) (pI 0) 4 1 xk) 0],[(1,.v)]⟩
def c72:ZY [.fz] Try.f72=J Cz:=Z2
def ND:Fn:=⟨9,[0,1,2,11,10,12,4,9,18],pQ [pR [(1,.m [.one<|.s 0]),pV 2 pF],pQ [pR [pV 3<|pI 0,pV 4<|.len<|.ae (.aq<|.m 1 0) 9,pV 7<|.ae (.aq<|.m 1 0) 9]]<|po [0,1,2,3,4,7] 5 (pl (.s 3)<|.s 4) (pQ [pR [pV 6<|.ae (.az (.s 7) (.s 3) 1) 0],pC [pK 9 87 [.m 1 0,.s 6,pI 1,pI 2]] [pV 8<|.un .not<|.s 9]]<|pw (.s 8)<|px [pV 2 pF])<|pc 3,pC [.call 10 [] (.id 88) xw xk [.m 1 0,pI 2,.pt (J 89) [.pt U [.m 1 0]]],.lt 11 []<|.s 10,.call 12 [(11,xk)] (.id 88) xw xk [.m 1 0,pI 1,.pt (J 90) [.pt U [.m 1 0]]]] [pV 2<|.ite (.s 11) (.s 12) pF]] .ret,[(2,.v)]⟩
def c73:ZY [.fz] Try.f73=J ND:=Z2
def NE:Fn:=⟨3,[0,1,2],pQ [pR [(1,.m [.one<|.s 0]),pV 2 pF],pC [.call 3 [] (.id 88) xw xk [.m 1 0,pI 1,.pt (J 91) [.pt U [.m 1 0]]]] [pV 2<|.s 3]] .ret,[(2,.v)]⟩
def c74:ZY [.fz] Try.f74=J NE:=Z2
def NF:Fn:=⟨4,[0,1,2,3],pQ [pR [(1,.m [.one<|.s 0]),pV 2 pF],pR [(3,.no)],pC [.call 4 [] (.id 88) xw xk [.m 1 0,pI 3,.pt (J 92) [.pt U [.m 1 0]]],.lt 5 []<|.s 4,.call 6 [(5,xk)] (.id 88) xw xk [.m 1 0,pI 4,.pt (J 92) [.pt U [.m 1 0]]]] [pV 2<|.ite (.s 5) (.s 6) pF,(3,.no)]] .ret,[(2,.v)]⟩
def c75:ZY [.fz] Try.f75=J NF:=Z2
def NG:Fn:=⟨2,[0,2],pQ [pR [pV 1 pF],pC [pK 2 35 [.s 0]] [pV 1<|pL (pa (pa (.len<|.ae (.aq<|.s 0) 5)<|.len<|.ae (.aq<|.s 0) 6)<|.s 2)<|.ae (.aq<|.s 0) 1]] .ret,[(1,.v)]⟩
def c76:ZY [.fz] Try.f76=J NG:=Z2
def NH:Fn:=⟨8,[0,1,2,4,5,6,7,22],pQ [pR [(2,pS 0 10),pV 3 pN,pV 4<|pI 0],pC [pK 8 33 [.mm 2 0 10]] [pV 5<|.ext (.s 8) 0,pV 6<|.ext (.s 8) 1],pQ [.ao ⟨[.lt 9 []<|.un .not<|.s 6,.lt 10 []<|.ite (.s 9) pT<|pl (.s 1)<|pI 1],[([(9,xw)],pl (.s 1)<|pI 1),([(10,xw)],pj (.s 1)<|pI 4)],[pV 7<|.ite (.s 10) pT<|pj (.s 1)<|pI 4]⟩]<|pw (.s 7)<|px [pV 4<|pI 1]]<|px [pV 3<|.ae (.ai (.bb (.aq<|.s 5) 17 4) (pb (.s 1)<|pI 1) 4 1 xk) 0,pV 4<|pI 0],[(3,.v),(4,.v)]⟩
def c79:ZY [.fz,.fz] Try.f79=J NH:=Z2
def NK:Fn:=⟨3,[0,1,4],pQ [pR [pV 2 pN]]<|px [pV 2<|.ai (.ag [.ae (.aq<|.s 0) 5,.ae (.aq<|.s 0) 6,.ae (.aq<|.s 0) 7,.ae (.aq<|.s 0) 8]) (pb (.s 1)<|pI 1) 4 1 xw],[(2,.v)]⟩
def c83:ZY [.fz,.fz] Try.f83=J NK:=Z2
def NL:Fn:=⟨14,[0,1,4,5,6,15,7,8,9,25,10,11,36,52],pQ [pR [pV 2 pN],pR [pV 3 pN],pQ [pR [pV 4<|pI 0]]<|.block 0<|.loop [0,1,2,3,4]<|pQ [pu 5 (pl (.s 4)<|.len<|.s 1) .skip<|.exit 0]<|.block 1<|pQ [pR [(6,.m [pI 0,pI 0])],pQ [pC [pK 14 56 [.ae (.az (.s 1) (.s 4) 1) 0]] [pV 7<|.ext (.s 14) 0,pV 8<|.ext (.s 14) 1]]<|pu 9 (pe (.s 8)<|pI 0) (pQ [pR [(10,pM (.sz (.ext (.lk (.i .u64) (.ae (.aq<|.s 0) 22) (.s 7) (.agg [.int .i64 0,.int .i64 0]) xk) 0) 2) 2),pV 11<|.ext (.lk (.i .u64) (.ae (.aq<|.s 0) 22) (.s 7) (.agg [.int .i64 0,.int .i64 0]) xk) 1],pi 12 (.un .not<|.s 11)<|px [pV 2<|.s 3,(3,.no)],pR [(6,pM (.mm 10 0 2) 2)]]<|pR [pV 3<|.app (.s 3) (.lit [.mm 6 0 2]) 2])<|pQ [pC [pK 15 61 [.ae (.az (.s 1) (.s 4) 1) 0]] [(6,pM (.sz (.ext (.s 15) 0) 2) 2),pV 8<|.ext (.s 15) 1]]<|pi 13 (pn (.s 8)<|pI 0)<|px [pV 2<|.s 3,(3,.no)]]<|pR [pV 4<|pa (.s 4)<|pa (pI 1)<|.m 6 0]]<|px [pV 2<|.s 3,(3,.no)],[(2,.v)]⟩
def c85:ZY [.fz,.fz] Try.f85=J NL:=Z2
def Lu:Fn:=⟨11,[0,1,2,19,18,20,7,17,8,9,42],pQ [.ao ⟨[],[([],.ai (.c<|.agg [(.bool xk),(.bool xk),(.bool xk),(.bool xk)]) (pb (.s 1)<|pI 1) 4 1 xw)],[(0,.m [.m 0 0,.m 0 1,.m 0 2,.m 0 3,.m 0 4,.m 0 5,.m 0 6,.m 0 7,.m 0 8,.m 0 9,.m 0 10,.m 0 11,.m 0 12,.m 0 13,.m 0 14,.m 0 15,.m 0 16,.ae (.df (.mm 0 17 4) (pb (.s 1)<|pI 1) 4 1<|.one<|.s 2) 0,.ae (.df (.mm 0 17 4) (pb (.s 1)<|pI 1) 4 1<|.one<|.s 2) 1,.ae (.df (.mm 0 17 4) (pb (.s 1)<|pI 1) 4 1<|.one<|.s 2) 2,.ae (.df (.mm 0 17 4) (pb (.s 1)<|pI 1) 4 1<|.one<|.s 2) 3,.m 0 21,.m 0 22])]⟩,pR [pV 3<|pI 0,pV 4<|.len<|.s 2,pV 7<|.s 2]]<|po [0,1,2,3,4,7] 5 (pl (.s 3)<|.s 4) (pQ [pR [(6,pM (.bb (.az (.s 7) (.s 3) 5) 0 5) 5)],pC [pK 11 23 [.mm 0 10 7,.ag [.one<|.s 1,.m 6 0]]] [pV 8<|.ext (.s 11) 0,pV 9<|.ext (.s 11) 1],pR [(0,.m [.m 0 0,.m 0 1,.m 0 2,.m 0 3,.m 0 4,.m 0 5,.m 0 6,.m 0 7,.m 0 8,.m 0 9,.m 0 10,.m 0 11,.m 0 12,.m 0 13,.m 0 14,.m 0 15,.m 0 16,.m 0 17,.m 0 18,.m 0 19,.m 0 20,.dg (.i .u64) (.m 0 21) (.s 8)<|.s 1,.m 0 22])]]<|pi 10 (pe (.s 1)<|pI 1)<|pR [(0,.m [.m 0 0,.m 0 1,.m 0 2,.m 0 3,.m 0 4,.m 0 5,.m 0 6,.m 0 7,.m 0 8,.m 0 9,.m 0 10,.m 0 11,.m 0 12,.m 0 13,.m 0 14,.m 0 15,.m 0 16,.m 0 17,.m 0 18,.m 0 19,.m 0 20,.m 0 21,.dg (.i .u64) (.m 0 22) (.s 8)<|.mm 6 1 2])])<|pc 3,[]⟩
def c86:WW xP fresh sig [(.mem [.fz,.fz,.fz,.fz,.fz,.fz,.fz,.fz,.fz,.fz,.fz,.fz,.fz,.fz,.fz,.fz,.fz,.fz,.fz,.fz,.fz,(.own 102),(.own 103)]),.fz,.fz] [(0,(.mem [.fz,.fz,.fz,.fz,.fz,.fz,.fz,.fz,.fz,.fz,.fz,.fz,.fz,.fz,.fz,.fz,.fz,.fz,.fz,.fz,.fz,(.own 102),(.own 103)]))] Try.f86=J Lu:=Z2
def CA:Fn:=⟨11,[0,1,2,3,8,14,9,10,21,11,12],pQ [pR [pV 4 pF],pi 5 (pe (.s 1)<|pU 0)<|px [pV 4 pT],pC [pK 11 56 [.s 1]] [pV 6<|.ext (.s 11) 0,pV 7<|.ext (.s 11) 1],pi 8 (pn (.s 7)<|pI 0)<|px [pV 4 pF],pR [pV 9<|.ext (.lk (.i .u64) (.ae (.aq<|.s 0) 21) (.s 6) (.int .i64 0) xk) 0,pV 10<|.ext (.lk (.i .u64) (.ae (.aq<|.s 0) 21) (.s 6) (.int .i64 0) xk) 1],.ao ⟨[.lt 12 []<|.s 10,.lt 13 []<|.ite (.s 12) (pg (.s 9)<|.s 2) pF],[([(12,xk)],pg (.s 9)<|.s 2),([(13,xk)],pL (.s 9)<|.s 3)],[pV 4<|.ite (.s 13) (pL (.s 9)<|.s 3) pF]⟩] .ret,[(4,.v)]⟩
def c87:ZY [.fz,.fz,.fz,.fz] Try.f87=J CA:=Z2
def NM:Fn:=⟨17,[0,1,2,6,7,23,22,24,9,21,28,32,31,33,10,11,47],pQ [pR [pV 3 pF],pC [pK 17 83 [.s 0,.s 1]] [pV 4<|.s 17],pQ [pR [pV 5<|pI 0,pV 6<|.len<|.ae (.ai (.bb (.aq<|.s 0) 17 4) (pb (.s 1)<|pI 1) 4 1 xk) 0,pV 9<|.ae (.ai (.bb (.aq<|.s 0) 17 4) (pb (.s 1)<|pI 1) 4 1 xk) 0]]<|po [0,1,2,3,4,5,6,9] 7 (pl (.s 5)<|.s 6) (pQ [pR [(8,pM (.bb (.az (.s 9) (.s 5) 5) 0 5) 5)],pi 10 (.m 8 3)<|.exit 1,pR [pV 11<|pI 0,pV 12<|.m 8 2]]<|.block 2<|.loop [0,1,2,3,4,5,6,7,8,9,10,11,12]<|pQ [pR [pV 13<|pl (.s 11)<|.s 12],.cond (.s 13) .skip<|.exit 2,.block 3<|pQ [pR [pV 14<|.s 11],pR [pV 15<|pa (pa (.m 8 0)<|pI 1)<|.s 14],pC [.call 18 [] (.e<|.s 2) xw xw [.s 15,.ae (.az (.s 4) (.s 15) 1) 0]] [pV 16<|.un .not<|.s 18]]<|pw (.s 16)<|px [pV 3 pF]]<|pc 11)<|pc 5]<|px [pV 3 pT],[(3,.v)]⟩
def c88:ZY [.fz,.fz,.fz] Try.f88=J NM:=Z2
def NN:Fn:=⟨4,[0,1,2,5],pQ [pR [pV 3 pF],pC [pK 4 87 [.ae (.aq<|.s 2) 0,.s 1,pI 1,pI 2]] [pV 3<|.s 4]] .ret,[(3,.v)]⟩
def c89:ZY [.fz,.fz,.fz] Try.f89=J NN:=Z2
def CB:Fn:=⟨4,[0,1,2,5],pQ [pR [pV 3 pF],pC [.lt 4 []<|pg (.s 0)<|.ae (.aq<|.ae (.aq<|.s 2) 0) 4,.call 5 [(4,xw)] (.id 87) xw xw [.ae (.aq<|.s 2) 0,.s 1,pI 1,pI 2]] [pV 3<|.ite (.s 4) pT<|.s 5]] .ret,[(3,.v)]⟩
def c90:ZY [.fz,.fz,.fz] Try.f90=J CB:=Z2
def CC:Fn:=⟨4,[0,1,2,5],pQ [pR [pV 3 pF],pC [.lt 4 []<|pl (.s 0)<|.ae (.aq<|.ae (.aq<|.s 2) 0) 4,.call 5 [(4,xw)] (.id 87) xw xw [.ae (.aq<|.s 2) 0,.s 1,pI 1,pI 4]] [pV 3<|.ite (.s 4) pT<|.s 5]] .ret,[(3,.v)]⟩
def c91:ZY [.fz,.fz,.fz] Try.f91=J CC:=Z2
def NO:Fn:=⟨4,[0,1,2,5],pQ [pR [pV 3 pF],pC [pK 4 87 [.ae (.aq<|.s 2) 0,.s 1,pI 3,pI 4]] [pV 3<|.s 4]] .ret,[(3,.v)]⟩
def c92:ZY [.fz,.fz,.fz] Try.f92=J NO:=Z2
end Vm
end
section
namespace Vm
open Go Go.Proofs
def XW{α:Type}(l:List<|Int×α)(k:Int)(v:α):List<|Int×α:=match l.findIdx? (·.1==k)with
 |some i=>l.set i (k,v)
 |none=>l++[(k,v)]
def Y3{α:Type}(l:List<|Int×α)(k:Int):Option α:=(l.find? (·.1==k)).map (·.2)
def Yg{α:Type}(f:α->V)(l:List<|Int×α):V:=.mp 0 (l.map λx=>vu x.1) (l.map λx=>f x.2)
def AN{α:Type}{k}:∀ {l:List (Int×α)},TJ (vu k) (l.map λx=>vu x.1)=J (l.findIdx? (·.1==k))
 | []=>rfl
 |y::l=>by
  simp only[ZhR,TJ,L5,Zkc];by_cases h:k=y.1;simp[h];have a:(k==y.1)=xw:=Zhe;have d:(y.1==k)=xw:=by simpa using Zj5 h
  simp[a,d,AN]
def KM{α:Type}{p}:∀ {l:List α},l.find? p=(l.findIdx? p).bind λi=>l[i]?
 | []=>rfl
 |x::l=>by
  rw[List.find?_cons,Zkc];cases h:p x;simp;rw[KM (l:=l)];cases l.findIdx? p<;>simp;simp
theorem Qt{α f}{l:List (Int×α)}{k z ok}:UH (.i .u64) (Yg f l) (vu k) z ok=match Y3 l k with
  |some x=>J (if ok then .am [f x,.bool xk]else f x)
  |none=>J (if ok then .am [z,.bool xw]else z):=by
 unfold UH Yg Y3;simp[Vl,AN,KM];grind [List.findIdx?_eq_some_iff_getElem]
def La{α f l k}{x:α}:Ti (.i .u64) (Yg f l) (vu k) (f x)=J (Yg f<|XW l k x):=by
 unfold Ti Yg XW;simp[Vl,AN];cases h:l.findIdx? (·.1==k)with
 |none=>simp
 |some i=>
  let⟨d,g,_⟩:=Zii.1 h;have a:(l[i]).1=k:=Zhd;simp only[Zhh,V.mp.injEq,true_and];constructor;rw[Zk6];apply ZiO;intro j;rw[List.getElem?_set];split;rename_i e;subst e;simp[d,a];rfl;rw[Zk6]
@[simp]theorem ZeV{α}f(l:List<|Int×α):YU (Yg f l)=J (Yg f l):=rfl
@[simp]theorem ZcZ{α}f(l:List<|Int×α):(Yg f l).cells=[Yg f l]:=rfl
@[simp]theorem Zf6{α}f(l:List<|Int×α):(Yg f l).one=xk:=rfl
@[simp]theorem ZeL{α}f(l:List<|Int×α):Ri (Yg f l)=J (vi<|I l):=by simp[Yg]
def Jk{α l k j}{x:α}:Y3 (XW l k x) j=if k=j then J x else Y3 l j:=by
 unfold Y3 XW;cases h:l.findIdx? (·.1==k)with
 |none=>
  grind
 |some i=>
  let⟨d,o,a⟩:=Zii.1 h;by_cases e:k=j;subst e;rw[Zht rfl,KM];grind [List.findIdx?_eq_some_iff_getElem,List.getElem_set_ne];rw[Zhs e,KM,KM];have:(l.set i (k,x)).findIdx? (·.1==j)=l.findIdx? (·.1==j):=by
   apply Option.ext;intro q;rw[Zii,Zii];constructor;grind;grind
  rw[this];cases f:l.findIdx? (·.1==j)with
  |none=>rfl
  |some q=>
   let⟨g,n,_⟩:=Zii.1 f;grind
structure Ck where
 h:Hp
 o1:List Ob
 o2:List Ob
 o3:List Ob
 o4:List Ob
 pm:List<|Int×Int
 lm:List<|Int×(Int×Int)
def Ck.du(s:Ck)(k:Int):List Ob:=if k=1 then s.o1 else if k=2 then s.o2 else if k=3 then s.o3 else s.o4
def ZV(s:Ck):List V:=[vu s.h.base,vi s.h.cap,vi s.h.to,.bool s.h.Y,vi s.h.aa,.sl<|s.h.H.map vu,.sl<|s.h.ab.map vu,.sl<|s.h.ah.map vu,.sl<|s.h.al.map vu,.sl<|s.h.E.map vu,
 vu s.h.base,vi s.h.cap,vi s.h.to,vi<|I s.h.H,vi<|I s.h.ab,vi<|I s.h.ah,vi<|I s.h.al,
 .sl (s.o1.map ZM),.sl<|s.o2.map ZM,.sl<|s.o3.map ZM,.sl<|s.o4.map ZM,Yg vi s.pm,Yg We s.lm]
def Xb(s:Ck):V:=.ptr<|ZV s
def RM:IntKind.i64.wrap 0=0:=ZgB
def Tv:IntKind.i64.wrap 1=1:=ZgB
def U9:IntKind.i64.wrap 2=2:=ZgB
def Us:IntKind.i64.wrap 3=3:=ZgB
def Z0p{s:Ck}{k:Int}(a:1<=k/\k<=4):VC xP 83 xw [Xb s,vi k]<|.sl<|(Zw s.h k).map vu:=by
 refine ZR Z26 follows Z2 c83 rfl ?_;have:k=1\/k=2\/k=3\/k=4:=Z0;obtain rfl|rfl|rfl|rfl:=this<;>simp[NK,Xb,ZV,Zw,Ya,RM,Tv,U9,Us]
def YR(s:Ck)(w first last:Int):Bool:=decide (w=0)||(decide ((adr w).2=0)&&match Y3 s.pm (adr w).1 with
 |some k=>decide (first<=k)&&decide (k<=last)
 |none=>xw)
def LC{s:Ck}{w first last:Int}(f:ZB w):VC xP 87 xw [Xb s,vu w,vi first,vi last]<|.bool<|YR s w first last:=by
 refine ZR Z2a follows Z2 c87 rfl ?_;unfold YR;by_cases a:w=0;simp[CA,a];simp[CA,a,Xb,ZV];refine Zz (Ko f) Z1 ?_;by_cases d:(adr w).2=0;case neg=>simp[d]
 simp[d,Qt];cases g:Y3 s.pm (adr w).1 with
 |none=>simp
 |some k=>
  simp_all
def WH(h:Hp)(k:Int):List (Int×Int)->List Ob->List (Int×Int)
 |m,[]=>m
 |m,o::l=>WH h k (XW m (Y2 (Zv h) k o.Z).1 k) l
def XB(h:Hp)(k:Int):List (Int×(Int×Int))->List Ob->List (Int×(Int×Int))
 |m,[]=>m
 |m,o::l=>XB h k (if k=1 then XW m (Y2 (Zv h) k o.Z).1 (o.size,o.M)else m) l
def Ck.put(s:Ck)(k:Int)(l:List Ob):Ck:=if k=1 then {s with o1:=l}else if k=2 then {s with o2:=l}else if k=3 then {s with o3:=l}else {s with o4:=l}
def XV(s:Ck)(k:Int)(l:List Ob):Ck:= {s.put k l with pm:=WH s.h k s.pm l,lm:=XB s.h k s.lm l}
def Lh{h k}:∀ {l:List Ob} {i:Nat} {o:Ob} {m:List (Int×Int)},l[i]?=J o->WH h k m (l.take<|i+1)=XW (WH h k m<|l.take i) (Y2 (Zv h) k o.Z).1 k
 | [],_,_,_,h=>ZgY
 |x::l,0,o,m,h=>by simp_all[WH]
 |x::l,i+1,o,m,h=>by
  simp_all[ZkN,WH,Lh]
def Le{h k}:∀ {l:List Ob} {i:Nat} {o:Ob} {m:List (Int×(Int×Int))},l[i]?=J o->XB h k m (l.take<|i+1)=if k=1 then XW (XB h k m<|l.take i) (Y2 (Zv h) k o.Z).1 (o.size,o.M)else XB h k m (l.take i)
 | [],_,_,_,h=>ZgY
 |x::l,0,o,m,h=>by simp_all[XB]
 |x::l,i+1,o,m,h=>by
  simp_all[ZkN,XB,Le]
abbrev zX:List CK:=[.fz,.fz,.fz,.fz,.fz,.fz,.fz,.fz,.fz,.fz,.fz,.fz,.fz,.fz,.fz,.fz,.fz,.fz,.fz,.fz,.fz,.own 102,.own 103]
@[simp]theorem Z8G(s:Ck)k l:(s.put k l).h=s.h:=by
 unfold Ck.put;split;rfl;split;rfl;split<;>rfl
def qk{l k x}:Ti (.i .u64) (Yg vi l) (vu k) (vi x)=J (Yg vi<|XW l k x):=La
def ql{l k a b}:Ti (.i .u64) (Yg We l) (vu k) (.agg [vi a,vi b])=J (Yg We<|XW l k (a,b)):=La (f:=We) (x:=(a,b))
def qu{s:Ck}(r:s.h.ok){k:Int}(w:1<=k/\k<=4){l:List Ob}(x:I l<=1000000):Vv xP 86 [.mem zX,.fz,.fz] [.agg<|ZV s,vi k,.sl<|l.map ZM]<|.am [.am [],.agg<|ZV<|XV s k l]:=by
 refine Kc Z29 follows Z2 c86 Z2 ?_;have t:k=1\/k=2\/k=3\/k=4:=Z0;have q:I l<=Y4:=by unfold Y4;omega
 have u:∀k,({s.put k l with pm:=s.pm,lm:=s.lm}:Ck)=s.put k l:=by
  intro k;unfold Ck.put;split;rfl;split;rfl;split<;>rfl
 have o:=λ(k at_:Int)=>Fx r.bd (part:=k) (at_:=at_);unfold Zv X4 at o;obtain rfl|rfl|rfl|rfl:=t
 .simp[Lu,ZV,Ya,UZ,RM,Tv,U9,Us,setCells];refine VO 3 (I l) (λi=>[(0,.m<|ZV {s.put 1 l with pm:=WH s.h 1 s.pm<|l.take i,lm:=XB s.h 1 s.lm (l.take i)}),(3,.v<|vi i)]) (λ_=>True) (by simp[ZV,Ck.put,WH,XB]) Z1 trivial ?_;intro i p _;have d:=Zy ((i:Int)+1) Z0 Z0;by_cases a:i<I l
  .have f:l[i]?=J l[i]:=Zhi a;have g:=Lh (h:=s.h) (k:=1) (m:=s.pm) f;have j:=Le (h:=s.h) (k:=1) (m:=s.lm) f;have n:=o 1 (l[i]).Z;simp[a,f,d,ZV,Xc];refine Zz n Z1 ?_;simp[qk,ql,g,j,d,a];first|done|rfl|exact⟨rfl,rfl⟩
  have:i=I l:=Z0;subst this;simp[ZV,XV,Ziy]
 .simp[Lu,ZV,Ya,UZ,RM,Tv,U9,Us,setCells];refine VO 3 (I l) (λi=>[(0,.m<|ZV {s.put 2 l with pm:=WH s.h 2 s.pm<|l.take i,lm:=XB s.h 2 s.lm (l.take i)}),(3,.v<|vi i)]) (λ_=>True) (by simp[ZV,Ck.put,WH,XB]) Z1 trivial ?_;intro i p _;have d:=Zy ((i:Int)+1) Z0 Z0;by_cases a:i<I l
  .have f:l[i]?=J l[i]:=Zhi a;have g:=Lh (h:=s.h) (k:=2) (m:=s.pm) f;have j:=Le (h:=s.h) (k:=2) (m:=s.lm) f;have n:=o 2 (l[i]).Z;simp[a,f,d,ZV,Xc];refine Zz n Z1 ?_;simp[qk,ql,g,j,d,a];first|done|rfl|exact⟨rfl,rfl⟩
  have:i=I l:=Z0;subst this;simp[ZV,XV,Ziy]
 .simp[Lu,ZV,Ya,UZ,RM,Tv,U9,Us,setCells];refine VO 3 (I l) (λi=>[(0,.m<|ZV {s.put 3 l with pm:=WH s.h 3 s.pm<|l.take i,lm:=XB s.h 3 s.lm (l.take i)}),(3,.v<|vi i)]) (λ_=>True) (by simp[ZV,Ck.put,WH,XB]) Z1 trivial ?_;intro i p _;have d:=Zy ((i:Int)+1) Z0 Z0;by_cases a:i<I l
  .have f:l[i]?=J l[i]:=Zhi a;have g:=Lh (h:=s.h) (k:=3) (m:=s.pm) f;have j:=Le (h:=s.h) (k:=3) (m:=s.lm) f;have n:=o 3 (l[i]).Z;simp[a,f,d,ZV,Xc];refine Zz n Z1 ?_;simp[qk,ql,g,j,d,a];first|done|rfl|exact⟨rfl,rfl⟩
  have:i=I l:=Z0;subst this;simp[ZV,XV,Ziy]
 .simp[Lu,ZV,Ya,UZ,RM,Tv,U9,Us,setCells];refine VO 3 (I l) (λi=>[(0,.m<|ZV {s.put 4 l with pm:=WH s.h 4 s.pm<|l.take i,lm:=XB s.h 4 s.lm (l.take i)}),(3,.v<|vi i)]) (λ_=>True) (by simp[ZV,Ck.put,WH,XB]) Z1 trivial ?_;intro i p _;have d:=Zy ((i:Int)+1) Z0 Z0;by_cases a:i<I l
  .have f:l[i]?=J l[i]:=Zhi a;have g:=Lh (h:=s.h) (k:=4) (m:=s.pm) f;have j:=Le (h:=s.h) (k:=4) (m:=s.lm) f;have n:=o 4 (l[i]).Z;simp[a,f,d,ZV,Xc];refine Zz n Z1 ?_;simp[qk,ql,g,j,d,a];first|done|rfl|exact⟨rfl,rfl⟩
  have:i=I l:=Z0;subst this;simp[ZV,XV,Ziy]
end Vm
namespace Vm
open Go Go.Proofs
def Vg(s:Ck):V:=.ptr [Xb s]
def Zah{s:Ck}{a w:Int}(d:ZB w):VC xP 89 xw [vi a,vu w,Vg s]<|.bool<|YR s w 1 2:=by
 refine ZR Z2c follows Z2 c89 rfl ?_;have k:=LC (s:=s) (first:=1) (last:=2) d;unfold Vg Xb at*;simp[NN,YU,V.one];refine Zz k Z1 ?_;simp
def Zai{s:Ck}{a w:Int}(d:ZB w):VC xP 90 xw [vi a,vu w,Vg s]<|.bool<|decide (s.h.aa<=a)||YR s w 1 2:=by
 refine ZR Z2e follows Z2 c90 rfl ?_;have k:=LC (s:=s) (first:=1) (last:=2) d;unfold Vg Xb at*;by_cases h:s.h.aa<=a;simp[CB,YU,V.one,ZV,h];simp[CB,YU,V.one,ZV,h];refine Zz k (by simp[ZV]) ?_;simp[h]
def Zbh{s:Ck}{a w:Int}(d:ZB w):VC xP 91 xw [vi a,vu w,Vg s]<|.bool<|decide (a<s.h.aa)||YR s w 1 4:=by
 refine ZR Z2f follows Z2 c91 rfl ?_;have k:=LC (s:=s) (first:=1) (last:=4) d;unfold Vg Xb at*;by_cases h:a<s.h.aa;simp[CC,YU,V.one,ZV,h];simp[CC,YU,V.one,ZV,h];refine Zz k (by simp[ZV]) ?_;simp[h]
def IJ{s:Ck}{a w:Int}(d:ZB w):VC xP 92 xw [vi a,vu w,Vg s]<|.bool<|YR s w 3 4:=by
 refine ZR Z2g follows Z2 c92 rfl ?_;have k:=LC (s:=s) (first:=3) (last:=4) d;unfold Vg Xb at*;simp[NO,YU,V.one];refine Zz k Z1 ?_;simp
structure Ck.ok (s:Ck):Prop where
 h:s.h.ok
 ob:∀k,∀o∈s.du k,Kl (I<|Zw s.h k) o/\ZB o.target
 len:∀k,I (s.du k)<=1000000
def Ua(ws:List Int)(k:Nat):Int:=(ws[k]?).getD 0
def obQ(s:Ck)(k:Int)(q:Int->Int->Bool)(o:Ob):Bool:=o.gone||(List.range o.M.toNat).all λj=>q ((o.Z.toNat+1+j:Nat):Int)<|Ua (Zw s.h k)<|o.Z.toNat+1+j
def V4(s:Ck)(k:Int)(q:Int->Int->Bool):Bool:=(s.du k).all<|obQ s k q
def LB{s:Ck}(u:s.ok){k:Int}(W:1<=k/\k<=4){f:FuncId}{cs:List V}{q:Int->Int->Bool}(hq:∀a w,ZB w->VC xP f xw ([vi a,vu w]++cs) (.bool<|q a w)):
  VC xP 88 xw [Xb s,vi k,.cq f cs] (.bool<|V4 s k q):=by
 refine ZR Z2b follows Z2 c88 rfl ?_;simp[-List.all_eq_true,-List.all_eq_false,NM];refine Zz (Z0p W) Z1 ?_;have Z:Y0 (.agg [.sl<|s.o1.map ZM,.sl<|s.o2.map ZM,.sl<|s.o3.map ZM,.sl<|s.o4.map ZM]) 0=J (.sl<|s.o1.map ZM):=rfl;have Q:=u.len k;have D:=u.ob k;have hw:=(XN u.h k).1;have Y:=(XN u.h k).2;have x:Ya (.agg [.sl<|s.o1.map ZM,.sl<|s.o2.map ZM,.sl<|s.o3.map ZM,.sl<|s.o4.map ZM]) (.int .i64<|IntKind.i64.wrap<|k-1) 4 1 xk=J (.agg [.sl<|(s.du k).map ZM]):=by
  have:k=1\/k=2\/k=3\/k=4:=Z0;obtain rfl|rfl|rfl|rfl:=this<;>simp[Ya,Ck.du,RM,Tv,U9,Us]
 unfold V4;generalize hL:s.du k=L at*;generalize S:Zw s.h k=r at*;simp[-List.all_eq_true,-List.all_eq_false,Xb,ZV,x];refine jU 5 (I L) (λi=>(L.take i).all (obQ s k q)=xk) Z1 Z1 Z1 ?_;intro i hi O;have a0:=Zy ((i:Int)+1) Z0 Z0;by_cases l:i<I L;have M:L[i]?=J L[i]:=Zhi l;obtain⟨⟨⟨a,N,P⟩,F⟩,_⟩:=D _<|ZhE l;generalize L[i]=o at*;obtain⟨s1,s2,s3,s4⟩:=Yy.1 F;obtain⟨m,R⟩:=Zhy s3;have G:=Zy ((a:Int)+1) Z0 Z0;have C:obQ s k q o=xk->(L.take<|i+1).all (obQ s k q)=xk:=λh=>by simp_all[FD]
 have y:obQ s k q o=xw->L.all (obQ s k q)=xw:=λg=>FB M g;cases z:o.gone;have t:obQ s k q o=(List.range m).all λj=>q ((a+1+j:Nat):Int)<|Ua r<|a+1+j:=by
  unfold obQ;rw[R,N,S,z];rfl
 simp[-List.all_eq_true,-List.all_eq_false,l,M,Yn M,Xc,z,N,R];refine jU 11 m (λj=>((List.range j).all λj=>q ((a+1+j:Nat):Int)<|Ua r<|a+1+j)=xk) Z1 Z1 Z1 ?_;intro j hj T;have a1:=Zy ((j:Int)+1) Z0 Z0;by_cases A:j<m;obtain⟨w,d,hu⟩:∃w,r[a+1+j]?=J w/\ZB w:=⟨_,Zhi Z0,hw _<|ZhE _⟩;have K:Ua r (a+1+j)=w:=by unfold Ua;rw[d];rfl
 have p:((List.range<|j+1).all λj=>q ((a+1+j:Nat):Int)<|Ua r<|a+1+j)=(((List.range j).all λj=>q ((a+1+j:Nat):Int)<|Ua r<|a+1+j)&&q ((a+1+j:Nat):Int) w):=by
  rw[ZjG,List.all_append];simp[K]
 have g:q ((a+1+j:Nat):Int) w=xw->L.all (obQ s k q)=xw:=λg=>y (by
  grind)
 obtain⟨n,X⟩:∃n,a+1+j=n:=⟨_,rfl⟩;have B:(a:Int)+1+(j:Int)=(n:Int):=Z0;have H:=Zy (n:Int) Z0 Z0;rw[X]at d p g;have kq:=hq (n:Int) w hu;simp[-List.all_eq_true,-List.all_eq_false,A,G,B,H,d,Yn d,Xc];refine Zz kq Z1 ?_;simp_all;have:j=m:=Z0;simp_all;have t:obQ s k q o=xk:=by unfold obQ;rw[z];rfl
 simp_all;have:i=I L:=Z0;simp_all
@[simp]theorem Zfe l:(V.ptr l).one=xk:=rfl
@[simp]theorem Zf3 l:YU (.ptr l)=J (.ptr l):=rfl
@[simp]theorem Zfa f l:(V.cq f l).one=xk:=rfl
@[simp]theorem ZeZ f l:YU (.cq f l)=J (.cq f l):=rfl
@[simp]theorem ZeY s:YU (Xb s)=J (Xb s):=rfl
@[simp]theorem Zf9 s:(Xb s).one=xk:=rfl
@[simp]theorem ZfG s:Tu (Xb s)=J (.agg<|ZV s):=rfl
@[simp]theorem Zdg s:(ZV s)[4]?=J (vi s.h.aa):=rfl
@[simp]theorem Zd9 s:(ZV s)[3]?=J (.bool s.h.Y):=rfl
@[simp]theorem Zdf s:(ZV s)[9]?=J (.sl<|s.h.E.map vu):=rfl
@[simp]theorem Zdd s:(ZV s)[5]?=J (.sl<|s.h.H.map vu):=rfl
@[simp]theorem Zdb s:(ZV s)[6]?=J (.sl<|s.h.ab.map vu):=rfl
@[simp]theorem Zde s:(ZV s)[7]?=J (.sl<|s.h.ah.map vu):=rfl
@[simp]theorem Zda s:(ZV s)[8]?=J (.sl<|s.h.al.map vu):=rfl
@[simp]theorem Zd8 s:(ZV s)[1]?=J (vi s.h.cap):=rfl
def QO(s:Ck):Bool:=s.h.E.all (λw=>YR s w 1 2)&&(V4 s 2 (λ_ w=>YR s w 1 2)&&V4 s 1 (λa w=>decide (s.h.aa<=a)||YR s w 1 2))
def Zaj{s:Ck}(n:s.ok):VC xP 73 xw [Xb s]<|.bool<|QO s:=by
 refine ZR Z1Z follows Z2 c73 rfl ?_;have k1:=LB n (k:=2) Z0 (f:=89) (cs:=[Vg s]) (q:=λ_ w=>YR s w 1 2) (λa w l=>Zah l);have y:=LB n (k:=1) Z0 (f:=90) (cs:=[Vg s]) (q:=λa w=>decide (s.h.aa<=a)||YR s w 1 2) (λa w l=>Zai l);have C:=λw (l:ZB w)=>LC (s:=s) (first:=1) (last:=2) l;have A:=n.h.E;have t:=n.h.dj;unfold QO;unfold Vg at k1 y;generalize V4 s 2 (λ_ w=>YR s w 1 2)=z at*;generalize V4 s 1 (λa w=>decide (s.h.aa<=a)||YR s w 1 2)=D at*;simp[-List.all_eq_true,-List.all_eq_false,ND];refine jU 3 (I s.h.E) (λi=>(s.h.E.take i).all (λw=>YR s w 1 2)=xk) Z1 Z1 Z1 ?_;intro i F g;have u:=Zy ((i:Int)+1) Z0 Z0;by_cases j:i<I s.h.E;have o:s.h.E[i]?=J s.h.E[i]:=Zhi j;have B:=t _<|ZhE j;generalize s.h.E[i]=w at*;have p:YR s w 1 2=xw->s.h.E.all (λw=>YR s w 1 2)=xw:=λr=>FB o r;have d:=FD (q:=λw=>YR s w 1 2) o;rw[g]at d;simp[-List.all_eq_true,-List.all_eq_false,j,o,Yn o,Xc];refine Zz (C w B) Z1 ?_;cases x:YR s w 1 2;simp[-List.all_eq_true,-List.all_eq_false,p x];rw[x]at d;simp[-List.all_eq_true,-List.all_eq_false,u,j,d];have:i=I s.h.E:=Z0;subst this;rw[Zj9]at g;simp[-List.all_eq_true,-List.all_eq_false,g];refine Zz k1 (by simp[WE,V.bf]) ?_;cases z;simp;simp;refine Zz y (by simp[WE,V.bf]) ?_;simp
def QR(s:Ck):Bool:=V4 s 1 (λa w=>decide (a<s.h.aa)||YR s w 1 4)
def Zbi{s:Ck}(d:s.ok):VC xP 74 xw [Xb s]<|.bool<|QR s:=by
 refine ZR Z20 follows Z2 c74 rfl ?_;have k1:=LB d (k:=1) Z0 (f:=91) (cs:=[Vg s]) (q:=λa w=>decide (a<s.h.aa)||YR s w 1 4) (λa w g=>Zbh g);unfold QR;unfold Vg at k1;simp[NE];refine Zz k1 (by simp[WE,V.bf]) ?_;simp
def Qr(s:Ck):Bool:=V4 s 3 (λ_ w=>YR s w 3 4)&&V4 s 4 (λ_ w=>YR s w 3 4)
def Z61{s:Ck}(g:s.ok):VC xP 75 xw [Xb s]<|.bool<|Qr s:=by
 refine ZR Z21 follows Z2 c75 rfl ?_;have k1:=LB g (k:=3) Z0 (f:=92) (cs:=[Vg s]) (q:=λ_ w=>YR s w 3 4) (λa w d=>IJ d);have h:=LB g (k:=4) Z0 (f:=92) (cs:=[Vg s]) (q:=λ_ w=>YR s w 3 4) (λa w d=>IJ d);unfold Qr;unfold Vg at k1 h;generalize V4 s 3 (λ_ w=>YR s w 3 4)=j at*;generalize V4 s 4 (λ_ w=>YR s w 3 4)=l at*;simp[NF];refine Zz k1 (by simp[WE,V.bf]) ?_;cases j;simp;simp;refine Zz h (by simp[WE,V.bf]) ?_;simp
end Vm
namespace Vm
open Go Go.Proofs
def R3(s:Ck):Bool:=ZJ (Zv s.h)&&(decide (I s.h.E<=16)&&(decide (0<=s.h.aa)&&decide (s.h.aa<=I s.h.H)))
def Z31{s:Ck}(f:s.h.ok):VC xP 69 xw [Xb s]<|.bool<|R3 s:=by
 refine ZR Z1U follows Z2 c69 rfl ?_;have k:=LR f.bd;unfold R3;unfold Zv X4 at k;simp[NB];simp[ZV];refine Zz k Z1 ?_;have e:ZJ {base:=s.h.base,cap:=s.h.cap,to:=s.h.to,H:=(I s.h.H:Int),ab:=(I s.h.ab:Int),ah:=(I s.h.ah:Int),al:=(I s.h.al:Int)}=ZJ (Zv s.h):=rfl;rw[e];cases ZJ (Zv s.h);simp;by_cases d:I s.h.E<=16;have a:(I s.h.E:Int)<=16:=Z0;simp_all;have a:¬(I s.h.E:Int)<=16:=Z0;simp[d,a]
def QJ(s:Ck):Bool:=if s.h.Y then decide (s.h.aa<I s.h.H)else decide (I s.h.ah=0)&&(decide (I s.h.al=0)&&decide (s.h.aa=I s.h.H))
def Z9r{s:Ck}:VC xP 70 xw [Xb s]<|.bool<|QJ s:=by
 refine ZR Z1W follows Z2 c70 rfl ?_;unfold QJ;cases f:s.h.Y;by_cases g:I s.h.ah=0;have a:s.h.ah=[]:=Zje.1 g;by_cases j:I s.h.al=0;have d:s.h.al=[]:=Zje.1 j;simp[Lt,f,a,d];have d:¬s.h.al=[]:=λe=>j (by simp[e]);simp[Lt,f,a,j,d];have a:¬s.h.ah=[]:=λe=>g (by simp[e]);simp[Lt,f,g,a];simp[Lt,f]
def SP(s:Ck):Nat:=Y1 s.o3+Y1 s.o4
@[simp]theorem ZeP s:((ZV s).drop 17).take 4=[.sl<|s.o1.map ZM,.sl<|s.o2.map ZM,.sl<|s.o3.map ZM,.sl<|s.o4.map ZM]:=rfl
@[simp]theorem Zdc s:I (ZV s)=23:=rfl
def Z0a{s:Ck}(t:s.ok):VC xP 35 xw [Xb s]<|vi<|SP s:=by
 refine ZR Z1B follows Z2 c35 rfl ?_;have p:∀k,∀o∈s.du k,YC o.size o.M=xk:=λk o n=>(t.ob k o n).1.2;have K:I s.o3<=1000000:=t.len 3;have L:I s.o4<=1000000:=t.len 4;have a:∀o∈s.o3,YC o.size o.M=xk:=p 3;have d:∀o∈s.o4,YC o.size o.M=xk:=p 4;have F:=Ke a;have G:=Ke d;have A:Ya (.agg [.sl<|s.o1.map ZM,.sl<|s.o2.map ZM,.sl<|s.o3.map ZM,.sl<|s.o4.map ZM]) (.int .i64 2) 4 1 xk=J (.agg [.sl<|s.o3.map ZM]):=by simp[Ya]
 have B:Ya (.agg [.sl<|s.o1.map ZM,.sl<|s.o2.map ZM,.sl<|s.o3.map ZM,.sl<|s.o4.map ZM]) (.int .i64 3) 4 1 xk=J (.agg [.sl<|s.o4.map ZM]):=by simp[Ya]
 simp[Nk];refine RR (λ(i:Nat)=>[(2,.v<|vi ((if 0<i then Y1 s.o3 else 0)+(if 1<i then Y1 s.o4 else 0):Nat)),(3,.v<|vi ((i+3:Nat):Int))]) (λi=>i<=2) (XR 3 5) 0 Z1 Z1 ?_;rintro i M;have q:i=0\/i=1\/i=2:=Z0;obtain rfl|rfl|rfl:=q;simp[U9,A];refine VO 5 (I s.o3) (λj=>[(2,.v<|vi<|Y1<|s.o3.take j),(5,.v<|vi j)]) (λ_=>True) (by simp[Y1]) (λi=>Z1) trivial ?_;rintro j H-;have w:=Zy ((j:Int)+1) Z0 Z0;by_cases h:j<I s.o3;have x:s.o3[j]?=J s.o3[j]:=Zhi h;have f:=a _<|ZhE h;have u:=Z0y x;generalize s.o3[j]=o at*;have r:Y1 (s.o3.take j)<=256*I s.o3:=by
  refine ZhU (Ke λo n=>a o<|Zio n) ?_;simp;omega
 obtain⟨g1,g2,C,D⟩:=Yy.1 f;obtain⟨z,y⟩:=Zhy g1;have w1:=Zy (1+(z:Int)) Z0 Z0;have w2:=Zy ((Y1 (s.o3.take j):Int)+(1+z)) Z0 Z0;cases l:o.gone;have g:Wh o=1+z:=by simp[Wh,l,y]
 simp_all;have g:Wh o=0:=by simp[Wh,l]
 simp_all;have:j=I s.o3:=Z0;subst this;rw[Zj9];simp[Xc,Zy];exact⟨1,Z0,Z1,by simp[XR]⟩;simp[Us,B];refine VO 5 (I s.o4) (λj=>[(2,.v<|vi (Y1 s.o3+Y1 (s.o4.take j):Nat)),(5,.v<|vi j)]) (λ_=>True) (by simp[Y1]) (λi=>Z1) trivial ?_;rintro j H-;have w:=Zy ((j:Int)+1) Z0 Z0;by_cases h:j<I s.o4;have x:s.o4[j]?=J s.o4[j]:=Zhi h;have f:=d _<|ZhE h;have u:=Z0y x;generalize s.o4[j]=o at*;have r:Y1 (s.o4.take j)<=256*I s.o4:=by
  refine ZhU (Ke λo n=>d o<|Zio n) ?_;simp;omega
 obtain⟨g1,g2,C,D⟩:=Yy.1 f;obtain⟨z,y⟩:=Zhy g1;have w1:=Zy (1+(z:Int)) Z0 Z0;have w2:=Zy ((Y1 s.o3:Int)+Y1 (s.o4.take j)+(1+z)) Z0 Z0;cases l:o.gone;have g:Wh o=1+z:=by simp[Wh,l,y]
 simp_all;omega;have g:Wh o=0:=by simp[Wh,l]
 simp_all;have:j=I s.o4:=Z0;subst this;rw[Zj9];simp[Xc,Zy];exact⟨2,Z0,Z1,by simp[XR]⟩;simp[SP]
def QL(s:Ck):Bool:=decide ((I s.h.H:Int)+I s.h.ab+SP s<=s.h.cap)
def Zbq{s}(a:s.ok):SP s<=512*1000000:=by
 have f:=Ke (l:=s.o3) λo d=>(a.ob 3 o d).1.2;have g:=Ke (l:=s.o4) λo d=>(a.ob 4 o d).1.2;have h:I s.o3<=1000000:=a.len 3;have j:I s.o4<=1000000:=a.len 4;grind [SP]
def Z9y{s:Ck}(a:s.ok):VC xP 76 xw [Xb s]<|.bool<|QL s:=by
 refine ZR Z22 follows Z2 c76 rfl ?_;have d:=Zbq a;have f:=a.h.H;have g:=a.h.ab;have w1:=Zy ((I s.h.H:Int)+I s.h.ab) Z0 Z0;have w2:=Zy ((I s.h.H:Int)+I s.h.ab+SP s) Z0 Z0;simp[NG];refine Zz (Z0a a) Z1 ?_;simp[w1,w2,QL]
end Vm
namespace Vm
open Go Go.Proofs
def WU(lm:List<|Int×(Int×Int))(ws:List Int):Nat->Nat->List (Int×Int)->List (Int×Int)
 |0,_,a=>a
 |f+1,i,a=>
  match ws[i]? with
  |none=>a
  |some w=>if(adr w).2=0 then(match Y3 lm (adr w).1 with|none=>a|some sh=>WU lm ws f (i+1+sh.1.toNat)<|a++[sh])
   else if(ZQ w).2.2=0 then WU lm ws f (i+1+(ZQ w).1.toNat) a else a
def U8(lm:List<|Int×(Int×Int))(ws:List Int):List<|Int×Int:=WU lm ws (I ws+1) 0 []
def Ho{α l k}{x:α}(h:Y3 l k=J x):(k,x)∈l:=by
 obtain⟨y,a,rfl⟩:=Zhk.1 h;grind
def Zak{s:Ck}(D:∀x∈s.lm,YC x.2.1 x.2.2=xk){ws:List Int}(M:I ws<=1000000)(L:∀w∈ws,ZB w):
  VC xP 85 xw [Xb s,.sl<|ws.map vu] (.sl<|(U8 s.lm ws).map We):=by
 refine ZR Z28 follows Z2 c85 rfl ?_;have C:∀k,UH (.i .u64) (Yg We s.lm) (vu k) (.agg [vi 0,vi 0]) xk=match Y3 s.lm k with
  |some x=>J<|.am [We x,.bool xk]
  |none=>J<|.am [.agg [vi 0,vi 0],.bool xw]:=λk=>by grind [Qt,Y3]
 have B:(ZV s)[22]?=J (Yg We s.lm):=rfl;simp[NL]
 refine RR (λ(p:Nat×List (Int×Int))=>[(3,.v<|.sl<|p.2.map We),(4,.v<|vi p.1)])
  (λp=>p.1<=I ws+256/\I p.2<=p.1/\∃f,I ws<f+p.1/\0<f/\U8 s.lm ws=WU s.lm ws f p.1 p.2) (XR 4<|I ws) (0,[]) Z1 ⟨Z1,Z1,I ws+1,Z1,Z0,rfl⟩ ?_
 rintro⟨i,g⟩ ⟨K,r,f,G,H,a⟩;simp only at K r G a;cases f with
 |zero=>omega
 |succ f=>
 by_cases d:i<I ws;have y:ws[i]?=J ws[i]:=Zhi d;have F:=L _<|ZhE d;generalize ws[i]=w at*;simp only[WU,y]at a;have u:I g+1<=Y4:=ZgO;simp[d,y,Yn y,Xc];refine Zz (Ko F) Z1 ?_;by_cases A:(adr w).2=0;rw[Zht A]at a;simp[A,B,C];cases t:Y3 s.lm (adr w).1 with
 |none=>
  simp_all
 |some q=>
  rw[t]at a;simp only at a;have h:0<=q.1/\q.1<=255/\0<=q.2/\q.2<=q.1:=Yy.1<|D _<|Ho t;obtain⟨z,o⟩:=Zhy h.1;have l:=Zy (1+(z:Int)) Z0 Z0;have n:=Zy ((i:Int)+(1+z)) Z0 Z0;rw[o,ZhA]at a;simp[u,o,l,n];refine⟨i+1+z,g++[q],⟨Z0,Zgn,f,Z0,?_,a⟩,⟨by simp[We,o],Z0⟩,Zha⟩;omega
 rw[Zhs A]at a;simp[A,y,Yn y,d,Xc];refine Zz (Z00 F) Z1 ?_;by_cases j:(ZQ w).2.2=0;rw[Zht j]at a;have h:=Yy.1<|E3 j;obtain⟨z,o⟩:=Zhy h.1;have l:=Zy (1+(z:Int)) Z0 Z0;have n:=Zy ((i:Int)+(1+z)) Z0 Z0;rw[o,ZhA]at a;simp[j,o,l,n];refine⟨i+1+z,g,⟨Z0,Z0,f,Z0,?_,a⟩,⟨rfl,Z0⟩,Zha⟩;omega;simp_all;simp_all[Zib,WU]
end Vm
namespace Vm
open Go Go.Proofs
def WC(pm:List<|Int×Int):List Ob->List (Int×Bool)->Option (List<|Int×Bool)
 | [],m=>J m
 |o::l,m=>if o.gone=xk then(if(Y3 pm o.target).getD 0=1/\(Y3 m o.target).getD xw=xw then WC pm l (XW m o.target xk)else U)else WC pm l m
def Q7(s:Ck):Bool:= !s.h.Y||match(WC s.pm s.o3 []).bind (WC s.pm s.o4)with
 |none=>xw
 |some m=>decide (I m=I s.o1)
def Mf{l k x}:Ti (.i .u64) (Yg .bool l) (vu k) (.bool x)=J (Yg .bool<|XW l k x):=La
def Ju{l k}:UH (.i .u64) (Yg .bool l) (vu k) (.bool xw) xw=J (.bool<|(Y3 l k).getD xw):=by
 grind [Qt]
def Jv{l k}:UH (.i .u64) (Yg vi l) (vu k) (vi 0) xw=J (vi<|(Y3 l k).getD 0):=by
 grind [Qt]
def Z6L{α}(f:α->V):Yg f []=.mp 0 [] []:=rfl
def Z3x{s:Ck}(t:s.ok):VC xP 72 xw [Xb s]<|.bool<|Q7 s:=by
 refine ZR Z1Y follows Z2 c72 rfl ?_;have K:I s.o3<=1000000:=t.len 3;have L:I s.o4<=1000000:=t.len 4;have A:∀o∈s.o3,ZB o.target:=λo z=>(t.ob 3 o z).2;have B:∀o∈s.o4,ZB o.target:=λo z=>(t.ob 4 o z).2;have G:Ya (.agg [.sl<|s.o1.map ZM,.sl<|s.o2.map ZM,.sl<|s.o3.map ZM,.sl<|s.o4.map ZM]) (.int .i64 2) 4 1 xk=J (.agg [.sl<|s.o3.map ZM]):=by simp[Ya]
 have H:Ya (.agg [.sl<|s.o1.map ZM,.sl<|s.o2.map ZM,.sl<|s.o3.map ZM,.sl<|s.o4.map ZM]) (.int .i64 3) 4 1 xk=J (.agg [.sl<|s.o4.map ZM]):=by simp[Ya]
 have F:Ya (.agg [.sl<|s.o1.map ZM,.sl<|s.o2.map ZM,.sl<|s.o3.map ZM,.sl<|s.o4.map ZM]) (.int .i64 0) 4 1 xk=J (.agg [.sl<|s.o1.map ZM]):=by simp[Ya]
 have k:(ZV s)[21]?=J (Yg vi s.pm):=rfl;have y:=(Z6L V.bool).symm;unfold Q7;cases D:s.h.Y;simp[Cz,D];simp[Cz,D,y]
 refine RR (λ(p:Nat×List (Int×Bool))=>[(3,.v<|Yg .bool p.2),(4,.v<|vi ((p.1+3:Nat):Int))])
  (λp=>(p.1=0/\p.2=[])\/(p.1=1/\WC s.pm s.o3 []=J p.2)\/(p.1=2/\(WC s.pm s.o3 []).bind (WC s.pm s.o4)=J p.2)) (XR 4 5) (0,[]) Z1 Z1 ?_
 rintro⟨i,m⟩ (⟨rfl,rfl⟩|⟨rfl,x⟩|⟨rfl,x⟩);simp[U9,G];refine RR (λ(p:Nat×List (Int×Bool))=>[(3,.v<|Yg .bool p.2),(6,.v<|vi p.1)]) (λp=>p.1<=I s.o3/\WC s.pm s.o3 []=WC s.pm (s.o3.drop p.1) p.2) (XR 6<|I s.o3) (0,[]) Z1 Z1 ?_;rintro⟨j,r⟩ ⟨w,a⟩;simp only at w a;have d:=Zy ((j:Int)+1) Z0 Z0;by_cases g:j<I s.o3;have f:s.o3[j]?=J s.o3[j]:=Zhi g;have u:=Zih g;have C:=A _<|ZhE g;generalize s.o3[j]=o at*;rw[u,WC]at a;cases l:o.gone;rw[l]at a;rw[Zhs Z1]at a;simp[Xc,g,f,Yn f,l,d];exact⟨j+1,r,⟨Z0,a⟩,⟨rfl,Z0⟩,Zha⟩;rw[l]at a;rw[Zht rfl]at a;by_cases n:(Y3 s.pm o.target).getD 0=1;cases q:(Y3 r o.target).getD xw;rw[Zht ⟨n,q⟩]at a;simp[Xc,g,f,Yn f,l,d,k,Jv,Ju,WE,V.bf,n,q,Mf];exact⟨j+1,XW r o.target xk,⟨Z0,a⟩,⟨rfl,Z0⟩,Zha⟩;rw[Zhs (by simp[q])]at a;simp[Xc,g,f,Yn f,l,d,k,Jv,Ju,WE,V.bf,n,q,a];rw[Zhs (by simp[n])]at a;simp[Xc,g,f,Yn f,l,d,k,Jv,Ju,WE,V.bf,n,a];have:j=I s.o3:=Z0;subst this;rw[List.drop_length,WC]at a;simp[Zy];exact⟨1,r,by simp[a],Z1,by simp[XR]⟩;simp[Us,H];refine RR (λ(p:Nat×List (Int×Bool))=>[(3,.v<|Yg .bool p.2),(6,.v<|vi p.1)]) (λp=>p.1<=I s.o4/\WC s.pm s.o4 m=WC s.pm (s.o4.drop p.1) p.2) (XR 6<|I s.o4) (0,m) Z1 Z1 ?_;rintro⟨j,r⟩ ⟨w,a⟩;simp only at w a;have d:=Zy ((j:Int)+1) Z0 Z0;by_cases g:j<I s.o4;have f:s.o4[j]?=J s.o4[j]:=Zhi g;have u:=Zih g;have C:=B _<|ZhE g;generalize s.o4[j]=o at*;rw[u,WC]at a;cases l:o.gone;rw[l]at a;rw[Zhs Z1]at a;simp[Xc,g,f,Yn f,l,d];exact⟨j+1,r,⟨Z0,a⟩,⟨rfl,Z0⟩,Zha⟩;rw[l]at a;rw[Zht rfl]at a;by_cases n:(Y3 s.pm o.target).getD 0=1;cases q:(Y3 r o.target).getD xw;rw[Zht ⟨n,q⟩]at a;simp[Xc,g,f,Yn f,l,d,k,Jv,Ju,WE,V.bf,n,q,Mf];exact⟨j+1,XW r o.target xk,⟨Z0,a⟩,⟨rfl,Z0⟩,Zha⟩;rw[Zhs (by simp[q])]at a;simp[Xc,g,f,Yn f,l,d,k,Jv,Ju,WE,V.bf,n,q,x,a];rw[Zhs (by simp[n])]at a;simp[Xc,g,f,Yn f,l,d,k,Jv,Ju,WE,V.bf,n,x,a];have:j=I s.o4:=Z0;subst this;rw[List.drop_length,WC]at a;simp[Zy];exact⟨2,r,Zgl,Z1,by simp[XR]⟩;simp[RM,U9,F];grind
end Vm
namespace Vm
open Go Go.Proofs
def RX:Prop:=∀a:List Int,I a<=1000000->(∀w∈a,ZB w)->VC xP 82 xk [.sl<|a.map vu] (.am [.sl<|(ZN a [] xw).1.map ZM,vi (ZN a [] xw).2])
def RY:Prop:=∀(d:List Int) (a:List<|Int×Int),I d<=1000000->I a<=1000000->(∀w∈d,ZB w)->(∀x∈a,YC x.1 x.2=xk)->
 VC xP 84 xk [.sl<|d.map vu,.sl<|a.map We] (.am [.sl<|(ZN d a xk).1.map ZM,vi (ZN d a xk).2])
def Xs(s:Ck)(k:Int):List Ob×Int:=if k<=2 then ZN (Zw s.h k) [] xw else ZN (Zw s.h k) (U8 s.lm<|Zw s.h k) xk
def V8:List Int->Ck->Bool×Ck
 | [],s=>(xk,s)
 |k::l,s=>if(Xs s k).2=0 then V8 l (XV s k (Xs s k).1)else(xw,s)
def Wg(s:Ck):Bool×Ck:=V8 [1,2,3,4] s
def QA s k l:(XV s k l).h=s.h:=Z8G s k l
def Z8D{α l k x}{y:Int×α}(h:y∈XW l k x):y=(k,x)\/y∈l:=by
 grind [XW]
def JC{h k}:∀ {l} {m:List (Int×(Int×Int))},(∀o∈l,YC o.size o.M=xk)->(∀x∈m,YC x.2.1 x.2.2=xk)->∀x∈XB h k m l,YC x.2.1 x.2.2=xk
 | [],m,_,a=>a
 |o::l,m,f,a=>by
  rw[XB];refine JC Zgm ?_;split;intro x d;obtain rfl|d:=Z8D d;simp_all;grind;exact a
def zn{s}(a:s.h.ok){k}:(∀o∈(Xs s k).1,Kl (I<|Zw s.h k) o/\ZB o.target)/\(Xs s k).1.length<=I (Zw s.h k):=by
 unfold Xs;split;exact⟨Z0f (XN a k).1,Z0g⟩;exact⟨Z0f (XN a k).1,Z0g⟩
def Dy{lm ws}:∀ {f i} {a:List (Int×Int)},I a<=i->I a<=I ws->I (WU lm ws f i a)<=I ws
 |0,i,a,_,h=>h
 |f+1,i,a,j,h=>by
  rw[WU];cases g:ws[i]? with
  |none=>exact h
  |some w=>
   have d:=(Zhj.1 g).1;simp only;split;split;exact h;exact Dy Zgn Zgn;split;exact Dy Z0 h;exact h
def Pt{lm ws}:I (U8 lm ws)<=I ws:=Dy Z1 Z1
def jC{lm ws}(d:∀x∈lm,YC x.2.1 x.2.2=xk):∀ {f i} {a:List (Int×Int)},(∀x∈a,YC x.1 x.2=xk)->∀x∈WU lm ws f i a,YC x.1 x.2=xk
 |0,i,a,h=>h
 |f+1,i,a,h=>by
  rw[WU];cases g:ws[i]? with
  |none=>exact h
  |some w=>
   simp only;split;split;exact h;rename_i k j;refine jC d ?_;intro x g;obtain g|g:=ZhO.1 g;grind;simp at g;subst g;exact d _<|Ho j;split;exact jC d h;exact h
def jR:IntKind.i64.wrap 4=4:=ZgB
def Zbw(F:RX)(B:RY){s:Ck}(G:s.h.ok)(D:∀x∈s.lm,YC x.2.1 x.2.2=xk):Vv xP 71 [.mem zX] [.agg<|ZV s]<|.am [.bool (Wg s).1,.agg<|ZV (Wg s).2]:=by
 refine Kc Z1X follows Z2 c71 Z2 ?_;simp[NC];refine RR (λ(p:Nat×Ck)=>[(0,.m<|ZV p.2),(3,.v<|vi p.1)]) (λp=>p.1<=4/\p.2.h=s.h/\(∀x∈p.2.lm,YC x.2.1 x.2.2=xk)/\Wg s=V8 ([1,2,3,4].drop p.1) p.2) (XR 3 4) (0,s) Z1 ⟨Z1,rfl,D,rfl⟩ ?_;rintro⟨i,q⟩ ⟨H,A,n,f⟩;simp only at H A n f;have d:q.h.ok:=A▸G;have C:i=0\/i=1\/i=2\/i=3\/i=4:=Z0;have j:=λk K=>Z0p (s:=q) (k:=k) K;have w:=λk=>Zak (s:=q) n (XN d k).2 (XN d k).1;obtain rfl|rfl|rfl|rfl|rfl:=C;replace j:=j 1 Z0;have st:=zn d (k:=1);have t:=qu (s:=q) d (k:=1) Z0 (l:=(Xs q 1).1)<|ZhU st.2 (XN d 1).2;have k1:=F _ (XN d 1).2 (XN d 1).1;have g:=JC (h:=q.h) (k:=1) (l:=(Xs q 1).1) (m:=q.lm) (λo y=>(st.1 o y).1.2) n;replace f:Wg s=V8 (1:: [2,3,4]) q:=f;rw[V8]at f;have r:Xs q 1=ZN (Zw q.h 1) [] xw:=rfl;rw[<-r]at k1;generalize Xs q 1=z at*;obtain⟨l,e⟩:=z;simp only at k1 t f g st;unfold Xb ZV at j;unfold ZV at t;simp[ZV,Tv,U9,Us,jR];refine Zz j Z1 ?_;simp;refine Zz k1 Z1 ?_;simp;by_cases u:e=0;rw[Zht u]at f;simp[u];refine Uc t ?_;simp[Zy];exact⟨1,XV q 1 l,⟨Z0,by rw[QA,A],λa b c h=>g (a,b,c) h,f⟩,⟨Z1,rfl⟩,by simp[XR]⟩;simp_all;replace j:=j 2 Z0;have st:=zn d (k:=2);have t:=qu (s:=q) d (k:=2) Z0 (l:=(Xs q 2).1)<|ZhU st.2 (XN d 2).2;have k1:=F _ (XN d 2).2 (XN d 2).1;have g:=JC (h:=q.h) (k:=2) (l:=(Xs q 2).1) (m:=q.lm) (λo y=>(st.1 o y).1.2) n;replace f:Wg s=V8 (2:: [3,4]) q:=f;rw[V8]at f;have r:Xs q 2=ZN (Zw q.h 2) [] xw:=rfl;rw[<-r]at k1;generalize Xs q 2=z at*;obtain⟨l,e⟩:=z;simp only at k1 t f g st;unfold Xb ZV at j;unfold ZV at t;simp[ZV,Tv,U9,Us,jR];refine Zz j Z1 ?_;simp;refine Zz k1 Z1 ?_;simp;by_cases u:e=0;rw[Zht u]at f;simp[u];refine Uc t ?_;simp[Zy];exact⟨2,XV q 2 l,⟨Z0,by rw[QA,A],λa b c h=>g (a,b,c) h,f⟩,⟨Z1,rfl⟩,by simp[XR]⟩;simp_all;replace j:=j 3 Z0;have st:=zn d (k:=3);have t:=qu (s:=q) d (k:=3) Z0 (l:=(Xs q 3).1)<|ZhU st.2 (XN d 3).2;have k1:=B _ (U8 q.lm<|Zw q.h 3) (XN d 3).2 (ZhU Pt (XN d 3).2) (XN d 3).1<|jC n Z1;replace w:=w 3;have g:=JC (h:=q.h) (k:=3) (l:=(Xs q 3).1) (m:=q.lm) (λo y=>(st.1 o y).1.2) n;replace f:Wg s=V8 (3:: [4]) q:=f;rw[V8]at f;have r:Xs q 3=ZN (Zw q.h 3) (U8 q.lm<|Zw q.h 3) xk:=rfl;rw[<-r]at k1;generalize Xs q 3=z at*;obtain⟨l,e⟩:=z;simp only at k1 t f g st;unfold Xb ZV at j w;unfold ZV at t;simp[ZV,Tv,U9,Us,jR];refine Zz j Z1 ?_;simp;refine Zz j Z1 ?_;simp;refine Zz w Z1 ?_;simp;refine Zz k1 Z1 ?_;simp;by_cases u:e=0;rw[Zht u]at f;simp[u];refine Uc t ?_;simp[Zy];exact⟨3,XV q 3 l,⟨Z0,by rw[QA,A],λa b c h=>g (a,b,c) h,f⟩,⟨Z1,rfl⟩,by simp[XR]⟩;simp_all;replace j:=j 4 Z0;have st:=zn d (k:=4);have t:=qu (s:=q) d (k:=4) Z0 (l:=(Xs q 4).1)<|ZhU st.2 (XN d 4).2;have k1:=B _ (U8 q.lm<|Zw q.h 4) (XN d 4).2 (ZhU Pt (XN d 4).2) (XN d 4).1<|jC n Z1;replace w:=w 4;have g:=JC (h:=q.h) (k:=4) (l:=(Xs q 4).1) (m:=q.lm) (λo y=>(st.1 o y).1.2) n;replace f:Wg s=V8 (4:: []) q:=f;rw[V8]at f;have r:Xs q 4=ZN (Zw q.h 4) (U8 q.lm<|Zw q.h 4) xk:=rfl;rw[<-r]at k1;generalize Xs q 4=z at*;obtain⟨l,e⟩:=z;simp only at k1 t f g st;unfold Xb ZV at j w;unfold ZV at t;simp[ZV,Tv,U9,Us,jR];refine Zz j Z1 ?_;simp;refine Zz j Z1 ?_;simp;refine Zz w Z1 ?_;simp;refine Zz k1 Z1 ?_;simp;by_cases u:e=0;rw[Zht u]at f;simp[u];refine Uc t ?_;simp[Zy];exact⟨4,XV q 4 l,⟨Z0,by rw[QA,A],λa b c h=>g (a,b,c) h,f⟩,⟨Z1,rfl⟩,by simp[XR]⟩;simp_all;replace f:Wg s=(xk,q):=f;simp[f,ZV]
end Vm
namespace Vm
open Go Go.Proofs
def Zbo{P f ks cs r}(hv:VC P f xw [.ptr cs] r)(G:r.bf=xk)(l:I cs=I ks)(u:cs.all V.one=xk)(D:ks.all (λk=> !(k==.gc))=xk):
  Vv P f [.mem ks] [.agg cs] (.am [r,.agg cs]):=by
 let⟨Q,R⟩:=hv;refine⟨Q,λB w h vs a S=> ?_⟩;let⟨a3,a2,C⟩:=S;let⟨tk,j,z⟩:=C 0 _ _ rfl rfl;simp only[Wu]at j;rw[Zht l]at j;simp at j;subst j;let⟨b,O,T,q,M,hh,o⟩:=z;have n:∀(ks:List CK) cs,I cs=I ks->YH [] (((ks.zip cs).map λy=>(y.1,E.c y.2)).map (·.2))=J cs:=by
  intro ks;induction ks with
  |nil=>simp
  |cons k ks ih=>
   intro cs hl;obtain _|⟨c,cs⟩:=cs;simp at hl;simp_all
 have hz:eval [] (.pt U (((ks.zip cs).map λy=>(y.1,E.c y.2)).map (·.2)))=J (.ptr cs):=by
  simp only[eval,n ks cs l,Zhu,LD,u,Zig]
 have Y:WA ((ks.zip cs).map λy=>(y.1,E.c y.2))=xw:=by
  rw[WA,Zkq];intro x N;obtain⟨y,A,rfl⟩:=ZhC.1 N;have:=Zhw.1 D y.1 (List.of_mem_zip A).1;simpa using this
 have a1:=L8 (G':=λb=>h.F b\/∃t i,h.bl t i=J b) q hh o Y hz (λb d=>.inl d) λi b d=>.inr ⟨0,i,d⟩;refine ZjX (R w (λb=>h.F b\/∃t i,h.bl t i=J b) vs (λb d=> ?_) Z0 λi x N=> ?_) λe w' Z=> ?_;obtain d|⟨t,i,d⟩:=d;exact a.bn b d;exact(a.an t i b d).2.1;grind;obtain⟨v,rfl,g,L⟩:=Z;have p:=g.size;have X:=λb d=>g.block b<|a.bn b d;have W:=λt i b d=>g.block b (a.an t i b d).2.1;have K:O.size=I cs:=by
  have:=o.1;simp at this;omega
 refine⟨v,r,[.agg cs],h,rfl,g.mono a.base,λb d=>g.block b<|a.cp b d,⟨ZhU a.base p,λb d=>Zhr (a.bn b d) p,a.cr,a.fh,λt i b d=> ?_,a.inj,λb d=>Zhr (a.cp b d) p,a.cj,a.fi⟩,rfl,L.gk G,⟨rfl,λi k y H a0 A=> ?_⟩,rfl⟩;let⟨q1,q2,q3⟩:=a.an t i b d;grind;cases i with
 |zero=>
  simp at H A;subst H;subst A;refine⟨.mem _,by rw[Wu,Zht l],b,O,T,q,M,?_,o.keep X Z1 Z1 λi b d=>W 0 _ b d⟩;grind
 |succ i=>simp at H
end Vm
namespace Vm
open Go Go.Proofs
def Tr:List FuncId:=[69,70,71,72,73,74,75,76]
def AY(f:FuncId):V:=.agg [.fn f]
def Z9E:VC xP 50 xw []<|.sl<|Tr.map AY:=by
 refine ZR Z1L follows Z2 c50 rfl ?_;simp[Ns,Tr,AY]
def SG(f:FuncId)(s:Ck):Bool×Ck:=
 if f=69 then(R3 s,s)else if f=70 then(QJ s,s)else if f=71 then Wg s
 else if f=72 then(Q7 s,s)else if f=73 then(QO s,s)else if f=74 then(QR s,s)else if f=75 then(Qr s,s)else(QL s,s)
structure Ck.okk (s:Ck):Prop where
 ok:s.ok
 lm:∀x∈s.lm,YC x.2.1 x.2.2=xk
def Ck.lz(s:Ck)k l(a:1<=k/\k<=4)j:(s.put k l).du j=if j=k\/(k=4/\¬(j=1\/j=2\/j=3))then l else s.du j:=by
 have:k=1\/k=2\/k=3\/k=4:=Z0;obtain rfl|rfl|rfl|rfl:=this<;>simp[Ck.put,Ck.du]<;>(split<;>simp_all)<;>(grind)<;>(grind)
def Z74{s}(d:s.okk){k}(g:1<=k/\k<=4):(XV s k (Xs s k).1).okk:=by
 have st:=zn d.ok.h (k:=k);have l:=(XN d.ok.h k).2;have a:∀j,(XV s k (Xs s k).1).du j=((s.put k (Xs s k).1).du j):=λj=>rfl;refine⟨⟨by rw[QA];exact d.ok.h,λj o f=> ?_,λj=> ?_⟩,JC (λo f=>(st.1 o f).1.2) d.lm⟩;rw[QA];rw[a,Ck.lz _ _ _ g]at f;split at f;rename_i h;have:Zw s.h j=Zw s.h k:=by
  obtain rfl|⟨rfl,h⟩:=h;rfl;simp_all[ZlL,Zw]
 simp_all;exact d.ok.ob j o f;rw[a,Ck.lz _ _ _ g];split;omega;exact d.ok.len j
def Z0i:∀ {l} {s:Ck},(∀k∈l,1<=k/\k<=4)->s.okk->(V8 l s).2.okk/\(V8 l s).2.h=s.h
 | [],s,_,a=>⟨a,rfl⟩
 |k::l,s,d,a=>by
  rw[V8];split;simp_all[Z0i,Z74,QA];simp_all
def Zbu{s}(a:s.okk):(Wg s).2.okk/\(Wg s).2.h=s.h:=Z0i Z1 a
def P1{s}(a:s.okk){f}:(SG f s).2.okk/\(SG f s).2.h=s.h:=by
 unfold SG;repeat' split
 all_goals first|exact⟨a,rfl⟩|exact Zbu a
def Z9D(j:RX)(d:RY){s}(a:s.okk){f}(g:f∈Tr):Vv xP f [.mem zX] [.agg<|ZV s]<|.am [.bool (SG f s).1,.agg<|ZV (SG f s).2]:=by
 have go:∀ {f b},VC xP f xw [Xb s] _->Vv xP f [.mem zX] [.agg _] (.am [.bool b,.agg _]):=λh=>Zbo h rfl rfl rfl rfl;simp[Tr,Zkl]at g;obtain rfl|rfl|rfl|rfl|rfl|rfl|rfl|rfl:=g;exact go<|Z31 a.ok.h;exact go Z9r;exact Zbw j d a.ok.h a.lm;exact go<|Z3x a.ok;exact go<|Zaj a.ok;exact go<|Zbi a.ok;exact go<|Z61 a.ok;exact go<|Z9y a.ok
def Qu:List FuncId->Ck->Option Ck
 | [],s=>J s
 |f::l,s=>if(SG f s).1=xk then Qu l (SG f s).2 else U
def XA(h:Hp):Ck:= {h:=h,o1:=[],o2:=[],o3:=[],o4:=[],pm:=[],lm:=[]}
def VF(h:Hp):Option Ck:=Qu Tr<|XA h
def It{h}(a:h.ok):(XA h).okk:=by
 have f:∀k,(XA h).du k=[]:=λk=>by simp[XA,Ck.du]
 refine⟨⟨a,λk o g=> ?_,λk=> ?_⟩,λx d=>(by simp[XA]at d)⟩;simp_all;simp_all
def BO(w:RX)(k:RY){h:Hp}(y:h.ok):VC xP 33 xw [ZE h]<|.am [match VF h with|some s=>Xb s|none=>.lx 0,.bool (VF h).isSome]:=by
 refine ZR Z1z follows Z2 c33 rfl ?_;have k1:=EG (h:=h);have B:=Z9E;have a:I Tr=8:=rfl;unfold ZE at k1;simp[Nj];refine Zz k1 Z1 ?_;simp[X4,Zv];refine Zz B Z1 ?_;simp;refine RR (λ(p:Nat×Ck)=>[(5,.m<|ZV p.2),(6,.v<|vi p.1)]) (λp=>p.1<=8/\p.2.okk/\VF h=Qu (Tr.drop p.1) p.2) (XR 6 8) (0,XA h) Zhb ⟨Z1,It y,rfl⟩ ?_;rintro⟨i,q⟩ ⟨z,n,g⟩;simp only at z n g;have o:=Zy ((i:Int)+1) Z0 Z0;by_cases d:i<I Tr;have t:Tr[i]?=J Tr[i]:=Zhi d;have x:=Zih d;have A:=ZhE d;generalize Tr[i]=f at*;rw[x,Qu]at g;have u:=Z9D w k n A;have l:=(P1 n (f:=f)).1;rw[a]at d;have j:(i:Int)<8:=Z0;simp[Xc,d,j,t,Yn t,a,AY,ZV];unfold ZV at u;refine Uc u ?_;cases r:(SG f q).1;rw[Zhs (by simp[r])]at g;simp[g];rw[Zht r]at g;simp[o];exact⟨i+1,(SG f q).2,⟨Z0,l,g⟩,⟨Z1,Z0⟩,Zha⟩;have:i=8:=Z0;subst this;replace g:VF h=J q:=g;simp[a,g,ZV,Xb]
def IS:∀ {l} {s q:Ck},s.okk->Qu l s=J q->q.okk/\q.h=s.h
 | [],s,q,a,h=>by simp[Qu]at h;subst h;exact⟨a,rfl⟩
 |f::l,s,q,a,h=>by
  rw[Qu]at h;split at h;have d:=P1 a (f:=f);have g:=IS d.1 h;exact⟨g.1,Zgm⟩;cases h
def Z69{h}(a:h.ok){q}(d:VF h=J q):q.okk/\q.h=h:=IS (It a) d
def Z0L(d:RX)(a:RY){h:Hp}(f:h.ok):VC xP 13 xw [ZE h]<|.bool (VF h).isSome:=by
 refine ZR EZ follows Z2 c13 rfl ?_;simp[N1];refine Zz (BO d a f) Z1 ?_;simp
def Ll(h:Hp)(k:Int):List Ob×Int:=match VF h with
 |some s=>if 1<=k/\k<=4 then(s.du k,0)else([],1)
 |none=>([],1)
def Z0J(l:RX)(f:RY){h:Hp}(n:h.ok){k:Int}:VC xP 79 xw [ZE h,vi k]<|.am [.sl<|(Ll h k).1.map ZM,vi (Ll h k).2]:=by
 refine ZR Fp follows Z2 c79 rfl ?_;simp[NH];refine Zz (BO l f n) Z1 ?_;unfold Ll;cases o:VF h with
 |none=>simp
 |some s=>
  by_cases g:1<=k;by_cases j:k<=4;have:k=1\/k=2\/k=3\/k=4:=Z0;obtain rfl|rfl|rfl|rfl:=this<;>simp[Ya,RM,Tv,U9,Us,Ck.du];have a:¬k<1:=Z0;have d:4<k:=Z0;simp[g,j,a,d];have a:k<1:=Z0;simp[g,a]
def jS(h:Hp):Nat:=match VF h with
 |some s=>SP s
 |none=>0
def Z0N(f:RX)(a:RY){h:Hp}(d:h.ok):VC xP 15 xw [ZE h]<|vi<|jS h:=by
 refine ZR Z1q follows Z2 Q3 rfl ?_;simp[N3];refine Zz (BO f a d) Z1 ?_;unfold jS;cases g:VF h with
 |none=>simp
 |some s=>
  simp;refine Zz (Z0a (Z69 d g).1.ok) Z1 ?_;simp
end Vm
end
section
namespace Vm
open Go Go.Proofs
structure Stands (ws:List Int) (old:Bool) (o:Ob):Prop where
 iz:0<=o.Z
 shape:YC o.size o.M=xk
 au:o.Z+1+o.size<=I ws
 gj:XQ ((ws.drop<|o.Z.toNat+1).take o.size.toNat) o.gone o.M 0=xk
 word:∃w,ws[o.Z.toNat]?=J w/\(if o.gone then old=xk/\(adr w).2=0/\o.target=(adr w).1 else(old=xk->¬(adr w).2=0)/\ZQ w=(o.size,o.M,0)/\o.target=0)
def Tiles(ws:List Int)(old:Bool):Nat->List Ob->Prop
 |a,[]=>I ws<=a
 |a,o::l=>o.Z=a/\Stands ws old o/\Tiles ws old (a+1+o.size.toNat) l
def Z79{ws shs old a g t w o}(k:ws[a]?=J w)(f:Wo shs old a g w=J (o,t))(h:¬(I ws:Int)<a+1+o.size)
  (j:¬XQ ((ws.drop<|a+1).take o.size.toNat) o.gone o.M 0=xw):o.Z=a/\Stands ws old o:=by
 have d:=qw f;refine⟨d.2,?_,d.1,?_,?_,w,?_,?_⟩;omega;omega;simp_all;simp_all;unfold Wo at f;grind
def Z0e{ws shs old}:∀f a j d l,Xr ws shs old f a j d=(l,0)->∃r,l=d++r/\Tiles ws old a r
 |0,_,_,_,_,h=>by simp[Xr]at h
 |f+1,a,j,d,l,h=>by
  unfold Xr at h;split at h;rename_i p;split at h;grind;simp[and_true]at h;subst h;exact⟨[],Z1,Zjz.1 p⟩;rename_i w x;split at h;grind;rename_i o t q;split at h;grind;rename_i k;split at h;grind;rename_i n;obtain⟨r,rfl,u⟩:=Z0e f _ _ _ _ h;have g:=Z79 x q k n;exact⟨o::r,Z1,g.1,g.2,u⟩
def SQ{ws shs old l}(h:ZN ws shs old=(l,0)):Tiles ws old 0 l:=by
 let⟨r,a,d⟩:=Z0e _ _ _ _ _ h;simp_all
def Tiles.ba{ws old}:∀ {a} {l:List Ob},Tiles ws old a l->∀o∈l,Stands ws old o/\a<=o.Z
 |_,[],_,_,h=>ZgY
 |a,o::l,h,x,d=>by
  obtain rfl|d:=ZhK.1 d;exact⟨h.2.1,by rw[h.1];omega⟩;have:=Tiles.ba h.2.2 x d;grind
def Tiles.apart{ws old}:∀ {a} {l:List Ob},Tiles ws old a l->∀o∈l,∀q∈l,o=q\/o.Z+1+o.size<=q.Z\/q.Z+1+q.size<=o.Z
 |_,[],_,_,h,_,_=>ZgY
 |a,x::l,h,o,f,q,d=>by
  have e:=h.1;obtain rfl|f:=ZhK.1 f;obtain rfl|d:=ZhK.1 d;simp;have:=(Tiles.ba h.2.2 q d).2;omega;obtain d|d:=ZhK.1 d;have:=(Tiles.ba h.2.2 o f).2;grind;exact Tiles.apart h.2.2 o f q d
structure RightH (h:Hp) (p:Pts):Prop where
 fp:XE h=J p
 num:TT h=xk
 ok:SD h p=xk
 H:Tiles h.H xw 0 p.H
 ab:Tiles h.ab xw 0 p.ab
 ah:Tiles h.ah xk 0 p.ah
 al:Tiles h.al xk 0 p.al
def Z9s{h}(k:Yv h=xk):∃p,RightH h p:=by
 let⟨p,a,g,j⟩:=Z9u k;refine⟨p,a,j,g,?_,?_,?_,?_⟩;all_goals
  unfold XE at a;dsimp only at a;split at a;cases a;split at a;cases a;rename_i c2;cases a;have c3:(ZN h.H [] xw).2=0/\(ZN h.ab [] xw).2=0:=by
   refine⟨Z0,Z0⟩
  have c4:∀x:Int,¬x≠0->x=0:=Z0;have f:=c4 _ (λd=>c2<|.inr<|.inr<|.inr d);first|exact SQ (ZjZ rfl c3.1)|exact SQ (ZjZ rfl c3.2)|exact SQ (ZjZ rfl<|c4 _ (λd=>c2<|.inr<|.inr<|.inl d))|exact SQ<|ZjZ rfl f
def RightH.ak{h p}(r:RightH h p){k}(a:1<=k/\k<=4):Tiles (Zw h k) (decide (2<k)) 0<|p.at k:=by
 have:k=1\/k=2\/k=3\/k=4:=Z0;obtain rfl|rfl|rfl|rfl:=this;exact r.H;exact r.ab;exact r.ah;exact r.al
def RightH.bd{h p}(r:RightH h p):ZJ (Zv h)=xk:=by
 have:=r.num;simp_all[TT,Zhl]
def ZP(l:Ly)(k a:Int):Int:=2*(fstL l k+a)+1
theorem Ut{l}(d:ZJ l=xk){k a}(f:0<=a):adr (ZP l k a)=(fstL l k+a,0):=by
 have:=WP d k;unfold adr ZP;grind
theorem SY{l}(g:ZJ l=xk){k a}(f:1<=k/\k<=4)(d:0<=a/\a<YS l k):Y2 l k a=(fstL l k+a,0):=by
 simp_all[Y2,Zhs]
theorem Jd{l}(g:ZJ l=xk){k a}(j:1<=k/\k<=4)(d:0<=a/\a<YS l k):Yh l (fstL l k+a)=(k,a,0):=by
 have h:=XO.1 g;have n:=jO g;unfold Yh X3;have f:k=1\/k=2\/k=3\/k=4:=Z0;obtain rfl|rfl|rfl|rfl:=f;grind;simp[fstL,YS]at d⊢;grind;simp[fstL,YS]at d⊢;grind;simp[fstL,YS]at d⊢;grind
end Vm
namespace Vm
open Go Go.Proofs
def Hl{g}(a:ZJ (Zv g)=xk):fwd g 0=(0,g,0):=by simp[fwd,a]
def jh{l}(f:ZJ l=xk){k a}(d:0<=a):¬ZP l k a=0:=by
 grind [ZP]
def fwd_here{g}(h:ZJ (Zv g)=xk){k a:Int}(f:1<=k/\k<=2)(d:0<=a/\a< I (Zw g k)):fwd g (ZP (Zv g) k a)=(ZP (Zv g) k a,g,0):=by
 grind [Ut,Jd,Tt,fwd]
def fwd_gone{g}(d:ZJ (Zv g)=xk){k}{a:Nat}(p:3<=k/\k<=4){u}(o:(Zw g k)[a]?=J u)(f:(adr u).2=0):fwd g (ZP (Zv g) k a)=(u,g,0):=by
 have q:a< I (Zw g k):=Zgl;have h:=jh d (k:=k) (a:=a) Z0;have j:=Ut d (k:=k) (a:=a) Z0;have l:=Jd d (k:=k) (a:=a) Z0 (by rw[Tt Z0];omega);have n:(Zw g k).getD a 0=u:=by simp[o]
 unfold fwd;simp[-List.getD_eq_getElem?_getD,d,h,j,l,show ¬k<3 by omega,n,f]
def Yl(g:Hp)(k:Int)(a n:Nat):Hp:=Xn (Xt g k a n) k<|(zr (Zw g k) a n).set a<|ZP (Zv g) 1<|I g.H
def Jz{g k a n}(d:a+n<=I (Zw g k)):Zv (Xt g k a n)= {Zv g with H:=(I g.H+n:Nat)}:=by
 simp_all[Zv,Xt,Ly.mk.injEq,true_and,and_true]
theorem Md{g}(f:ZJ (Zv g)=xk){k a n}(d:a+n<=I (Zw g k))(j:n<=XY (Zv g)):ZJ (Zv<|Xt g k a n)=xk:=by
 rw[Jz d];have e:XY (Zv g)=(Zv g).cap- (Zv g).H- (Zv g).ab:=by unfold XY;rw[f];rfl
 have h:(Zv g).H=I g.H:=rfl;grind [XO]
def C3{g k}(f:3<=k/\k<=4){a n}(d:a+n<=I (Zw g k)):Zv (Yl g k a n)= {Zv g with H:=(I g.H+n:Nat)}:=by
 rw[<-Jz d];apply Ef;rw[Zjl,jX];have:k=3\/k=4:=Z0;obtain rfl|rfl:=this<;>rfl
def Z6I{g}(j:ZJ (Zv g)=xk){k}(f:3<=k/\k<=4){a n}(d:a+n<=I (Zw g k))(h:n<=XY (Zv g)):ZJ (Zv<|Yl g k a n)=xk:=by
 rw[C3 f d,<-Jz d];grind [Md]
def Z9c{g k}(d:3<=k/\k<=4){a n}(f:a+n<=I (Zw g k))j b:ZP (Zv<|Yl g k a n) j b=ZP (Zv g) j b:=by
 rw[C3 d f];rfl
def fwd_wait{g}(h:ZJ (Zv g)=xk){k a}(C:3<=k/\k<=4){u}(B:(Zw g k)[a]?=J u)(q:¬(adr u).2=0){n:Nat}{pt}(p:ZQ u=((n:Int),pt,0))
  (j:a+(n+1)<=I (Zw g k)) (A:((n+1:Nat):Int)<=XY (Zv g)):fwd g (ZP (Zv g) k a)=(ZP (Zv g) 1<|I g.H,Yl g k a<|n+1,0):=by
 have r:=jh h (k:=k) (a:=a) Z0;have t:=Ut h (k:=k) (a:=a) Z0;have w:=Jd h (k:=k) (a:=a) Z0 (by grind [Tt]);have x:(Zw g k).getD a 0=u:=by simp[List.getD,B]
 have f:=Md h j A;have y:Y2 (Zv<|Xt g k a<|n+1) 1 (I g.H)=(fstL (Zv g) 1+I g.H,0):=by
  have:=SY f (k:=1) (a:=(I g.H:Int)) Z0 (by rw[Jz j];simp[YS,Zig];omega);rw[this,Jz j];rfl
 have d:=WP f 1;rw[Jz j]at d;simp only[YS,Zig]at d;have l:fstL {Zv g with H:=(I g.H+(n+1):Nat)} 1=fstL (Zv g) 1:=rfl;rw[l]at d;have z:Xq (fstL (Zv g) 1+I g.H)=(ZP (Zv g) 1<|I g.H,0):=by
  unfold Xq ZP;rw[Zhs Z0]
 unfold fwd;have o:¬k<3:=Z0;simp only[h,r,t,w,Zhs o,Zka,Zij,ZlG,Zl8,ZhA,x,q,p];unfold Rc;rw[Zhs Z0,Zhs Z0];simp[y,z];rfl
theorem Es{ws a}:∀n j,j<a\/a+n<=j->(zr ws a n)[j]?=ws[j]?
 |0,_,_=>rfl
 |n+1,j,h=>by
  unfold zr;rw[Zin Z0];exact Es n j Z0
def C5{g k}(o:3<=k/\k<=4){a n}(p:0<n){j}(l:3<=j/\j<=4){b}(h:j≠k\/b<a\/a+n<=b):(Zw (Yl g k a n) j)[b]?=(Zw g j)[b]? :=by
 have f:k=3\/k=4:=Z0;have d:j=3\/j=4:=Z0;obtain rfl|rfl:=f<;>obtain rfl|rfl:=d<;>simp[Yl,Xt,Lw]
 grind [Es];grind [Es]
def C4{g k}(l:3<=k/\k<=4){a n j}(h:3<=j/\j<=4):I (Zw (Yl g k a n) j)=I (Zw g j):=by
 have f:k=3\/k=4:=Z0;have d:j=3\/j=4:=Z0;obtain rfl|rfl:=f<;>obtain rfl|rfl:=d<;>simp[Yl,Xt]
def Z6H{g k}(h:3<=k/\k<=4){a n}(f:a+n<=I (Zw g k)):(Yl g k a n).H.length=I g.H+n/\(Yl g k a n).ab=g.ab:=by
 have d:k=3\/k=4:=Z0;obtain rfl|rfl:=d<;>simp[Lw]at f<;>simp[Yl,Xt]<;>omega
end Vm
namespace Vm
open Go Go.Proofs
def DA{h ws low}:∀f i d l,Ve h ws low f i d=J l->∃r,l=d++r
 |0,_,_,_,a=>by simp[Ve]at a
 |f+1,i,d,l,a=>by
  unfold Ve at a;split at a;cases a;exact⟨[],Z1⟩;split at a;split at a;cases a;let⟨r,g⟩:=DA f _ _ _ a;exact⟨_,by rw[g,Zi7]⟩;split at a;exact DA f _ _ _ a;cases a
def jE{h ws low}:∀f i d k,Ve h ws low f i d=J k->∀p g l,Xr ws k xk p i (I d) g=(l,0)->
  ∃r,l=g++r/\∀o∈r,o.gone=xk->∃q,YG h 1 low o.target=J q/\q.size=o.size/\q.M=o.M
 |0,_,_,_,j=>by simp[Ve]at j
 |f+1,i,d,k,j=>by
  intro p g l a;cases p with
  |zero=>simp[Xr]at a
  |succ p=>
   unfold Ve at j;unfold Xr at a;cases x:ws[i]? with
   |none=>
    simp_all
   |some w=>
    simp[x]at j a;by_cases t:(adr w).2=0;simp[t,Zig]at j;cases C:YG h 1 low (adr w).1 with
    |none=>simp_all
    |some q=>
     simp[C]at j;let⟨r,D⟩:=DA _ _ _ _ j;have F:k[I d]?=J (q.size,q.M):=by rw[D];simp
     unfold Wo at a;rw[Zht ⟨rfl,t⟩]at a;simp[F]at a;by_cases u:YC q.size q.M=xk;rw[Zht u]at a;simp only at a;split at a;simp at a;split at a;simp at a;have n:I d+1=I (d++[(q.size,q.M)]):=Z1;rw[n]at a;let⟨G,z,A⟩:=jE f _ _ _ j _ _ _ a;grind;simp_all
    simp[t,Zij]at j;by_cases y:(ZQ w).2.2=0;simp[y,Zig]at j;unfold Wo at a;rw[Zhs (λB=>t B.2),Zht y]at a;simp only at a;split at a;simp at a;split at a;simp at a;let⟨G,z,A⟩:=jE f _ _ _ j _ _ _ a;simp_all;simp_all
def RightH.nx{h p}(r:RightH h p){k}(D:3<=k/\k<=4){o}(d:o∈p.at k)(A:o.gone=xk):∃q∈p.H,YZ h 1 q.Z=o.target/\q.size=o.size/\q.M=o.M:=by
 have a:=r.fp;unfold XE at a;dsimp only at a;split at a;cases a;split at a;cases a
 have f:∀g x,x=VK h g (ZN h.H [] xw).1->¬x=U->(ZN g (x.getD []) xk).2=0->o∈(ZN g (x.getD []) xk).1->
   ∃q∈(ZN h.H [] xw).1,YZ h 1 q.Z=o.target/\q.size=o.size/\q.M=o.M:=by
  intro g x C F n d;obtain _|j:=x;simp_all;simp[ZhP]at n d;let⟨H,l,t⟩:=jE _ _ _ _ C.symm _ [] (ZN g j xk).1<|ZjZ rfl n;simp[Zic]at l;rw[l]at d;let⟨q,B,G⟩:=t o d A;have:=ZkL B;grind [FW]
 have u:¬VK h h.ah (ZN h.H [] xw).1=U:=Zgm;have w:¬VK h h.al (ZN h.H [] xw).1=U:=Zgm;have y:(ZN h.ah ((VK h h.ah (ZN h.H [] xw).1).getD []) xk).2=0:=Z0;have z:(ZN h.al ((VK h h.al (ZN h.H [] xw).1).getD []) xk).2=0:=Z0;cases a;have:k=3\/k=4:=Z0;obtain rfl|rfl:=this;exact f _ _ rfl u y Zgz;exact f _ _ rfl w z Zgz
def Z0x{l o}(h:o∈l):Wh o<=Y1 l:=by
 unfold Y1;induction l with
 |nil=>simp at h
 |cons x l a=>
  grind
def Zbr{p k}(a:3<=k/\k<=4){o}(h:o∈p.at k):Wh o<=YF p:=by
 have:k=3\/k=4:=Z0;unfold YF;obtain rfl|rfl:=this;have:=Z0x (l:=p.ah) h;omega;have:=Z0x (l:=p.al) h;omega
def Z9b{l}(d:ZJ l=xk){k j a b}(o:1<=k/\k<=4)(n:1<=j/\j<=4)(f:0<=a/\a<YS l k)(g:0<=b/\b<YS l j)(h:ZP l k a=ZP l j b):k=j/\a=b:=by
 have p:=Jd d o f;have q:=Jd d n g;have:fstL l k+a=fstL l j+b:=by unfold ZP at h;omega
 simp_all
def Z0n{u a}(d:(adr u).2=0)(h:(adr u).1=a):u=2*a+1:=by
 unfold adr at d h;grind
def Fy{u}(h:(ZQ u).2.2=0):¬(adr u).2=0:=by
 unfold ZQ at h;split at h;rename_i a;unfold adr;grind;grind
end Vm
namespace Vm
open Go Go.Proofs
end Vm
end
section
namespace Vm
open Go Go.Proofs
def Tiles.order{ws old}:∀ {a} {l:List Ob},Tiles ws old a l->l.Pairwise λx y=>x.Z<y.Z
 |_,[],_=>.nil
 |a,o::l,h=>by
  refine .cons (λx d=> ?_)<|Tiles.order h.2.2;have:=(Tiles.ba h.2.2 x d).2;have:=h.1;omega
def DL{h}(f:ZJ (Zv h)=xk){k}(d:1<=k/\k<=4){old o}(a:Stands (Zw h k) old o):YZ h k o.Z=fstL (Zv h) k+o.Z:=by
 have:=Yy.1 a.shape;have:=a.au;have:=a.iz;grind [YZ,SY,Tt]
def ZaQ{h}(f:ZJ (Zv h)=xk){k}(d:1<=k/\k<=4){old o}(a:Stands (Zw h k) old o):Yh (Zv h) (YZ h k o.Z)=(k,o.Z,0):=by
 have:=Yy.1 a.shape;have:=a.au;have:=a.iz;rw[DL f d a];grind [Jd,Tt]
def Tiles.nq{h}(f:ZJ (Zv h)=xk){k}(d:1<=k/\k<=4){old l}(a:Tiles (Zw h k) old 0 l):l.Pairwise λx y=>YZ h k x.Z≠YZ h k y.Z:=by
 refine List.Pairwise.imp_of_mem ?_ a.order;intro x y j n g;rw[DL f d (a.ba x j).1,DL f d (a.ba y n).1];omega
def Mp{h a}:∀ {l} {m:List (Int×(Int×Int))},(l.Pairwise λx y=>YZ h 1 x.Z≠YZ h 1 y.Z)->Y3 (XB h 1 m l) a=match YG h 1 l a with
  |some o=>J (o.size,o.M)
  |none=>Y3 m a
 | [],m,_=>rfl
 |o::l,m,f=>by
  let⟨g,d⟩:=ZkW.1 f;rw[XB,Mp d];unfold YG;cases j:l.find? (λo=>YZ h 1 o.Z==a)with
  |some q=>
   grind
  |none=>
   simp[Jk];grind [YZ,Zv]
def Cd{h k}(a:¬k=1):∀ {l} {m:List (Int×(Int×Int))},XB h k m l=m
 | [],m=>rfl
 |o::l,m=>by simp_all[XB,Cd]
def Lf{h k a}:∀ {l} {m:List (Int×Int)},Y3 (WH h k m l) a=if(YG h k l a).isSome=xk then J k else Y3 m a
 | [],m=>rfl
 |o::l,m=>by
  rw[WH,Lf];unfold YG;rw[Jk];by_cases f:YZ h k o.Z=a;have d:(Y2 _ k o.Z).1=a:=f;have:(YZ h k o.Z==a)=xk:=ZgD;simp[this,d];have d:¬(Y2 _ k o.Z).1=a:=f;have:(YZ h k o.Z==a)=xw:=ZgD;simp[this,d]
def Dz{lm ws}:∀f i a,∃r,WU lm ws f i a=a++r
 |0,_,a=>⟨[],by simp[WU]⟩
 |f+1,i,a=>by
  rw[WU];cases ws[i]? with
  |none=>simp
  |some w=>
   simp only;split;split;simp;obtain⟨r,d⟩:=Dz (lm:=lm) (ws:=ws) f _ _;exact⟨_,by rw[d,Zi7]⟩;split;exact Dz f _ _;simp
def jA{lm h low}(j:∀a,Y3 lm a=(YG h 1 low a).map λo=>(o.size,o.M)){ws}:∀f i g k,Ve h ws low f i g=J k->WU lm ws f i g=k
 |0,_,_,_,d=>by simp[Ve]at d
 |f+1,i,g,k,d=>by
  rw[Ve]at d;rw[WU];cases q:ws[i]? with
  |none=>rw[q]at d;simpa using d
  |some w=>
   rw[q]at d;simp only at d⊢;by_cases l:(adr w).2=0;rw[Zht l]at d⊢;rw[j];cases n:YG h 1 low (adr w).1 with
   |none=>rw[n]at d;cases d
   |some o=>rw[n]at d;exact jA j _ _ _ _ d
   rw[Zhs l]at d⊢;by_cases p:(ZQ w).2.2=0;rw[Zht p]at d⊢;exact jA j _ _ _ _ d;rw[Zhs p]at d;cases d
def jB{lm h low}(k:∀a,Y3 lm a=(YG h 1 low a).map λo=>(o.size,o.M)){ws}:∀f i d,0<f->I ws<f+i->Ve h ws low f i d=U->
  ∀l j,(Xr ws (WU lm ws f i d) xk l i (I d) j).2≠0
 |0,_,_,u,_,_=>Z0
 |f+1,i,d,u,D,g=>by
  intro l j;cases l with
  |zero=>simp[Xr]
  |succ l=>
   rw[Ve]at g;rw[WU,Xr];cases t:ws[i]? with
   |none=>simp_all
   |some w=>
    have x:=(Zhj.1 t).1;rw[t]at g;simp only at g⊢;by_cases p:(adr w).2=0;rw[Zht p]at g⊢;rw[k];cases y:YG h 1 low (adr w).1 with
    |none=>
     simp[Option.map_none];have:Wo d xk i (I d) w=U:=by
      unfold Wo;rw[Zht ⟨rfl,p⟩];simp
     rw[this];simp
    |some o=>
     rw[y]at g;simp[ZhL]at g⊢;let⟨r,z⟩:=Dz (lm:=lm) (ws:=ws) f (i+1+o.size.toNat)<|d++[(o.size,o.M)];have C:=jB k f _ _ Z0 Z0 g l;generalize WU lm ws f _ _=n at*;have A:n[I d]?=J (o.size,o.M):=by rw[z];simp
     unfold Wo;rw[Zht ⟨rfl,p⟩,A];simp only;by_cases q:YC o.size o.M=xk;rw[Zht q];simp only;split;simp;split;simp;simp_all;simp_all
    rw[Zhs p]at g⊢;by_cases B:(ZQ w).2.2=0;rw[Zht B]at g⊢;have C:=jB k f _ d Z0 Z0 g l;generalize WU lm ws f _ d=n at*;unfold Wo;grind;simp_all[Wo]
structure Found (h:Hp) (s:Ck) (p:Pts):Prop where
 hp:s.h=h
 o1:s.o1=p.H
 o2:s.o2=p.ab
 o3:s.o3=p.ah
 o4:s.o4=p.al
 pm:s.pm=WH h 4 (WH h 3 (WH h 2 (WH h 1 [] p.H) p.ab) p.ah) p.al
def Zbv{h}(C:ZJ (Zv h)=xk):match XE h with
  |some p=>(Wg<|XA h).1=xk/\Found h (Wg<|XA h).2 p
  |none=>(Wg<|XA h).1=xw:=by
 unfold Wg XE;dsimp only;have D:Xs (XA h) 1=ZN h.H [] xw:=rfl;rw[V8,D];by_cases z:(ZN h.H [] xw).2=0;case neg=>simp_all
 rw[Zht z];have B:Tiles h.H xw 0 (ZN h.H [] xw).1:=SQ (ws:=h.H) (shs:=[]) Zgl;generalize (ZN h.H [] xw).1=d at*;have F:Xs (XV (XA h) 1 d) 2=ZN h.ab [] xw:=rfl;rw[V8,F];by_cases A:(ZN h.ab [] xw).2=0;case neg=>simp_all
 rw[Zht A,Zhs Z0];generalize (ZN h.ab [] xw).1=n at*;have f:∀a,Y3 (XB h 1 [] d) a=(YG h 1 d a).map λo=>(o.size,o.M):=by
  intro a;rw[Mp<|Tiles.nq C (k:=1) Z0 (by simpa using B)];cases YG h 1 d a<;>rfl
 have g:(XV (XV (XA h) 1 d) 2 n).lm=XB h 1 [] d:=Cd Z0;have G:Xs (XV (XV (XA h) 1 d) 2 n) 3=ZN h.ah (U8 (XB h 1 [] d) h.ah) xk:=by
  rw[<-g];rfl
 rw[V8,G];cases w:VK h h.ah d with
 |none=>
  have:=jB f _ 0 [] Z0 Z0 w (I h.ah+1) [];have q:¬(ZN h.ah (U8 _ h.ah) xk).2=0:=this;rw[Zhs q,Zht<|.inl rfl]
 |some shs=>
 have t:U8 _ h.ah=shs:=jA f _ _ _ _ w;rw[t];simp[ZhP];by_cases q:(ZN h.ah shs xk).2=0;case neg=>simp_all
 rw[Zht q];generalize (ZN h.ah shs xk).1=y at*;have l:(XV (XV (XV (XA h) 1 d) 2 n) 3 y).lm=XB h 1 [] d:=by
  rw[<-g];exact Cd Z0
 have H:Xs (XV (XV (XV (XA h) 1 d) 2 n) 3 y) 4=ZN h.al (U8 (XB h 1 [] d) h.al) xk:=by
  rw[<-l];rfl
 rw[V8,H];cases x:VK h h.al d with
 |none=>
  have:=jB f _ 0 [] Z0 Z0 x (I h.al+1) [];have r:¬(ZN h.al (U8 _ h.al) xk).2=0:=this;rw[Zhs r,if_pos Z1]
 |some j=>
 have u:U8 _ h.al=j:=jA f _ _ _ _ x;rw[u];simp[ZhP];by_cases r:(ZN h.al j xk).2=0;case neg=>simp_all
 rw[Zht r,Zhs Zgl];exact⟨rfl,rfl,rfl,rfl,rfl,rfl,rfl⟩
end Vm
namespace Vm
open Go Go.Proofs
def CH{h p}(a:XE h=J p){k}(g:1<=k/\k<=4):Tiles (Zw h k) (decide (2<k)) 0<|p.at k:=by
 have:k=1\/k=2\/k=3\/k=4:=Z0;unfold XE at a;dsimp only at a;split at a;cases a;split at a;cases a;rename_i c2;cases a;have c3:(ZN h.H [] xw).2=0/\(ZN h.ab [] xw).2=0:=by
  refine⟨Z0,Z0⟩
 have c4:∀x:Int,¬x≠0->x=0:=Z0;have f:=c4 _ (λd=>c2<|.inr<|.inr<|.inr d);obtain rfl|rfl|rfl|rfl:=this;exact SQ<|ZjZ rfl c3.1;exact SQ<|ZjZ rfl c3.2;exact SQ<|ZjZ rfl<|c4 _ (λd=>c2<|.inr<|.inr<|.inl d);exact SQ<|ZjZ rfl f
def Z7U{h p}(a:XE h=J p){k}(C:3<=k/\k<=4){o}(d:o∈p.at k)(z:o.gone=xk):∃q∈p.H,YZ h 1 q.Z=o.target/\q.size=o.size/\q.M=o.M:=by
 unfold XE at a;dsimp only at a;split at a;cases a;split at a;cases a
 have f:∀g x,x=VK h g (ZN h.H [] xw).1->¬x=U->(ZN g (x.getD []) xk).2=0->o∈(ZN g (x.getD []) xk).1->
   ∃q∈(ZN h.H [] xw).1,YZ h 1 q.Z=o.target/\q.size=o.size/\q.M=o.M:=by
  intro g x B D n d;obtain _|j:=x;simp_all;simp[ZhP]at n d;let⟨G,l,r⟩:=jE _ _ _ _ B.symm _ [] (ZN g j xk).1<|ZjZ rfl n;simp[Zic]at l;rw[l]at d;let⟨q,A,F⟩:=r o d z;have:=ZkL A;grind [FW]
 have t:¬VK h h.ah (ZN h.H [] xw).1=U:=Zgm;have u:¬VK h h.al (ZN h.H [] xw).1=U:=Zgm;have w:(ZN h.ah ((VK h h.ah (ZN h.H [] xw).1).getD []) xk).2=0:=Z0;have y:(ZN h.al ((VK h h.al (ZN h.H [] xw).1).getD []) xk).2=0:=Z0;cases a;have:k=3\/k=4:=Z0;obtain rfl|rfl:=this;exact f _ _ rfl t w Zgz;exact f _ _ rfl u y Zgz
theorem Z2G{h}(n:ZJ (Zv h)=xk){p}(l:XE h=J p){k}(d:1<=k/\k<=4){a}(j:(YG h k (p.at k) a).isSome=xk):∃b,Yh (Zv h) a=(k,b,0):=by
 let⟨o,f⟩:=Ziq.1 j;have g:YZ h k o.Z=a:=by have:=ZkL f;simpa using this
 rw[<-g];exact⟨_,ZaQ n d ((CH l d).ba o<|Zk2 f).1⟩
def FY{h}(o:ZJ (Zv h)=xk){p}(n:XE h=J p){k j}(g:1<=k/\k<=4)(f:1<=j/\j<=4)(l:k≠j){a}(d:(YG h k (p.at k) a).isSome=xk):(YG h j (p.at j) a).isSome=xw:=by
 grind [Z2G]
section
variable {h:Hp}{s:Ck}{p:Pts}
def Found.du(a:Found h s p){k}:s.du k=p.at k:=by
 unfold Ck.du Pts.at;rw[a.o1,a.o2,a.o3,a.o4]
def Found.pv(d:Found h s p)a:Y3 s.pm a=if(YG h 4 (p.at 4) a).isSome=xk then J 4 else if(YG h 3 (p.at 3) a).isSome=xk then J 3 else if(YG h 2 (p.at 2) a).isSome=xk then J 2 else if(YG h 1 (p.at 1) a).isSome=xk then J 1 else U:=by
 rw[d.pm,Lf,Lf,Lf,Lf];rfl
def Found.sb(q:Found h s p)(y:ZJ (Zv h)=xk)(x:XE h=J p)w:YR s w 1 2=Xz h p w 1 2/\YR s w 3 4=Xz h p w 3 4/\YR s w 1 4=(Xz h p w 1 2||Xz h p w 3 4):=by
 unfold YR Xz;by_cases n:w=0;simp[n];by_cases D:(adr w).2=0;case neg=>grind
 rw[q.pv];generalize (adr w).1=a;have o:=λk j t r u=>FY (k:=k) (j:=j) y x t r u (a:=a);have C:=o 4 2 Z0 Z0 Z0;have B:=o 4 1 Z0 Z0 Z0;have A:=o 3 2 Z0 Z0 Z0;have z:=o 3 1 Z0 Z0 Z0;clear o;generalize (YG h 1 _ a).isSome=d at*;generalize (YG h 2 _ a).isSome=f at*;generalize (YG h 3 _ a).isSome=g at*;generalize (YG h 4 _ a).isSome=l at*;cases d<;>cases f<;>cases g<;>cases l<;>simp_all
end
end Vm
namespace Vm
open Go Go.Proofs
def XF(l:List Ob):List Int:=(l.filter (·.gone)).map (·.target)
def Z8E{α l k}{x:α}(h:Y3 l k=U):I (XW l k x)=I l+1:=by
 grind [Y3,Option.map_eq_none_iff,XW]
def zZ{pm}:∀ {l} {m:List (Int×Bool)} {K:List Int},K.Nodup->(∀a,Y3 m a=if a∈K then J xk else U)->I m=I K->
  match WC pm l m with
  |some r=>(∀t∈XF l,(Y3 pm t).getD 0=1)/\(K++XF l).Nodup/\I r=I (K++XF l)/\∀a,Y3 r a=if a∈K++XF l then J xk else U
  |none=>¬((∀t∈XF l,(Y3 pm t).getD 0=1)/\(K++XF l).Nodup)
 | [],m,K,n,d,q=>by simp only[XF,List.filter_nil,ZiN,ZiE];exact⟨Z1,n,q,d⟩
 |o::l,m,K,n,d,q=>by
  rw[WC];cases w:o.gone with
  |false=>
   have:XF (o::l)=XF l:=by simp[XF,w]
   rw[this];exact zZ n d q
  |true=>
   rw[Zht rfl];have h:XF (o::l)=o.target::XF l:=by simp[XF,w]
   rw[h];by_cases j:(Y3 pm o.target).getD 0=1;by_cases k:o.target∈K;rw[Zhs (by rw[d,Zht k];simp)];rintro⟨_,z⟩;exact(Zkr.1 z).2.2 _ k _ Z1 rfl;have g:Y3 m o.target=U:=by rw[d,Zhs k]
   rw[Zht ⟨j,by rw[g];rfl⟩]
   have f:=zZ (pm:=pm) (l:=l) (m:=XW m o.target xk) (K:=K++[o.target]) (by
     rw[Zkr];refine⟨n,Z1,λa y b u=> ?_⟩;simp at u;subst u;intro e;subst e;exact k y) (λa=>by
     rw[Jk,d];by_cases e:o.target=a;simp[e];have x:¬a=o.target:=Z0;simp[e,x]) (by rw[Z8E g,q];simp)
   rw[Zi7]at f;cases p:WC pm l _ with
   |none=>
    rw[p]at f;rintro⟨A,B⟩;exact f ⟨Zgm,B⟩
   |some r=>
    rw[p]at f;refine⟨λt h=> ?_,f.2⟩;obtain rfl|h:=ZhK.1 h;exact j;exact f.1 t h
   rw[Zhs (λp=>j p.1)];rintro⟨A,_⟩;exact j Zgm
def PT{l a}:X9 l a=(XF l).count a:=by
 unfold X9 XF;induction l with
 |nil=>rfl
 |cons o l d=>
  grind
def Z7o{T S:List Int}(j:S.Nodup)(f:T⊆S):(T.Nodup/\I T=I S)↔ ∀a∈S,T.count a=1:=by
 constructor;rintro⟨d,n⟩ a k;by_cases o:a∈T;grind;have g:T⊆S.erase a:=Zgl;have l:=d.length_le_of_subset g;grind;intro h;have d:T.Nodup:=Zgl;refine⟨d,Nat.le_antisymm (d.length_le_of_subset f)<|j.length_le_of_subset λa k=> ?_⟩;grind
section
variable {h:Hp}{s:Ck}{p:Pts}
def Found.rv(f:Found h s p)(C:ZJ (Zv h)=xk)(y:XE h=J p):Q7 s=(!h.Y||p.H.all (RJ h p)):=by
 have G:=CH y (k:=1) Z0;have F:(p.H.map λo=>YZ h 1 o.Z).Nodup:=by
  have:=Tiles.nq C (k:=1) Z0 G;rw[List.nodup_iff_pairwise_ne,List.pairwise_map];exact this
 have n:∀t∈XF s.o3++XF s.o4,t∈p.H.map λo=>YZ h 1 o.Z:=by
  intro t d;have:∃k,(3<=k/\k<=4)/\t∈XF (p.at k):=by
   obtain d|d:=ZhO.1 d;exact⟨3,Z0,by rw[f.o3]at d;exact d⟩;exact⟨4,Z0,by rw[f.o4]at d;exact d⟩
  let⟨k,x,d⟩:=this;simp[XF,ZhC,ZjE]at d;obtain⟨o,⟨r,L⟩,rfl⟩:=d;let⟨q,z,B,_⟩:=Z7U y x r L;exact ZhC.2 ⟨q,z,B⟩
 have N:∀t∈XF s.o3++XF s.o4,(Y3 s.pm t).getD 0=1:=by
  intro t d;let⟨q,z,B⟩:=ZhC.1<|n t d;have u:(YG h 1 (p.at 1) t).isSome=xk:=by
   unfold YG;rw[List.find?_isSome];exact⟨q,z,Zgl⟩
  have o:=λk x M=>FY (k:=1) (j:=k) C y Z0 x M u;rw[f.pv,o 4 Z0 Z0,o 3 Z0 Z0,o 2 Z0 Z0,u];rfl
 unfold Q7;rw[f.hp];cases S:h.Y;rfl;simp[Zk8,ZkD];have key:=Z7o F (T:=XF s.o3++XF s.o4) n;have g:p.H.all (RJ h p)=xk↔ ∀a∈(p.H.map λo=>YZ h 1 o.Z),(XF s.o3++XF s.o4).count a=1:=by
  rw[Zhw];constructor;intro A a H;obtain⟨o,r,rfl⟩:=ZhC.1 H;have:=A o r;simp[RJ,ZhS,US,PT]at this;rw[List.count_append,f.o3,f.o4];exact this;intro A o r;have:=A _<|ZhC.2 ⟨o,r,rfl⟩;rw[List.count_append,f.o3,f.o4]at this;simp_all[RJ,US,PT]
 rw[ZhN]at key;have w:=zZ (pm:=s.pm) (l:=s.o3) (m:=[]) (K:=[]) Z1 (by simp[Y3]) rfl;simp only[Zic]at w;rw[ZkI,g,<-key];cases u:WC s.pm s.o3 []with
 |none=>
  grind
 |some m=>
  rw[u]at w;let⟨X,O,P,Q⟩:=w;simp[Zhu];have c2:=zZ (pm:=s.pm) (l:=s.o4) (m:=m) (K:=XF s.o3) O Q P;cases D:WC s.pm s.o4 m with
  |none=>
   simp_all
  |some W=>
   rw[D]at c2;let⟨Y,Z,R,r4⟩:=c2;simp[ZhS,R,f.o1];simp_all
end
end Vm
namespace Vm
open Go Go.Proofs
def PB:∀ {l} {a:Int} {i:Nat},XQ l xk a i=xk->∀w∈l,w=0
 | [],_,_,_,w,d=>by simp at d
 |x::l,a,i,h,w,d=>by
  simp[XQ,ZhS]at h;obtain rfl|d:=ZhK.1 d;exact h.1.1;exact PB h.2 w d
def LE{s k q}:V4 s k q=xk↔ ∀o∈s.du k,o.gone=xw->∀j,j<o.M.toNat->q ((o.Z.toNat+1+j:Nat):Int) (Ua (Zw s.h k)<|o.Z.toNat+1+j)=xk:=by
 unfold V4 obQ;grind
def Z8A{h p}(u:XE h=J p){k}(r:1<=k/\k<=4):WJ h p k=xk↔ ∀o∈p.at k,o.gone=xw->∀j,j<o.M.toNat->Up h p k (o.Z.toNat+1+j)=xk:=by
 unfold WJ qv;rw[Zhw];constructor;simp_all;intro x o t;rw[Zhw];intro j l;have l:=Zk3.1 l;cases q:o.gone;simp_all;have d:=((CH u r).ba o t).1;have w:=Yy.1 d.shape;have f:=d.gj;rw[q]at f;have g:=d.au;have n:=d.iz;have a:o.Z.toNat+1+j< I (Zw h k):=Z0;have y:(Zw h k)[o.Z.toNat+1+j]?=J 0:=by
  rw[Zhi a];refine Zit J<|(PB f) _ ?_;rw[Zkx];refine⟨j,?_⟩;rw[ZhV,Zht Z0,ZhM,Zhi a]
 grind [Xz,Up]
section
variable {h:Hp}{s:Ck}{p:Pts}
def Found.M(u:Found h s p)(K:ZJ (Zv h)=xk)(G:XE h=J p):(QO s&&(QR s&&Qr s))=(h.E.all (λw=>Xz h p w 1 2)&&WJ h p 1&&WJ h p 2&&WJ h p 3&&WJ h p 4):=by
 have g:=u.sb K G;have t:s.h.E.all (λw=>YR s w 1 2)=h.E.all (λw=>Xz h p w 1 2):=by
  rw[u.hp];congr 1;funext w;exact(g w).1
 have l:=λk=>u.du (k:=k);have r:∀k (q:Nat->Int->Bool) (F:1<=k/\k<=4),(∀a,Up h p k a=q a (Ua (Zw h k) a))->(WJ h p k=xk↔ ∀o∈p.at k,o.gone=xw->∀j,j<o.M.toNat->q (o.Z.toNat+1+j) (Ua (Zw h k)<|o.Z.toNat+1+j)=xk):=by
  intro k q F H;rw[Z8A G F];simp[H]
 have p3:=r 3 (λ_ w=>Xz h p w 3 4) Z0 (λa=>by simp[Up,Ua]);have p4:=r 4 (λ_ w=>Xz h p w 3 4) Z0 (λa=>by simp[Up,Ua]);have L:=r 1 (λa w=>if h.aa<=a then Xz h p w 1 2||Xz h p w 3 4 else Xz h p w 1 2) Z0 (λa=>by simp[Up,Ua]);have N:V4 s 2 (λ_ w=>YR s w 1 2)=xk↔WJ h p 2=xk:=by
  rw[r 2 (λ_ w=>Xz h p w 1 2) Z0 (λa=>by simp[Up,Ua]),LE,l,u.hp];simp[(g _).1]
 have O:V4 s 3 (λ_ w=>YR s w 3 4)=xk↔WJ h p 3=xk:=by
  rw[p3,LE,l,u.hp];simp[(g _).2.1]
 have P:V4 s 4 (λ_ w=>YR s w 3 4)=xk↔WJ h p 4=xk:=by
  rw[p4,LE,l,u.hp];simp[(g _).2.1]
 have M:(V4 s 1 (λa w=>decide (s.h.aa<=a)||YR s w 1 2)=xk/\V4 s 1 (λa w=>decide (a<s.h.aa)||YR s w 1 4)=xk)↔WJ h p 1=xk:=by
  rw[L,LE,LE,l,u.hp];simp only[(g _).1,(g _).2.2];constructor;rintro⟨C,D⟩ o A y j z;have C:=C o A y j z;have D:=D o A y j z;generalize o.Z.toNat+1+j=n at*;by_cases x:h.aa<=n;have:¬n<h.aa:=Z0;simpa[x,this]using D;simpa[x]using C;intro B;refine⟨λo A y j z=> ?_,λo A y j z=> ?_⟩;have B:=B o A y j z;generalize o.Z.toNat+1+j=n at*;by_cases x:h.aa<=n;simp[x];simpa[x]using B;have B:=B o A y j z;generalize o.Z.toNat+1+j=n at*;by_cases x:h.aa<=n;have:¬n<h.aa:=Z0;simpa[x,this]using B;have:n<h.aa:=Z0;simp[this]
 unfold QO QR Qr;rw[t,ZkI];simp[Zhl];rw[N,O,P,<-M];constructor;rintro⟨⟨a,b,c⟩,d,e,f⟩;exact⟨⟨⟨⟨a,c,d⟩,b⟩,e⟩,f⟩;rintro⟨⟨⟨⟨a,c,d⟩,b⟩,e⟩,f⟩;exact⟨⟨a,b,c⟩,d,e,f⟩
def Found.tv(a:Found h s p):QL s=decide ((I h.H:Int)+I h.ab+YF p<=h.cap):=by
 unfold QL SP YF;rw[a.hp,a.o3,a.o4]
end
def Z78 h:TT h=(R3 (XA h)&&QJ (XA h)):=by
 grind [TT,R3,QJ,XA,Zv]
def BM h:(VF h).isSome=Yv h/\∀s,VF h=J s->∃p,XE h=J p/\Found h s p:=by
 have k:VF h=(if R3 _=xk then if QJ (XA h)=xk then if(Wg<|XA h).1=xk then
   if Q7 (Wg<|XA h).2=xk then if QO (Wg<|XA h).2=xk then if QR (Wg<|XA h).2=xk then if Qr (Wg<|XA h).2=xk then if QL (Wg<|XA h).2=xk then
    J (Wg<|XA h).2 else U else U else U else U else U else U else U else U):=rfl
 unfold Yv;rw[Z78 h];cases a:R3 _;simp_all;have g:ZJ (Zv h)=xk:=by
  unfold R3 at a;simp[Zhl]at a;exact a.1
 cases j:QJ _;simp_all;have l:=Zbv g;cases f:XE h with
 |none=>
  simp_all
 |some p=>
  rw[f]at l;let⟨q,d⟩:=l;rw[a,j,q]at k;simp at k;generalize (Wg _).2=s at*;have n:=d.M g f;have o:=d.tv;have r:SD h p=(Q7 s&&((QO s&&(QR s&&Qr s))&&QL s)):=by
   rw[d.rv g f,n,o];unfold SD;simp[Bool.and_assoc]
  grind
def Z6c h k:Ll h k=UJ h k:=by
 let⟨d,g⟩:=BM h;unfold Ll UJ;cases f:VF h with
 |none=>
  simp_all
 |some s=>
  rw[f]at d;have a:Yv h=xk:=d.symm;let⟨p,l,j⟩:=g s f;simp[a,l,j.du]
def Z6g h:(jS h:Int)=RO h:=by
 let⟨d,j⟩:=BM h;unfold jS RO;cases g:VF h with
 |none=>
  simp_all
 |some s=>
  rw[g]at d;have a:Yv h=xk:=d.symm;let⟨p,k,f⟩:=j s g;simp[a,k];unfold SP YF;rw[f.o3,f.o4]
end Vm
end
