import Derived.ProofKit
import Derived.OpenShut
import Derived.Conc.SmallLaws
import Derived.RangeFuncNested
import Derived.RangeFuncBound
import Derived.WalkSpells
import Derived.WalkLawsBesides
import Derived.StillTailTactics
import Derived.Deep.RegionHeld3
import Derived.Deep.AppendLies
import Derived.Deep.Onto
import Derived.Deep.OwnRows
import Derived.Lib.Hide
import Derived.Lib.AppendZerosOnto
import Derived.Laws.CopyOwn
import Derived.Test.YthdflnfincieaaaGreatSMutatorRoom4
set_option linter.unusedSimpArgs false
set_option linter.unusedVariables false
set_option linter.defProp false
open Option renaming some→J,none→U
open Bool renaming true→xk,false→xw
open Go renaming undef→xy
open List renaming length→I
open Array renaming size→xz
open Go.World renaming heap→xj
open List renaming length→xq
open Array renaming size→xz
open Go.World renaming heap→xj
set_option maxHeartbeats 4000000
set_option maxRecDepth 100000
theorem Zhz{p:Prop}(h:p:=by simp[ZE]):p:=h
theorem ZhA{p:Prop}(h:p:=by simp[Xi]):p:=h
theorem Zha{p:Prop}(h:p:=by simp[Y4];omega):p:=h
theorem Zhc{p:Prop}(h:p:=by unfold ZM at d;omega):p:=h
theorem ZgV{p:Prop}(h:p:=by decide):p:=h
theorem Zhy{p:Prop}(h:p:=by simp[Xi];omega):p:=h
theorem ZgX{p:Prop}(h:p:=by unfold maxLen;omega):p:=h
def Zj4:=@List.append_nil
def ZiL:=@Int.tmod_eq_emod_of_nonneg
def Zl9:=@Int.tdiv_eq_ediv_of_nonneg
def Zl8:=@Int.fdiv_eq_ediv_of_nonneg
def ZiG:=@List.take_add_one
def ZlG:=@Int.emod_nonneg
def Zld:=@Int.emod_lt_of_pos
def ZlL:=@List.set_append_right
def ZiD:=@List.drop_eq_getElem_cons
def Ziw:=@List.append_assoc
def Zkw:=@List.map_set
def ZjR:=@List.take_append_drop
def Zl4:=@List.sum_append
def Zla:=@Bool.true_eq_false
def Zku:=@List.length_pos_iff
def ZjV:=@List.getElem?_eq_none_iff
def Zle:=@List.findIdx?_cons
def ZiE:=@List.findIdx?_eq_some_iff_getElem
def Zl5:=@List.take_succ_cons
def ZjA:=@List.length_eq_zero_iff
def Zjs:=@List.length_set
def Zls:=@not_true_eq_false
def Zlf:=@List.pairwise_cons
def ZkW:=@Bool.false_or
def ZlD:=@Bool.eq_iff_iff
def ZkA:=@Go.grownBy_putObj'
def ZiU:=@Go.World.alloc_heap_new
def ZjM:=@Go.World.size_alloc
def Zkd:=@Go.World.putObj_heap_same
def Ziq:=@Go.World.putObj_heap_other
def Zi0:=@Go.RowKit.Below.heap_setCell
def ZhK:=@Go.Lib.hid
def Zie:=@Go.bodyPost_ret
def ZlV:=@Nat.mul_one
def Zlm:=@List.take_left
def Zka:=@Array.ext
section
namespace Vm
open Go Go.Proofs
def sig(f:Zn):Option<|List OT:=
 if f=97 then J [.fz,.mem [.own 162],.mem [.own 3]]else
 if f=76 then J [.fz,.mem [.fz,.fz]]else
 if f=93 then J [.fz,.own 162]else
 if f=75 then J [.fz,.own 162]else
 if f=86 then J [.mem [.fz,.fz,.fz,.fz,.fz,.fz,.fz,.fz,.fz,.fz,.fz,.fz,.fz,.fz,.fz,.fz,.fz,.fz,.fz,.fz,.fz,.own 106,.own 107],.fz,.fz]else
 if f=68 then J [.mem [.fz,.fz,.fz,.fz,.fz,.fz,.fz,.fz,.fz,.fz,.fz,.fz,.fz,.fz,.fz,.fz,.fz,.fz,.fz,.fz,.fz,.own 106,.own 107]]else
 if f=1000067 then J [.mem [.fz,.fz,.fz,.fz,.fz,.fz,.fz,.fz,.fz,.fz,.fz,.fz,.fz,.fz,.fz,.fz,.fz,.fz,.fz,.fz,.fz,.own 106,.own 107]]else
 U
@[simp]def pI(n:Int):E:=.c<|.int .i64 n
@[simp]def pU(n:Int):E:=.c<|.int .u64 n
@[simp]def pF:E:=.c<|.bool xw
@[simp]def pT:E:=.c<|.bool xk
@[simp]def pN:E:=.c<|.sl []
@[simp]def pG(e:E):Nat->Nat->List E
 |_,0=>[]
 |i,n+1=>.ae e i::pG e (i+1) n
@[simp]def pS(a n:Nat):OV:=.m<|pG (.sz (.s a) n) 0 n
@[simp]def pM(e:E)(n:Nat):OV:=.m<|pG e 0 n
@[simp]def pY:E:=.ag [pU 0,pI 0,pI 0,pF,pI 0,pN,pN,pN,pN,pN]
@[simp]def pZ:OV:=.m [pU 0,pI 0,pI 0,pF,pI 0,pN,pN,pN,pN,pN]
@[simp]def pR(l:List<|Nat×OV):Stm:=.ao ⟨[],[],l⟩
@[simp]def pC(e:List EF)(l:List<|Nat×OV):Stm:=.ao ⟨e,[],l⟩
@[simp]def pV(t:Nat)(e:E):Nat×OV:=(t,.v e)
@[simp]def pK(t f:Nat)(l:List E):EF:=.call t [] (.id f) xw xw l
@[simp]def pQ:List Stm->Stm->Stm
 | [],z=>z
 |a::l,z=>.seq a<|pQ l z
def fresh(f:Zn):Bool:=f==94||f==82||f==84
def follows:xP.follows .mixedOrders=xk:=Z2
noncomputable abbrev CPF(a:List OT)(f:Func):Option Fn:=ZN xP fresh sig a [] f
@[simp]def pl(a b:E):E:=.bn .lss a b
@[simp]def pe(a b:E):E:=.bn .eql a b
@[simp]def pa(a b:E):E:=.bn .add a b
@[simp]def pn(a b:E):E:=.bn .neq a b
@[simp]def pb(a b:E):E:=.bn .sub a b
@[simp]def pg(a b:E):E:=.bn .geq a b
@[simp]def pL(a b:E):E:=.bn .leq a b
@[simp]def pj(a b:E):E:=.bn .gtr a b
@[simp]def pm(a b:E):E:=.bn .mul a b
@[simp]def pw(c:E)(a:Stm):Stm:=.cond c a .skip
@[simp]def px(l:List<|Nat×OV):Stm:=.seq (pR l) .ret
@[simp]def pi(t:Nat)(e:E)(a:Stm):Stm:=.seq (pR [pV t e])<|.cond (.s t) a .skip
@[simp]def pu(t:Nat)(e:E)(a b:Stm):Stm:=.seq (pR [pV t e])<|.cond (.s t) a b
@[simp]def po(k:Zc)(t:Nat)(e:E)(a b:Stm):Stm:=.block 0<|.loop k<|.seq (pR [pV t e])<|.seq (.cond (.s t) .skip<|.exit 0)<|.seq (.block 1 a) b
@[simp]def pc(n:Nat):Stm:=pR [pV n<|.bn .add (.s n)<|pI 1]
section
def Aw(x:Option V)(A B:Prop):Prop:=
 match x with
 |some (.bool xk)=>A
 |some (.bool xw)=>B
 |_=>False
@[simp]theorem ZdC b A B:Aw (J<|.bool b) A B↔if b=xk then A else B:=by cases b<;>simp[Aw]
def Wd{α:Type}(x:Option α)(K:α->Prop):Prop:=
 match x with
 |some x=>K x
 |none=>False
@[simp]theorem Zfg{α}x(K:α->Prop):Wd (J x) K↔K x:=ZjE
@[simp]theorem Zff{α}(K:α->Prop):Wd U K↔False:=ZjE
@[simp]theorem Zfe{α β}f(x:Option α)(K:β->Prop):Wd (x.map f) K↔Wd x (λy=>K<|f y):=by cases x<;>rfl
@[simp]theorem Zfc{α β}f(x:Option α)(K:β->Prop):Wd (x.bind f) K↔Wd x (λy=>Wd (f y) K):=by cases x<;>rfl
@[simp]theorem Zfd{α}p [Decidable p]x y(K:α->Prop):Wd (if p then x else y) K↔if p then Wd x K else Wd y K:=by split<;>rfl
def R5 P [Lg P](f:Zn)(fr fl:Bool)(xs:Zr)(K:V->Prop):Prop:=∃r,VC P f fr xs r/\(fl=xk->WD r=J r)/\K r
def Zy{P} [Lg P]{f fr fl xs K r}(h:VC P f fr xs r)(d:fl=xk->WD r=J r)(a:K r):R5 P f fr fl xs K:=⟨r,h,d,a⟩
def zU P [Lg P](f:Zn)(ks:List OT)(xs:Zr)(K:V->Prop):Prop:=∃R,Vv P f ks xs R/\K R
def Ug{P} [Lg P]{f ks xs K R}(h:Vv P f ks xs R)(a:K R):zU P f ks xs K:=⟨R,h,a⟩
def kS P [Lg P](b:Stm)(N:St->Prop)(X:Nat->St->Prop)(R:St->Prop)(s:St):Prop:=Yu P b s N X R
def xB(id:Nat)(N:St->Prop)(X:Nat->St->Prop)(i:Nat)(s:St):Prop:=if i=id then N s else X i s
def kR(a:List<|ZH×E)(outs:List<|Nat×OV)(K:St->Prop)(t:St):Prop:=SW t a/\Ue outs t t K
def kO(l:List<|Nat×OV)(t u:St)(i:Nat)(K:St->Prop)(x:SV):Prop:=Ue l t (YC u i x) K
def kL P [Lg P](l:List EF)(s:St)(i:Nat)(K:St->Prop)(x:V):Prop:=YL P l (YC s i<|.v x) K
def kA P [Lg P](f:Zn)(fr fl:Bool)(K:V->Prop)(xs:Zr):Prop:=R5 P f fr fl xs K
def Qe P [Lg P](fr fl:Bool)(K:V->Prop)(xs:Zr)(v:V):Prop:=Wd (J0 v) λn=>R5 P n.1 fr fl (xs++n.2) K
def Bv P [Lg P](x:Option V)(fr fl:Bool)(K:V->Prop)(xs:Zr):Prop:=Wd x<|Qe P fr fl K xs
def Bw P [Lg P](f:Option FuncId)(ks:List OT)(K:V->Prop)(xs:Zr):Prop:=Wd f λn=>zU P n ks xs K
def kW P [Lg P](l:List EF)(s:St)(i:Nat)(K:St->Prop)(a:Zr):Prop:=if a=[]then YL P l s K else YL P l (YC s i<|.v<|.al<|.bool xw::a) K
def kT(_:V):Prop:=True
section
variable {P:Z6}[Lg P]{N R:St->Prop}{X:Nat->St->Prop}{K:St->Prop}{s t u:St}
@[simp]theorem ZeV b:kS P b N X R s↔Yu P b s N X R:=ZjE
@[simp]theorem ZgF id:xB id N X id s↔N s:=by simp[xB]
def JZ id i:xB id N X i s↔if i=id then N s else X i s:=ZjE
@[simp]theorem ZgE{id i}(h:i≠id):xB id N X i s↔X i s:=by simp[xB,h]
@[simp]theorem ZeU a outs:kR a outs K t↔SW t a/\Ue outs t t K:=ZjE
@[simp]theorem ZeT l i x:kO l t u i K x↔Ue l t (YC u i x) K:=ZjE
@[simp]theorem ZeS l i x:kL P l s i K x↔YL P l (YC s i<|.v x) K:=ZjE
@[simp]theorem ZeR f fr fl K xs:kA P f fr fl K xs↔R5 P f fr fl xs K:=ZjE
@[simp]theorem ZeP v fr fl K xs:Bv P (J v) fr fl K xs↔Qe P fr fl K xs v:=ZjE
@[simp]theorem ZeO(f:Zn)(fr fl:Bool)(K:V->Prop)(xs:Zr):Qe P fr fl K xs (.fn f)↔R5 P f fr fl xs K:=by simp[Qe,J0]
@[simp]theorem ZeN f cs fr fl K xs:Qe P fr fl K xs (.cn f cs)↔R5 P f fr fl (xs++cs) K:=by simp[Qe,J0]
@[simp]theorem ZeQ f ks K xs:Bw P (J f) ks K xs↔zU P f ks xs K:=ZjE
@[simp]theorem ZeY(l:List EF)(i:Nat):kW P l s i K []↔YL P l s K:=by simp[kW]
@[simp]theorem ZeX l i x a:kW P l s i K (x::a)↔YL P l (YC s i<|.v<|.al<|.bool xw::x::a) K:=by simp[kW]
@[simp]theorem ZeW x:kT x↔True:=ZjE
@[simp]theorem ZgA r:Yu P (.ao r) s N X R↔jO P r s N:=ZjE
@[simp]theorem ZgD:Yu P .skip s N X R↔N s:=ZjE
@[simp]theorem ZgC a b:Yu P (.seq a b) s N X R↔Yu P a s (kS P b N X R) X R:=ZjE
@[simp]theorem Zgy c a b:Yu P (.cond c a b) s N X R↔Aw (eval s c) (Yu P a s N X R) (Yu P b s N X R):=by
 rfl
@[simp]theorem Zgx id a:Yu P (.block id a) s N X R↔Yu P a s N (xB id N X) R:=ZjE
@[simp]theorem Zgz id:Yu P (.exit id) s N X R↔X id s:=ZjE
@[simp]theorem ZgB:Yu P .ret s N X R↔R s:=ZjE
def S7{keep a}(I:St->Prop)(μ:St->Nat)(f:I<|YV keep s)(g:∀s,I s->Yu P a s (λd=>I (YV keep d)/\μ (YV keep d)<μ s) X R):Yu P (.loop keep a) s N X R:=⟨I,μ,f,g⟩
@[simp]theorem Zgw d a outs:jO P ⟨d,a,outs⟩ s K↔YL P d s (kR a outs K):=ZjE
@[simp]theorem Zgv:Ue [] t u K↔K u:=ZjE
@[simp]theorem Zgu i o l:Ue ((i,o)::l) t u K↔Wd (V0 t o) (kO l t u i K):=by
 simp[Ue,kO];cases V0 t o<;>rfl
@[simp]theorem Zgo:SW t []↔True:=ZjE
@[simp]theorem Zgn C e l:SW t ((C,e)::l)↔(VW t C=xk->Wd (eval t e) kT)/\SW t l:=by
 simp[SW,kT];cases eval t e<;>simp
@[simp]theorem Zgt:YL P [] s K↔K s:=ZjE
@[simp]theorem Zgs i C e l:YL P (.lt i C e::l) s K↔if VW s C=xk then Wd (eval s e) (kL P l s i K)else YL P l s K:=by
 simp[YL,kL];cases eval s e<;>rfl
@[simp]theorem Zgp i C f fr fl es l:YL P (.call i C (.id f) fr fl es::l) s K↔if VW s C=xk then Wd (YB s es) (kA P f fr fl<|kL P l s i K)else YL P l s K:=by
 simp[YL,Wd,R5,Td];cases YB s es<;>simp
@[simp]theorem Zgq i C x fr fl es l:YL P (.call i C (.e x) fr fl es::l) s K↔if VW s C=xk then Wd (YB s es) (Bv P (eval s x) fr fl<|kL P l s i K)else YL P l s K:=by
 simp[YL,Wd,Bv,Qe,R5,Td];cases YB s es with
 |none=>simp
 |some d=>
  cases eval s x with
  |none=>simp
  |some v=>cases a:J0 v<;>simp[a]
@[simp]theorem Zgr i C f ks es l:YL P (.cl i C f ks es::l) s K↔
  if VW s C=xk then Wd (YB s es)<|Bw P (VD s f) ks<|kL P l s i K
  else Wd (WG s ks es)<|kW P l s i K:=by
 simp[YL,Wd,zU,Bw,kW];split;cases YB s es<;>cases VD s f<;>simp
 cases WG s ks es with
 |none=>simp
 |some a=>cases a<;>simp
@[simp]theorem ZfG e:V0 t (.v e)=(eval t e).map .v:=rfl
@[simp]theorem ZfE l:V0 t (.m l)=(YB t l).map .m:=rfl
@[simp]theorem ZfF:V0 t .no=J .no:=rfl
@[simp]theorem ZeI:VW s []=xk:=rfl
def Z4v i b(C:ZH):VW s ((i,b)::C)=((match get s i with|.v (.bool c)=>c==b|_=>xw)&&VW s C):=rfl
end
@[simp]theorem ZeG x(s:St):get (x::s) 0=x:=rfl
@[simp]theorem ZeF x(s:St)n:get (x::s) (n+1)=get s n:=by simp[get]
@[simp]theorem ZfL x y(s:St):YC (y::s) 0 x=x::s:=rfl
@[simp]theorem ZfK x y(s:St)n:YC (y::s) (n+1) x=y::YC s n x:=rfl
@[simp]theorem ZfJ x:YC [] 0 x=[x]:=rfl
@[simp]theorem ZfI x n:YC [] (n+1) x=.no::YC [] n x:=rfl
@[simp]theorem ZfD s:YV [] s=[]:=rfl
@[simp]theorem ZfC i l s:YV (i::l) s=YC (YV l s) i (get s i):=rfl
attribute [simp] LF eval YB Z4v Wr Ts U9 Q1 Q0 XD JB R2 TF VD WG
section
variable {k:IntKind}{a b:Int}{x y:V}{l r:Zr}
@[simp]theorem Zd7:Xb .add (.int k a) (.int k b)=J (.int k<|k.wrap<|a+b):=by simp[Xb]
@[simp]theorem Zdh:Xb .sub (.int k a) (.int k b)=J (.int k<|k.wrap<|a-b):=by simp[Xb]
@[simp]theorem Zdd:Xb .mul (.int k a) (.int k b)=J (.int k<|k.wrap<|a*b):=by simp[Xb]
@[simp]theorem Zdf:Xb .quo (.int k a) (.int k b)=if b≠0 then J (.int k<|k.wrap<|a.tdiv b)else U:=by simp[Xb]
@[simp]theorem Zdg:Xb .rem (.int k a) (.int k b)=if b≠0 then J (.int k<|a.tmod b)else U:=by simp[Xb]
@[simp]theorem Zd8:Xb .eql (.int k a) (.int k b)=J (.bool<|decide (a=b)):=by simp[Xb];rfl
@[simp]theorem Zde:Xb .neq (.int k a) (.int k b)=J (.bool<|!decide (a=b)):=by simp[Xb];rfl
@[simp]theorem Zdc:Xb .lss (.int k a) (.int k b)=J (.bool<|decide (a<b)):=by simp[Xb]
@[simp]theorem Zdb:Xb .leq (.int k a) (.int k b)=J (.bool<|decide (a<=b)):=by simp[Xb]
@[simp]theorem Zda:Xb .gtr (.int k a) (.int k b)=J (.bool<|decide (b<a)):=by simp[Xb]
@[simp]theorem Zd9:Xb .geq (.int k a) (.int k b)=J (.bool<|decide (b<=a)):=by simp[Xb]
@[simp]theorem ZdE p q n:R8 n (.bool p) (.bool q)=J (.bool<|n ^^ (p==q)):=rfl
@[simp]theorem Zgg:SQ .neg (.int k a)=J (.int k<|k.wrap<|0-a):=rfl
@[simp]theorem Zgh p:SQ .not (.bool p)=J (.bool !p):=rfl
@[simp]theorem ZdD k':J2 k' (.int k a)=J (.int k'<|k'.wrap a):=rfl
@[simp]theorem ZeZ:Qi (.sl l)=J (.int .i64<|I l):=rfl
@[simp]theorem Zf5 id vs:Ri (.mp id l vs)=J (.int .i64<|I l):=rfl
@[simp]theorem Zf2 id vs:L7 (.mp id l vs)=J (.mp id [] []):=rfl
@[simp]theorem Zf3:Qo (.int k a) (.int k b)=J (.int k<|if b<a then b else a):=rfl
@[simp]theorem Zf1:Qn (.int k a) (.int k b)=J (.int k<|if b>a then b else a):=rfl
@[simp]theorem ZdF i:Sd (.al l) i=l[i]? :=rfl
@[simp]theorem ZeK(i n:Nat):X8 (.sl l) (.int k i) n=(l[i]?).bind λz=>if I z.cells=n then J z else U:=by simp[X8]
@[simp]theorem Zdp:(V.int k a).cells=[V.int k a]:=rfl
@[simp]theorem Zdn p:(V.bool p).cells=[V.bool p]:=rfl
@[simp]theorem Zds s:(V.str s).cells=[V.str s]:=rfl
@[simp]theorem Zdr:(V.sl l).cells=[V.sl l]:=rfl
@[simp]theorem Zdl:(V.agg l).cells=l:=rfl
@[simp]theorem Zdq id:(V.mp id l r).cells=[V.mp id l r]:=rfl
@[simp]theorem Zdo f:(V.fn f).cells=[V.fn f]:=rfl
@[simp]theorem Zfy:(V.int k a).one=xk:=rfl
@[simp]theorem Zfu p:(V.bool p).one=xk:=rfl
@[simp]theorem ZfB:(V.sl l).one=xk:=rfl
@[simp]theorem Zfz id:(V.mp id l r).one=xk:=rfl
@[simp]theorem Zfx f:(V.fn f).one=xk:=rfl
@[simp]theorem Zft:(V.agg l).one=xw:=rfl
@[simp]theorem Zfn:YP (.int k a)=J (.int k a):=rfl
@[simp]theorem Zfj p:YP (.bool p)=J (.bool p):=rfl
@[simp]theorem Zfr s:YP (.str s)=J (.str s):=rfl
@[simp]theorem Zfq:YP (.sl l)=J (.sl l):=rfl
@[simp]theorem Zfo id:YP (.mp id l r)=J (.mp id l r):=rfl
@[simp]theorem Zfm f:YP (.fn f)=J (.fn f):=rfl
@[simp]theorem ZdI o:Y0 (.agg l) o=(l[o]?).bind YP:=rfl
@[simp]theorem Ze4:Y0 (.int k a) 0=J (.int k a):=rfl
@[simp]theorem ZdJ p:Y0 (.bool p) 0=J (.bool p):=rfl
@[simp]theorem Zeu:Y0 (.sl l) 0=J (.sl l):=rfl
@[simp]theorem Zev s:Y0 (.str s) 0=J (.str s):=rfl
@[simp]theorem Zew o n:UJ (.agg l) o n=if o+n<=(I l) then J (.agg<|(l.drop o).take n)else U:=rfl
@[simp]theorem Zg4 n:VJ (.agg l) n=if I l=n then J (.agg l)else U:=rfl
@[simp]theorem ZeL:Qc (.agg l)=J (.agg l):=rfl
@[simp]theorem Zg3:Tw (.ptr l)=J (.agg l):=rfl
@[simp]theorem ZeM p A B:Jk (.bool p) A B=if p=xk then A else B:=by cases p<;>rfl
@[simp]theorem ZcT:S9 l=.agg (flat l):=rfl
@[simp]theorem ZdG:flat (x::l)=x.cells++flat l:=rfl
@[simp]theorem ZdH:flat []=[]:=rfl
@[simp]theorem Zd6 n:RS n (.sl l) (.sl r)=if I l+I r<=Y4/\Xv n r=xk then J (.sl<|l++r)else U:=rfl
@[simp]theorem ZfW n:Xv n []=xk:=rfl
@[simp]theorem ZfT n:Xv n (x::l)=(I x.cells==n&&Xv n l):=rfl
def JQ{α:Type}{f n}{l:List α}(h:∀x,(f x).cells.length=n):Xv n (l.map f)=xk:=by
 simp[Xv,h]
abbrev Z9:=List Int
@[simp]theorem zd(l:Z9):Xv 1 (l.map<|V.int k)=xk:=JQ λ_=>rfl
@[simp]theorem Zf4(n:Nat):L9 x (.int k n)=if n<=Y4 then J (.sl<|List.replicate n x)else U:=by
 simp only[L9];have:(n<=Y4)↔n<=Y4:=Z0;simp
@[simp]theorem ZaB(i j n:Nat):RB n (.sl l) (.int k i) (.int k j)=if i<=j/\j<=I l/\Xv n l=xk then J (.sl<|(l.take j).drop i)else U:=by
 simp[RB]
@[simp]theorem Zg1(i n:Nat):QF n (.sl l) (.int k (i:Int))=if i<=I l/\Xv n l=xk then J (.sl<|l.drop i)else U:=by
 simp[QF]
@[simp]theorem Zgi(i o:Nat):RG (.sl l) (.int k i) o y=(l[i]?).bind λz=>if o+I y.cells<=I z.cells/\y.cells≠[]then J (.sl<|l.set i<|z.put o y.cells)else U:=by
 simp[RG]
end
abbrev vi(n:Int):V:=.int .i64 n
abbrev vu(n:Int):V:=.int .u64 n
@[simp]theorem Zf7(n:Nat):((n:Int)<0)↔False:=by simp
def Zx n(a: -9223372036854775808<=n)(h2:n<=9223372036854775807):IntKind.i64.wrap n=n:=by
 rw[IntKind.wrap_i64];omega
end
end Vm
end
section
namespace Vm
open Go Go.ChangeShapes Go.WideShapes Go.ChangeAt Go.RowKit
section
def KM(P:Z6)(n:Nat):List Field->Nat->Bool
 | [],o=>o==n
 |f::l,o=>f.offset==o&&KM P n l (o+P.cellsOf f.type)
def Sx(P:Z6):Nat->TypeId->Bool
 |0,_=>xw
 |n+1,t=>match P.underlying t with
  |some .bool|some (.int _)|some .string=>xk
  |some (.slice e)=>Sx P n e&&decide (0<P.cellsOf e)
  |some (.struct a)=>KM P (P.cellsOf t) a.toList 0&&a.toList.all λf=>Sx P n f.type
  |some (.array m e)=>Sx P n e&&m*P.cellsOf e==P.cellsOf t
  |_=>xw
def Xo(P:Z6):Nat->TypeId->V->Prop
 |0,_,_=>False
 |n+1,t,x=>match P.underlying t with
  |some .bool=>∃b,x=.bool b
  |some (.int k)=>∃m,x=.int k m/\(Lit.int k m).wf=xk
  |some .string=>∃s,x=.str s/\s.size<=maxLen
  |some (.slice e)=>∃l,x=.sl l/\I l<=maxLen/\∀y∈l,Xo P n e y
  |some (.struct d)=>∃a,x=.agg (flat a)/\I a=I d.toList/\∀(i:Nat) (f:Field) (y:V),d.toList[i]?=J f->a[i]?=J y->Xo P n f.type y
  |some (.array m e)=>∃a,x=.agg (flat a)/\I a=m/\∀y∈a,Xo P n e y
  |_=>False
def RdC(w:Z3)(G:Z4)(cs:Zr)(vs:Zm):Prop:=
 I vs=I cs/\∀(i:Nat) (c:V),cs[i]?=J c->c.one=xk/\∃u,vs[i]?=J u/\Rd w G c u
def RdC.nil{w G}:RdC w G [] []:=⟨rfl,λi c h=>Zhk⟩
def RdC.append{w G cs d vs f}(h:RdC w G cs vs)(h':RdC w G d f):RdC w G (cs++d)<|vs++f:=by
 refine⟨by simp[h.1,h'.1],λi c g=> ?_⟩;rw[List.getElem?_append]at g⊢;rw[h.1];split at g;rename_i a;rw[ZhS a];exact h.2 i c g;rename_i a;rw[ZhP a];exact h'.2 _ c g
theorem RdC.one{w G c v}(a:c.one=xk)(h:Rd w G c v):RdC w G [c] [v]:=
 ⟨rfl,λi x d=>by
  grind⟩
def zX{α:Type}{Q:Nat->α->Prop}:∀n,(∀i,i<n->∃y,Q i y)->∃l:List α,I l=n/\∀i y,l[i]?=J y->Q i y
 |0,_=>Z1
 |n+1,h=>by
  let⟨l,d,f⟩:=zX n λi o=>h i Z0;let⟨y,j⟩:=h n Z0;refine⟨l++[y],by simp[d],λi z a=> ?_⟩;rw[List.getElem?_append]at a;split at a;exact f i z a;rename_i g;rw[List.getElem?_singleton]at a;split at a;rename_i k;have:i=n:=Z0;subst this;simp[ZhF]at a;subst a;exact j;cases a
def Aq{w:Z3}{b a n cs}(h:w.cells? b a n=J cs):I cs=n/\∀i,i<n->w.cell? (a.add i)=cs[i]? :=by
 unfold World.cells? at h;split at h;have d:=mapM_some_length h;rw[List.length_range]at d;refine⟨d,λi f=>mapM_some_get h i i ?_⟩;simp_all;cases h
def Z3l{w:Z3}{a v}(h:w.cell? a=J v):a.block<xz (xj w):=by
 grind [World.cell?]
def Da{w G}:∀ {ys} {a:List (List Value)},I a=I ys->(∀(i:Nat) y vs,ys[i]?=J y->a[i]?=J vs->RdC w G y.cells vs)->RdC w G (flat ys) a.flatten
 | [],[],_,_=>by simpa using RdC.nil
 | [],_::_,h,_=>Zhk
 |_::_,[],h,_=>Zhk
 |y::ys,vs::a,h,d=>by
  exact(d 0 y vs rfl rfl).append (Da ZgH λi z f j g=>d (i+1) z f ZgH ZgH)
def GZ{P n}{cs:Zm}:∀ {l} {o:Nat},KM P n l o=xk->o<=n/\(I cs=n->cs.drop o=(l.map λf=>(cs.drop f.offset).take<|P.cellsOf f.type).flatten)
 | [],o,h=>by
   simp_all[KM,Zix]
 |f::l,o,h=>by
  simp[KM,Zix]at h;let⟨d,a⟩:=h;let⟨g,j⟩:=GZ (cs:=cs) a;refine⟨Z0,λk=> ?_⟩;grind [List.drop_drop,List.take_append_drop]
def Z2v{cs:Zm}{k}:∀ {m},I cs=m*k->cs=((List.range m).map λi=>(cs.drop<|i*k).take k).flatten:=by
 have:∀m (cs:Zm),cs.take (m*k)=((List.range m).map λi=>(cs.drop<|i*k).take k).flatten:=by
  intro m;induction m with
  |zero=>simp
  |succ m d=>
   simp_all[Zk2,ZiR,List.flatten_append,Zj1,List.take_add]
 intro m h;have a:=this m cs;grind
section
abbrev ZgG:=Nat->Bool
variable {H:Type}{enc:TypeId×Value->H}{P:Z6}{w:Z3}{spare:ZgG}{held:Bool}
def jc:∀ {n} {t:Zd} {C:Nat} {cs:Zm} {d:DataW H×List MemPlace},Sx P n t=xk->DataW.trod enc P w 0 spare held C t cs=J d->
  ∃x,Xo P n t x/\RdC w (λb=>b<xz (xj w)) x.cells cs
 |0,t,C,cs,d,L,h=>by cases L
 |n+1,t,C,cs,d,L,h=>by
  unfold Sx at L;unfold Xo;split at L;rename_i N;obtain⟨b,rfl,_⟩:=DataW.trod_bool N h;exact⟨.bool b,⟨b,rfl⟩,.one rfl<|.bool b⟩;rename_i k N;obtain⟨m,rfl,_,hw⟩:=DataW.trod_int N h;exact⟨.int k m,ZgI,.one rfl<|.int k m⟩;rename_i N;obtain⟨s,rfl,_,hw⟩:=DataW.trod_string N h;exact⟨.str s,ZgI,.one rfl<|.str s⟩;rename_i e N;simp only[ZhJ,Zid]at L;let⟨M,A⟩:=L;obtain⟨rfl,_⟩|⟨a,len,cap,a8,b3,m,_,rfl,_,_,b5,a4,b4,D,_⟩:=DataW.trod_slice N h;exact⟨.sl [],Z1,.one rfl<|.nil _ _ Z0⟩;have F:∀i,i<len->∃y,Xo P n e y/\∃vs,w.cells? 0 (a.add<|i*P.cellsOf e) (P.cellsOf e)=J vs/\RdC w (λb=>b<xz (xj w)) y.cells vs:=by
   intro i g;have p:=D i g;rw[ZhG Z0]at p;simp only[ZhE]at p;let⟨vs,S,B⟩:=p;let⟨y,r,T⟩:=jc M B;exact⟨y,r,vs,S,T⟩
  let⟨l,b1,a1⟩:=zX len F;have b6:∀y∈l,Xo P n e y:=λy r=>by
   let⟨i,g⟩:=Zi9 r;exact(a1 i y g).1
  refine⟨.sl l,ZgH,.one rfl ?_⟩;cases a5:len with
  |zero=>
   have:l=[]:=ZgI;subst this;exact .nil _ _ a4
  |succ b2=>
   let⟨b,o,a0⟩:=a;have a2:a0=U:=by
    let⟨y,_,vs,O,_⟩:=F 0 Z0;let⟨p,S⟩:=Aq O;have B:=S 0 A;rw[ZhG Z0]at B;have h4:=World.cell?_spot B;obtain _|s:=a0;rfl;simp[Addr.add]at h4
   subst a2;have z:∀(i j:Nat) (y:V),l[i]?=J y->j<P.cellsOf e->∃(u:Zb),w.cell? ⟨b,o+(i*P.cellsOf e+j),U⟩=J u/\∃c,y.cells[j]?=J c/\c.one=xk/\Rd w (λb=>b<xz (xj w)) c u:=by
    intro i j y r Z;let⟨_,vs,O,T⟩:=a1 i y r;let⟨p,S⟩:=Aq O;have B:=S j Z;rw[Zjk,Zjk,ZhG Z0]at B;have b7:j<I y.cells:=by rw[<-T.1];omega
    let⟨q1,u,q2,q3⟩:=T.2 j y.cells[j] Z1;rw[ZhG Z0,ZhF]at q2;subst q2;exact⟨_,by rw[<-ZiS];exact B,_,Z1,q1,q3⟩
   have K:∀y∈l,y.an<|P.cellsOf e:=λy r=>by
    let⟨i,g⟩:=Zi9 r;let⟨_,vs,O,T⟩:=a1 i y g;refine⟨by rw[<-T.1,(Aq O).1],λc hc=> ?_⟩;let⟨j,Z⟩:=Zi9 hc;exact(T.2 j c Z).1
   have Y:∀i,i<I l*P.cellsOf e->∃y,l[i / P.cellsOf e]?=J y/\i%P.cellsOf e<P.cellsOf e/\i=i / P.cellsOf e*P.cellsOf e+i%P.cellsOf e:=by
    intro i g;have p:=(ZlO A).2 g;exact⟨_,ZhG p,ZkY _ A,by rw[Nat.mul_comm];exact(Nat.div_add_mod _ _).symm⟩
   have hb:b<xz (xj w):=by
    obtain⟨y,r⟩:∃y,l[0]?=J y:=⟨_,ZhG Z0⟩;let⟨u,hu,_⟩:=z 0 0 y r A;exact Z3l hu
   have a6:=Rd.sl (w:=w) (G:=λb=>b<xz (xj w)) l b o cap (P.cellsOf e) (λi=>(w.cell? ⟨b,o+i,U⟩).getD xy) Z0 a4 hb K (λi g=> ?_) (λi c g=> ?_);rw[b1,a5]at a6;exact a6;let⟨y,p,S,B⟩:=Y i g;let⟨u,hu,_⟩:=z _ _ y p S;rw[<-B]at hu;rw[hu];rfl;have b0:i<I l*P.cellsOf e:=by
    rw[<-Se K];exact(ZhH.1 g).1
   let⟨y,p,S,B⟩:=Y i b0;let⟨u,hu,c',a9,_,T⟩:=z _ _ y p S;rw[<-B]at hu;rw[B,VR K p _ S,a9]at g;cases g;simp only[hu,Zih];exact T
  rename_i fs N;simp only[ZhJ,ZhV]at L;let⟨M,A⟩:=L;let⟨xs,m,_,_,a3,a7,D⟩:=DataW.trod_struct N h
  let⟨ys,R,W⟩:=zX (Q:=λi y=>∀f,fs.toList[i]?=J f->Xo P n f.type y/\RdC w (λb=>b<xz (xj w)) y.cells ((cs.drop f.offset).take<|P.cellsOf f.type)) (I fs.toList) (by
   intro i g;have hf:fs.toList[i]?=J fs.toList[i]:=Z1;have p:=D i fs.toList[i] Z1;rw[ZhG (by rw[a7];exact g)]at p;let⟨y,r,T⟩:=jc (A _<|Zi5 g) p;exact⟨y,ZgH⟩)
  refine⟨.agg<|flat ys,⟨ys,rfl,R,λi f y hf r=>ZgH⟩,?_⟩;have X:=(GZ (cs:=cs) M).2 a3;rw[List.drop_zero]at X;rw[X];refine Da (by simp[R]) λi y vs r O=> ?_;rw[Zi8,ZhI]at O;obtain⟨f,hf,rfl⟩:=O;exact(W i y r f hf).2;rename_i m e N;simp only[ZhJ,Zix]at L;let⟨M,A⟩:=L;let⟨xs,q,_,_,a3,a7,D⟩:=DataW.trod_array N h
  let⟨ys,R,W⟩:=zX (Q:=λi y=>Xo P n e y/\RdC w (λb=>b<xz (xj w)) y.cells ((cs.drop<|i*P.cellsOf e).take<|P.cellsOf e)) m (by
   intro i g;have p:=D i g;rw[ZhG Z0]at p;exact jc M p)
  refine⟨.agg<|flat ys,⟨ys,rfl,R,λy r=> ?_⟩,?_⟩;let⟨i,g⟩:=Zi9 r;exact(W i y g).1;rw[Z2v (cs:=cs) (k:=P.cellsOf e) (m:=m) Z0];refine Da (by simp[R]) λi y vs r O=> ?_;rw[Zi8,ZhI]at O;obtain⟨j,Z,rfl⟩:=O;have:j=i:=by
   rw[ZhH]at Z;let⟨_,Z⟩:=Z;simpa using Z.symm
  subst this;exact(W j y r).2;cases L
def Z95{n t v d F r D}(j:Sx P n t=xk)(a:Value.okWide P w r D t v)(h:DataW.Trod enc P w 0 spare held t v d F):
  ∃x,Xo P n t x/\Rd w (λb=>b<xz (xj w)) x v:=by
 let⟨B,h⟩:=h;let⟨x,g,l⟩:=jc j h;refine⟨x,g,?_⟩;have o:∀ {c},x=c->c.cells=[c]->v.cells.toList=[v]->Rd w (λb=>b<xz (xj w)) x v:=by
  intro c y q A;subst y;rw[q,A]at l;let⟨_,u,p,C⟩:=l.2 0 x rfl;simp at p;subst p;exact C
 have K:∀ {cs} {vs:Za},x=.agg cs->v=.agg vs->Rd w (λb=>b<xz (xj w)) x v:=by
  intro cs vs y A;subst y A;refine .agg cs vs (by have:=l.1;simpa[Value.cells]using this) (λc q=> ?_) λi c z=> ?_;let⟨i,z⟩:=Zi9 q;exact(l.2 i c z).1;let⟨_,u,p,C⟩:=l.2 i c z;have:vs.getD i xy=u:=by
   have G:vs[i]?=J u:=by simpa[Value.cells]using p
   simp[G]
  grind
 cases n with
 |zero=>cases j
 |succ n=>
  unfold Sx at j;unfold Xo at g;split at j;rename_i f;rw[f]at g;obtain⟨b,rfl⟩:=g;obtain⟨c,rfl⟩:=okWide_bool f a;exact o rfl rfl rfl;rename_i k f;rw[f]at g;obtain⟨b,rfl,_⟩:=g;obtain⟨c,rfl⟩:=okWide_int f a;exact o rfl rfl rfl;rename_i f;rw[f]at g;obtain⟨b,rfl,_⟩:=g;obtain⟨c,rfl⟩:=okWide_string f a;exact o rfl rfl rfl;rename_i e f;rw[f]at g;obtain⟨b,rfl,_⟩:=g;obtain⟨c,_,_,rfl⟩:=okWide_slice f a;exact o rfl rfl rfl;rename_i H f;rw[f]at g;simp[Value.okWide]at a;grind;rename_i m e f;rw[f]at g;simp[Value.okWide]at a;grind;cases j
def OG{n r F}:∀ {ts} {vs:Zm} {l:List (DataW H)} {z:List MemPlace},DataW.TrodAll enc P w 0 spare held ts vs l z->(∀t∈ts,Sx P n t=xk)->
  (∀(j:Nat) t v,ts[j]?=J t->vs[j]?=J v->Value.okWide P w r F t v)->
  ∃k:Zr,I k=I vs/\I vs=I ts/\I l=I ts/\(∀(i:Nat) t x,ts[i]?=J t->k[i]?=J x->Xo P n t x)/\∀(i:Nat) x v,k[i]?=J x->vs[i]?=J v->Rd w (λb=>b<xz (xj w)) x v
 | [],vs,l,z,h,_,_=>by
   obtain⟨rfl,rfl,rfl⟩:=trodAll_nil h;simp
 |t::ts,vs,l,z,h,D,a=>by
  obtain⟨v,S,d,G,p,q,rfl,rfl,rfl,K,L⟩:=trodAll_cons h;let⟨x,u,y⟩:=Z95 (D t Z1) (a 0 t v rfl rfl) K;let⟨k,M,N,R,O,Q⟩:=OG L (λt g=>D t<|by simp[g]) λj A B g o=>a (j+1) A B ZgH ZgH;refine⟨x::k,by simp[M],by simp[N],by simp[R],λi A C g f=> ?_,λi C B f o=> ?_⟩;cases i with
  |zero=>simp at g f;subst g f;exact u
  |succ i=>exact O i A C ZgH ZgZ
  cases i with
  |zero=>simp at o f;subst o f;exact y
  |succ i=>exact Q i C B ZgZ ZgH
def FO{W W'}(k:laidOutB P=xk)(g:Below (xz<|xj W) W W'):∀ {ts} {vs:Zm} {f:List (DataW H)} {a:List MemPlace},DataW.TrodAll enc P W 0 (λ_=>xk) xk ts vs f a->
  (∀t∈ts,P.readableRec t=xk/\t<P.types.size)->(∀x∈a,x.block<xz (xj W))->DataW.TrodAll enc P W' 0 (λb=>decide (b<xz (xj W))) xk ts vs f a
 | [],vs,f,a,h,_,_=>by
   obtain⟨rfl,rfl,rfl⟩:=trodAll_nil h;rfl
 |t::ts,vs,f,a,h,j,r=>by
  obtain⟨v,w,d,l,p,q,rfl,rfl,rfl,n,o⟩:=trodAll_cons h;exact trodAll_cons_mk (Below.trod k (j t Z1).1 (j t Z1).2 n g λx u=>ZgI) (FO k g o ZgI λx u=>ZgI)
end
def Z5V{P} [Lg P]{f fn}{s:ChangeSpec}{tb}n(S:laidOutB P=xk)(C:(fn.params.toList.all λt=>Sx P n t)=xk)(k:(fn.params.toList.all λt=>P.readableRec t&&decide (t<P.types.size))=xk)
  (a:s.vars=[]) (u:fn.resultTypes=#[tb]) (O:P.underlying tb=J .bool)
  (h:∀H ds,I ds=I fn.params.toList->s.fn H ds= {results:=[.lit<|.bool xk],args:=ds})
  (o:∀y,I y=I fn.params.toList->(∀(i:Nat) t x,fn.params.toList[i]?=J t->y[i]?=J x->Xo P n t x)->VC P f xw y (.bool xk))
  H enc W base args (ds gs:List<|DataW H) d
  (w:∀(j:Nat) t v,fn.params[j]?=J t->args[j]?=J v->Value.okWide P W .any base t v)
  (A:DataW.Whole enc P fn.params.toList s.vars xw W args.toList ds gs d):
  Lg.kf P f args W λe G=>∃v,e=.returned v/\s.post enc P fn xw xk xw xw W args v G:=by
 have r:=λx z=>by simpa using A.lt x z
 have l:=A;obtain⟨p,q,K,L,rfl,_,_⟩:=A;rw[a]at L;obtain⟨rfl,rfl⟩:=trodVars_none L;rw[Zj4]at r l;let⟨y,N,T,q5,X,Y⟩:=OG (n:=n) K (ZhV.1 C) λj t v M Z=>w j t v ZgH ZgH;let⟨_,F⟩:=o y (by rw[N,T]) X;refine Lg.ej (F W (λb=>b<xz (xj W)) args Z0 ZgH λi x z=> ?_) λe G Q=> ?_;have R:i<I args.toList:=by rw[<-N];exact(ZhH.1 z).1
 have:args.getD i xy=args.toList[i]:=by
  have B:i<args.size:=by simpa using R
  simp[ZhM,B]
 rw[this];exact Y i x _ z Z1;obtain⟨v,rfl,g,D⟩:=Q;cases D;refine⟨_,rfl,ds,[],p,[],p,[],l,?_,?_,?_,g.frame _,Z1⟩;rw[h H _ ZgH,u];exact trodAll_mk1<|shut_bool O xk;rw[h H _ ZgH,Zj4];exact FO S g K (λt M=>by simpa using ZhV.1 k t M) r;rw[a,h H _ ZgH];rfl
def IS{α:Type}{enc}{Q:α->Prop}:∀ {l:Zr},(∀y∈l,∃a,y=enc a/\Q a)->∃d:List α,l=d.map enc/\∀a∈d,Q a
 | [],_=>Z1
 |y::l,h=>by
  obtain⟨a,rfl,g⟩:=h y Z1;obtain⟨d,rfl,j⟩:=IS (l:=l) λz f=>h z<|Zio _ f;exact⟨a::d,rfl,ZgI⟩
def Z01{P n t x k}(d:P.underlying t=J (.int k))(h:Xo P (n+1) t x):∃m,x=.int k m/\k.min<=m/\m<=k.max:=by
 unfold Xo at h;rw[d]at h;obtain⟨m,rfl,a⟩:=h;simp[Lit.wf,Zid]at a;exact⟨m,rfl,a⟩
def DU{P n t e x}{α:Type}{enc}{Q:α->Prop}(g:P.underlying t=J (.slice e))(h:Xo P (n+1) t x)(f:∀y,Xo P n e y->∃a,y=enc a/\Q a):∃l:List α,x=.sl (l.map enc)/\I l<=maxLen/\∀a∈l,Q a:=by
 unfold Xo at h;rw[g]at h;obtain⟨l,rfl,k,d⟩:=h;obtain⟨p,rfl,o⟩:=IS λy j=>f y<|d y j;grind
def Z02{P n t x fs}(d:P.underlying t=J (.struct fs))(h:Xo P (n+1) t x):∃a,x=.agg (flat a)/\I a=I fs.toList/\∀(i:Nat) f y,fs.toList[i]?=J f->a[i]?=J y->Xo P n f.type y:=by
 simp_all[Xo]
end
end Vm
end
section
namespace Vm
open Go Go.Proofs
section
def U6(s:St):List (Nat×SV)->St
 | []=>s
 |(i,x)::l=>U6 (YC s i x) l
@[simp]theorem ZfN(s:St):U6 s []=s:=rfl
@[simp]theorem ZfM(s:St)(i:Nat)(x:SV)(l:List<|Nat×SV):U6 s ((i,x)::l)=U6 (YC s i x) l:=rfl
section
variable {P:Z6}[Lg P]{K K':St->Prop}
def Z0z(d:∀s,K s->K' s){t:St}:∀ {l:List (Nat×OV)} {u:St},Ue l t u K->Ue l t u K'
 | [],_,h=>d _ h
 | (i,o)::l,u,h=>by
   simp only[Ue]at h⊢;split;rename_i x a;rw[a]at h;exact Z0z d h;rename_i a;rw[a]at h;exact h
def RJ(g:∀s,K s->K' s):∀ {l:List EF} {s:St},YL P l s K->YL P l s K'
 | [],_,h=>g _ h
 | .lt i C e::l,s,h=>by
   simp only[YL]at h⊢;split;rename_i a;rw[ZhS a]at h;split;rename_i x d;rw[d]at h;exact RJ g h;rename_i d;rw[d]at h;exact h;rename_i a;rw[ZhP a]at h;exact RJ g h
 | .call i C f u fl t::l,s,h=>by
   simp only[YL]at h⊢;split;rename_i a;rw[ZhS a]at h;split;rename_i x n d k;rw[d,k]at h;obtain⟨r,j,o,p⟩:=h;exact⟨r,j,o,RJ g p⟩;rename_i q;split at h;rename_i x n d k;exact(q x n d k).elim;exact h;rename_i a;rw[ZhP a]at h;exact RJ g h
 | .cl i C f w t::l,s,h=>by
   simp only[YL]at h⊢;split;rename_i a;rw[ZhS a]at h;split;rename_i x n d k;rw[d,k]at h;obtain⟨r,j,p⟩:=h;exact⟨r,j,RJ g p⟩;rename_i d;split at h;rename_i x n j o;exact(d x n j o).elim;exact h;rename_i a;rw[ZhP a]at h;split at h;exact RJ g h;exact RJ g h;exact h.elim
def RL:∀ {a:Stm} {s:St} {N p R q:St->Prop} {X u:Nat->St->Prop},Yu P a s N X R->(∀s,N s->p s)->(∀i s,X i s->u i s)->(∀s,R s->q s)->Yu P a s p u q
 |.ao r,s,_,_,_,_,_,_,h,d,_,_=>RJ (λt j=>⟨j.1,Z0z d j.2⟩) h
 |.skip,s,_,_,_,_,_,_,h,d,_,_=>d _ h
 |.seq a b,s,_,_,_,_,_,_,h,d,g,f=>RL (a:=a) (s:=s) h (λt j=>RL (a:=b) (s:=t) j d g f) g f
 | .cond c a b,s,_,_,_,_,_,_,h,d,g,f=>by
   simp only[Yu]at h⊢;split;rename_i k;rw[k]at h;exact RL h d g f;rename_i k;rw[k]at h;exact RL h d g f;rename_i l n;split at h;rename_i k;exact(l k).elim;rename_i k;exact(n k).elim;exact h
 | .block id a,s,_,_,_,_,_,_,h,d,g,f=>RL (a:=a) (s:=s) h d (λi t j=>by
   split;rename_i o;rw[ZhS o]at j;exact d _ j;rename_i o;rw[ZhP o]at j;exact g _ _ j) f
 | .loop w a,s,_,_,_,_,_,_,h,d,g,f=>by
   obtain⟨I,m,l,n⟩:=h;exact⟨I,m,l,λt j=>RL (a:=a) (s:=t) (n t j) (λ_ h=>h) g f⟩
 |.exit id,s,_,_,_,_,_,_,h,_,g,_=>g _ _ h
 |.ret,s,_,_,_,_,_,_,h,_,_,f=>f _ h
end
def SX{P:Z6} [Lg P]{keep:Zc}{a:Stm}{s:St}{N R:St->Prop}{X:Nat->St->Prop}{ι:Type}(L:ι->List (Nat×SV))(Inv:ι->Prop)(m:St->Nat)(d:ι)
  (g:YV keep s=U6 (YV keep s) (L d)) (k:Inv d)
  (j:∀p,Inv p->Yu P a (U6 (YV keep s)<|L p) (λf=>∃q,Inv q/\YV keep f=U6 (YV keep s) (L q)/\m (U6 (YV keep s)<|L q)<m (U6 (YV keep s)<|L p)) X R):
  Yu P (.loop keep a) s N X R:=by
 refine⟨λt=>∃p,Inv p/\t=U6 (YV keep s) (L p),m,⟨d,k,g⟩,?_⟩;rintro t ⟨p,o,rfl⟩;refine RL (j p o) (λf u=> ?_) (λ_ _ h=>h) (λ_ h=>h);obtain⟨q,r,l,n⟩:=u;rw[l];exact⟨⟨q,r,rfl⟩,n⟩
def Xi(c:Nat)(n:Nat)(t:St):Nat:=match get t c with|.v (.int _ k)=>n-k.toNat|_=>0
def Uf{P:Z6} [Lg P]{keep:Zc}{a:Stm}{s:St}{N R:St->Prop}{X:Nat->St->Prop}(c n:Nat)(L:Nat->List (Nat×SV))(Inv:Z4)
  (g:YV keep s=U6 (YV keep s) (L 0)) (hc:∀i,get (U6 (YV keep s)<|L i) c=.v (vi i)) (k:Inv 0)
  (j:∀i,i<=n->Inv i->Yu P a (U6 (YV keep s)<|L i) (λf=>i<n/\Inv (i+1)/\YV keep f=U6 (YV keep s) (L<|i+1)) X R):
  Yu P (.loop keep a) s N X R:=by
 refine SX L (λi=>i<=n/\Inv i) (Xi c n) 0 g ⟨Z0,k⟩ ?_;rintro i ⟨o,q⟩;refine RL (j i o q) (λf p=> ?_) (λ_ _ h=>h) (λ_ h=>h);obtain⟨h,d,l⟩:=p;refine⟨i+1,⟨Z0,d⟩,l,?_⟩;simp only[Xi,hc];simp;omega
def zq{P:Z6} [Lg P]{keep:Zc}{a:Stm}{s:St}{N R:St->Prop}{X:Nat->St->Prop}(c n:Nat)(Inv:Z4)
  (d:YV keep s=YC (YV keep s) c (.v<|vi 0)) (hc:∀x,get (YC (YV keep s) c x) c=x) (g:Inv 0)
  (f:∀i,i<=n->Inv i->Yu P a (YC (YV keep s) c<|.v<|vi i) (λh=>i<n/\Inv (i+1)/\YV keep h=YC (YV keep s) c (.v<|vi<|i+1)) X R):
  Yu P (.loop keep a) s N X R:=
 Uf c n (λi=>[(c,.v<|vi i)]) Inv d (λi=>hc _) g f
end
def qE:Fn:=⟨4,[0,2,3,9],pQ [pR [pV 1<|pU 0,pV 2<|pI 0],pQ [.ao ⟨[.lt 4 []<|pl (.s 0)<|pU 1],[([(4,xw)],pj (.s 0)<|pU 9223372036854775807)],[pV 3<|.ite (.s 4) pT<|pj (.s 0)<|pU 9223372036854775807]⟩]<|pw (.s 3)<|px [pV 1<|pU 0,pV 2<|pI 1]]<|px [pV 1<|pa (pm (pU 2)<|.s 0)<|pU 1,pV 2<|pI 0],[(1,.v),(2,.v)]⟩
def c21:ZN xP fresh sig [.fz] [] Tryz.f21=J qE:=Z2
def Nj:Fn:=⟨3,[0,1,2],pQ [pR [(1,pS 0 2),pV 2 pF],.ao ⟨[.lt 3 []<|pg (.m 1 0)<|pI 0,.lt 4 []<|.ite (.s 3) (pL (.m 1 0)<|pI 255) pF,.lt 5 []<|.ite (.s 4) (pg (.m 1 1)<|pI 0) pF],[([(3,xk)],pL (.m 1 0)<|pI 255),([(4,xk)],pg (.m 1 1)<|pI 0),([(5,xk)],pL (.m 1 1)<|.m 1 0)],[pV 2<|.ite (.s 5) (pL (.m 1 1)<|.m 1 0) pF]⟩] .ret,[(2,.v)]⟩
def c35:ZN xP fresh sig [.fz] [] Tryz.f35=J Nj:=Z2
def Ls:Fn:=⟨5,[0,2,3,5,12],pQ [pR [pV 1<|pU 0,pV 2<|pI 0],pi 3 (pe (.s 0)<|pU 0)<|px [pV 1<|pU 0,pV 2<|pI 6],pQ [.ao ⟨[.lt 5 []<|pe (.bn .rem (.s 0)<|pU 2)<|pU 0],[([(5,xw)],pe (.s 0)<|pU 1)],[pV 4<|.ite (.s 5) pT<|pe (.s 0)<|pU 1]⟩]<|pw (.s 4)<|px [pV 1<|pU 0,pV 2<|pI 3]]<|px [pV 1<|.bn .quo (.s 0)<|pU 2,pV 2<|pI 0],[(1,.v),(2,.v)]⟩
def c46:ZN xP fresh sig [.fz] [] Tryz.f46=J Ls:=Z2
def Nq:Fn:=⟨6,[0,1,2,3,4,8],pQ [pR [(1,pS 0 2),pV 2<|pU 0,pV 3<|pI 0],pC [pK 6 77 [.mm 1 0 2]] [pV 4<|.s 6],pi 5 (.un .not<|.s 4)<|px [pV 2<|pU 0,pV 3<|pI 1]]<|px [pV 2<|pm (pU 2)<|pa (.conv .u64<|.m 1 0)<|pm (pU 65536)<|.conv .u64<|.m 1 1,pV 3<|pI 0],[(2,.v),(3,.v)]⟩
def c49:ZN xP fresh sig [.fz] [] Tryz.f49=J Nq:=Z2
def qH:Fn:=⟨4,[0,2,3,9],pQ [pR [pV 1<|pU 0,pV 2<|pI 0],pQ [.ao ⟨[.lt 4 []<|pl (.s 0)<|pU 1],[([(4,xw)],pj (.s 0)<|pU 9223372036854775807)],[pV 3<|.ite (.s 4) pT<|pj (.s 0)<|pU 9223372036854775807]⟩]<|pw (.s 3)<|px [pV 1<|pU 0,pV 2<|pI 1]]<|px [pV 1<|pa (pm (pU 2)<|.s 0)<|pU 1,pV 2<|pI 0],[(1,.v),(2,.v)]⟩
def c53:ZN xP fresh sig [.fz] [] Tryz.f53=J qH:=Z2
def Nv:Fn:=⟨5,[0,2,3,4,20],pQ [pR [(1,.m [pI 0,pI 0]),pV 2<|pI 0],pR [(3,pM (.ag [.conv .i64<|.bn .rem (.bn .shr (.s 0)<|pU 1)<|pU 65536,.conv .i64<|.bn .shr (.s 0)<|pU 17]) 2)],pQ [.ao ⟨[.lt 5 []<|pn (.bn .rem (.s 0)<|pU 2)<|pU 0,.call 6 [(5,xw)] (.id 35) xw xw [.mm 3 0 2]],[([(5,xw)],.un .not<|.s 6)],[pV 4<|.ite (.s 5) pT<|.un .not<|.s 6]⟩]<|pw (.s 4)<|px [(1,pM (.ag [pI 0,pI 0]) 2),pV 2<|pI 3]]<|px [(1,pM (.mm 3 0 2) 2),pV 2<|pI 0],[(1,(.ag 2)),(2,.v)]⟩
def c58:ZN xP fresh sig [.fz] [] Tryz.f58=J Nv:=Z2
def NH:Fn:=⟨3,[0,1,2],pQ [pR [(1,pS 0 2),pV 2 pF],.ao ⟨[.lt 3 []<|pg (.m 1 0)<|pI 0,.lt 4 []<|.ite (.s 3) (pL (.m 1 0)<|pI 255) pF,.lt 5 []<|.ite (.s 4) (pg (.m 1 1)<|pI 0) pF],[([(3,xk)],pL (.m 1 0)<|pI 255),([(4,xk)],pg (.m 1 1)<|pI 0),([(5,xk)],pL (.m 1 1)<|.m 1 0)],[pV 2<|.ite (.s 5) (pL (.m 1 1)<|.m 1 0) pF]⟩] .ret,[(2,.v)]⟩
def c77:ZN xP fresh sig [.fz] [] Tryz.f77=J NH:=Z2
def Yf(n:Int):Prop:= -9223372036854775808<=n/\n<=9223372036854775807
def ZB(n:Int):Prop:=0<=n/\n<18446744073709551616
def ZS(n:Int)(a:0<=n)(h2:n<=18446744073709551615):IntKind.u64.wrap n=n:=by
 rw[IntKind.wrap_u64];omega
def Yl{α:Type}{l:List α}{i:Nat}{x:α}(h:l[i]?=J x):∀a:i<I l,l[i]'a=x:=λa=>by
 rw[ZhG a]at h;exact Zjj h
def Yv(size ptrs:Int):Bool:=decide (0<=size)&&decide (size<=255)&&decide (0<=ptrs)&&decide (ptrs<=size)
theorem Yz{s p:Int}:Yv s p=xk↔0<=s/\s<=255/\0<=p/\p<=s:=by simp[Yv,and_assoc]
abbrev Uz(s p:Int):V:=.agg [vi s,vi p]
def Dh{s p:Int}:VC xP 35 xw [Uz s p]<|.bool<|Yv s p:=by
 refine ZT F1 follows Z2 c35 rfl ?_;by_cases a:0<=s<;>by_cases d:s<=255<;>by_cases f:0<=p<;>by_cases g:p<=s<;>simp[Nj,Yv,a,d,f,g]
def Z9g{s p:Int}:VC xP 77 xw [Uz s p]<|.bool<|Yv s p:=by
 refine ZT Z22 follows Z2 c77 rfl ?_;by_cases a:0<=s<;>by_cases d:s<=255<;>by_cases f:0<=p<;>by_cases g:p<=s<;>simp[NH,Yv,a,d,f,g]
def adr(w:Int):Int×Int:=if w=0 then(0,6)else if w%2=0\/w=1 then(0,3)else(w / 2,0)
def RR{w:Int}(l:ZB w):VC xP 46 xw [vu w]<|.al [vu (adr w).1,vi (adr w).2]:=by
 refine ZT F6 follows Z2 c46 rfl ?_;obtain⟨f,n⟩:=l;have d:w.tmod 2=w%2:=ZiL f;have j:w.tdiv 2=w / 2:=Zl9 f;have k:=ZS (w / 2) Z0 Z0;by_cases a:w=0;simp[Ls,adr,a];by_cases g:w%2=0;simp[Ls,adr,a,d,g];by_cases h:w=1;subst h;simp[Ls,adr];simp[Ls,adr,a,d,j,g,h,k]
def Xr(a:Int):Int×Int:=if a<1\/9223372036854775807<a then(0,1)else(2*a+1,0)
def Z8D{a:Int}(j:ZB a):VC xP 21 xw [vu a]<|.al [vu (Xr a).1,vi (Xr a).2]:=by
 refine ZT EZ follows Z2 c21 rfl ?_;obtain⟨k,l⟩:=j;by_cases d:a<1;simp[qE,Xr,d];by_cases f:9223372036854775807<a;simp[qE,Xr,d,f];have g:=ZS (2*a) Z0 Z0;have h:=ZS (2*a+1) Z0 Z0;simp[qE,Xr,d,f,g,h]
def Z9d{a:Int}(j:ZB a):VC xP 53 xw [vu a]<|.al [vu (Xr a).1,vi (Xr a).2]:=by
 refine ZT Z1M follows Z2 c53 rfl ?_;obtain⟨k,l⟩:=j;by_cases d:a<1;simp[qH,Xr,d];by_cases f:9223372036854775807<a;simp[qH,Xr,d,f];have g:=ZS (2*a) Z0 Z0;have h:=ZS (2*a+1) Z0 Z0;simp[qH,Xr,d,f,g,h]
def Xa(s p:Int):Int×Int:=if Yv s p then(2*(s+65536*p),0)else(0,1)
def Z9c{s p:Int}:VC xP 49 xw [Uz s p]<|.al [vu (Xa s p).1,vi (Xa s p).2]:=by
 refine ZT Z1H follows Z2 c49 rfl ?_;simp[Nq];refine Zy Z9g Z1 ?_;cases h:Yv s p;simp[Xa,h];obtain⟨k,l,n,o⟩:=Yz.1 h;have a:=ZS s Z0 Z0;have d:=ZS p Z0 Z0;have f:=ZS (65536*p) Z0 Z0;have g:=ZS (s+65536*p) Z0 Z0;have j:=ZS (2*(s+65536*p)) Z0 Z0;simp[Xa,h,a,d,f,g,j]
def ZR(w:Int):Int×Int×Int:=if w%2=0/\Yv (w / 2%65536) (w / 131072)=xk then(w / 2%65536,w / 131072,0)else(0,0,3)
def DX{w:Int}(l:ZB w):VC xP 58 xw [vu w]<|.al [Uz (ZR w).1 (ZR w).2.1,vi (ZR w).2.2]:=by
 refine ZT F8 follows Z2 c58 rfl ?_;obtain⟨k,r⟩:=l;have p:w.fdiv (2 ^ min 1 IntKind.u64.bits)=w / 2:=by
  rw[show(2:Int) ^ min 1 IntKind.u64.bits=2 by decide];exact Zl8 _ Z0
 have q:w.fdiv (2 ^ min 17 IntKind.u64.bits)=w / 131072:=by
  rw[show(2:Int) ^ min 17 IntKind.u64.bits=131072 by decide];exact Zl8 _ Z0
 have n:=ZS (w / 2) Z0 Z0;have o:=ZS (w / 131072) Z0 Z0;have f:w.tmod 2=w%2:=ZiL k;have g:(w / 2).tmod 65536=w / 2%65536:=ZiL Z0;have h:=Zx (w / 2%65536) Z0 Z0;have j:=Zx (w / 131072) Z0 Z0;simp[Nv,Xb,p,q,f,g,h,j,n,o];by_cases a:w%2=0;simp[a];refine Zy Dh Z1 ?_;cases d:Yv (w / 2%65536)<|w / 131072;simp[ZR,a,d];simp[ZR,a,d];simp[a,ZR]
def Nb:Fn:=⟨10,[0,1,2,3,4,5,9,17,6,33],pQ [pR [(2,pS 0 7),(3,pS 1 2),pV 4<|pU 0,pV 5<|pI 0],pQ [pC [pK 10 41 [.mm 2 0 7]] [pV 6<|.un .not<|.s 10]]<|pw (.s 6)<|px [pV 4<|pU 0,pV 5<|pI 1],pQ [.ao ⟨[.lt 11 []<|pl (.m 3 0)<|pI 1],[([(11,xw)],pj (.m 3 0)<|pI 4)],[pV 7<|.ite (.s 11) pT<|pj (.m 3 0)<|pI 4]⟩]<|pw (.s 7)<|px [pV 4<|pU 0,pV 5<|pI 6],pC [pK 12 42 [.mm 2 0 7]] [(8,pM (.sz (.ai (.s 12) (pb (.m 3 0)<|pI 1) 4 2 xk) 2) 2)],pQ [.ao ⟨[.lt 13 []<|pl (.m 3 1)<|pI 0],[([(13,xw)],pg (.m 3 1)<|.m 8 1)],[pV 9<|.ite (.s 13) pT<|pg (.m 3 1)<|.m 8 1]⟩]<|pw (.s 9)<|px [pV 4<|pU 0,pV 5<|pI 6]]<|px [pV 4<|pa (.m 8 0)<|.conv .u64<|.m 3 1,pV 5<|pI 0],[(4,.v),(5,.v)]⟩
def c19:ZN xP fresh sig [.fz,.fz] [] Tryz.f19=J Nb:=Z2
def Nl:Fn:=⟨4,[0,1,2,25],pQ [pR [(1,pS 0 7),pV 2 pF],pQ [.ao ⟨[.lt 4 []<|pl (.m 1 1)<|pI 0,.lt 5 []<|.ite (.s 4) pT<|pj (.m 1 1)<|pI 4096,.lt 6 []<|.ite (.s 5) pT<|pl (.m 1 0)<|pU 1],[([(4,xw)],pj (.m 1 1)<|pI 4096),([(5,xw)],pl (.m 1 0)<|pU 1),([(6,xw)],pj (.m 1 0)<|pb (pU 9223372036854775808)<|pm (pU 2)<|.conv .u64<|.m 1 1)],[pV 3<|.ite (.s 6) pT<|pj (.m 1 0)<|pb (pU 9223372036854775808)<|pm (pU 2)<|.conv .u64<|.m 1 1]⟩]<|pw (.s 3)<|px [pV 2 pF],.ao ⟨[.lt 7 []<|pe (.m 1 2)<|pI 0,.lt 8 []<|.ite (.s 7) pT<|pe (.m 1 2)<|pI 1,.call 9 [(8,xk)] (.id 64) xw xw [.m 1 3,.m 1 4,.m 1 1],.lt 10 []<|.ite (.s 8) (.s 9) pF,.call 11 [(10,xk)] (.id 64) xw xw [.m 1 5,.m 1 6,.m 1 1]],[([(7,xw)],pe (.m 1 2)<|pI 1)],[pV 2<|.ite (.s 10) (.s 11) pF]⟩] .ret,[(2,.v)]⟩
def c41:ZN xP fresh sig [.fz] [] Tryz.f41=J Nl:=Z2
def Nm:Fn:=⟨3,[0,1,2],pQ [pR [(1,pS 0 7),(2,.m [pU 0,pI 0,pU 0,pI 0,pU 0,pI 0,pU 0,pI 0])],pC [pK 3 65 [.mm 1 0 7,pI 1],pK 4 65 [.mm 1 0 7,pI 2],pK 5 65 [.mm 1 0 7,pI 3],pK 6 65 [.mm 1 0 7,pI 4]] [(2,pM (.ag [.ae (.ag [.one<|.s 3,.m 1 3]) 0,.ae (.ag [.one<|.s 3,.m 1 3]) 1,.ae (.ag [.one<|.s 4,.m 1 4]) 0,.ae (.ag [.one<|.s 4,.m 1 4]) 1,.ae (.ag [.one<|.s 5,.m 1 5]) 0,.ae (.ag [.one<|.s 5,.m 1 5]) 1,.ae (.ag [.one<|.s 6,.m 1 6]) 0,.ae (.ag [.one<|.s 6,.m 1 6]) 1]) 8)]] .ret,[(2,(.ag 8))]⟩
def c42:ZN xP fresh sig [.fz] [] Tryz.f42=J Nm:=Z2
def Nr:Fn:=⟨11,[0,1,2,3,4,5,6,12,7,8,28],pQ [pR [(2,pS 0 7),(3,pS 1 2),pV 4<|pU 0,pV 5<|pI 0],pC [pK 11 78 [.mm 2 0 7]] [pV 6<|.s 11],pi 7 (.un .not<|.s 6)<|px [pV 4<|pU 0,pV 5<|pI 1],pC [pK 12 79 [.mm 2 0 7,.m 3 0]] [pV 8<|.ext (.s 12) 0,pV 9<|.ext (.s 12) 1],pQ [.ao ⟨[.lt 13 []<|pl (.m 3 1)<|pI 0],[([(13,xw)],pg (.m 3 1)<|.s 9)],[pV 10<|.ite (.s 13) pT<|pg (.m 3 1)<|.s 9]⟩]<|pw (.s 10)<|px [pV 4<|pU 0,pV 5<|pI 6]]<|px [pV 4<|pa (.s 8)<|.conv .u64<|.m 3 1,pV 5<|pI 0],[(4,.v),(5,.v)]⟩
def c51:ZN xP fresh sig [.fz,.fz] [] Tryz.f51=J Nr:=Z2
def Nu:Fn:=⟨12,[0,1,2,4,5,10,14,15,7,6,13,31],pQ [pR [(2,pS 0 7),(3,.m [pI 0,pI 0]),pV 4<|pI 0],pQ [pC [pK 12 41 [.mm 2 0 7]] [pV 5<|.un .not<|.s 12]]<|pw (.s 5)<|px [(3,pM (.ag [pI 0,pI 0]) 2),pV 4<|pI 1],pQ [pC [pK 10 42 [.mm 2 0 7]] [pV 6<|pI 0]]<|po [0,1,2,3,4,5,6,10] 7 (pl (.s 6)<|pI 4) (pQ [pR [(8,pM (.sz (.ai (.s 10) (.s 6) 4 2 xk) 2) 2),pV 9<|.s 6],.ao ⟨[.lt 13 []<|pg (.s 1)<|.m 8 0],[([(13,xk)],pl (pb (.s 1)<|.m 8 0)<|.conv .u64<|.m 8 1)],[pV 11<|.ite (.s 13) (pl (pb (.s 1)<|.m 8 0)<|.conv .u64<|.m 8 1) pF]⟩]<|pw (.s 11)<|px [(3,pM (.ag [pa (.s 9)<|pI 1,.conv .i64<|pb (.s 1)<|.m 8 0]) 2),pV 4<|pI 0])<|pc 6]<|px [(3,pM (.ag [pI 0,pI 0]) 2),pV 4<|pI 6],[(3,(.ag 2)),(4,.v)]⟩
def c56:ZN xP fresh sig [.fz,.fz] [] Tryz.f56=J Nu:=Z2
def Nw:Fn:=⟨4,[0,1,2,5],pQ [pR [(1,pS 0 7),pV 2<|pI 0],pQ [pC [pK 4 41 [.mm 1 0 7]] [pV 3<|.un .not<|.s 4]]<|pw (.s 3)<|px [pV 2<|pI 0]]<|px [pV 2<|pb (pb (.m 1 1)<|.m 1 3)<|.m 1 4],[(2,.v)]⟩
def c59:ZN xP fresh sig [.fz] [] Tryz.f59=J Nw:=Z2
def qI:Fn:=⟨4,[0,1,2,6],pQ [pR [pV 3 pF],.ao ⟨[.lt 4 []<|pg (.s 0)<|pI 0,.lt 5 []<|.ite (.s 4) (pg (.s 1)<|pI 0) pF,.lt 6 []<|.ite (.s 5) (pL (.s 0)<|.s 2) pF],[([(4,xk)],pg (.s 1)<|pI 0),([(5,xk)],pL (.s 0)<|.s 2),([(6,xk)],pL (.s 1)<|pb (.s 2)<|.s 0)],[pV 3<|.ite (.s 6) (pL (.s 1)<|pb (.s 2)<|.s 0) pF]⟩] .ret,[(3,.v)]⟩
def c64:ZN xP fresh sig [.fz,.fz,.fz] [] Tryz.f64=J qI:=Z2
def Lt:Fn:=⟨10,[0,1,2,4,5,9,8,11,13,15],pQ [pR [(2,pS 0 7),pV 3<|pU 0],pR [pV 4<|.m 2 0],pQ [pR [pV 6<|.s 1]]<|.block 0<|pQ [.block 4<|pQ [.block 3<|pQ [.block 2<|pQ [.block 1<|pQ [pQ [pi 5 (pe (.s 6)<|pI 2)<|.exit 1,pi 7 (pe (.s 6)<|pI 1)<|.exit 2,pi 8 (pe (.s 6)<|pI 4)<|.exit 3]<|pi 9 (pe (.s 6)<|pI 3)<|.exit 4]<|.exit 0]<|pR [pV 4<|pa (.s 4)<|.conv .u64<|pb (.m 2 1)<|.m 2 4],pR [pV 4<|pa (.s 4)<|.conv .u64<|pm (.m 2 2)<|.m 2 1]]<|.exit 0]<|pR [pV 4<|pa (.s 4)<|.conv .u64<|pb (.m 2 1)<|.m 2 6],pR [pV 4<|pa (.s 4)<|.conv .u64<|pm (pb (pI 1)<|.m 2 2)<|.m 2 1]]<|.exit 0]<|px [pV 3<|.s 4],[(3,.v)]⟩
def c65:ZN xP fresh sig [.fz,.fz] [] Tryz.f65=J Lt:=Z2
def NI:Fn:=⟨5,[0,1,2,35,53],pQ [pR [(1,pS 0 7),pV 2 pF],pQ [.ao ⟨[.lt 5 []<|pl (.m 1 0)<|pU 1,.lt 6 []<|.ite (.s 5) pT<|pl (.m 1 1)<|pI 0,.lt 7 []<|.ite (.s 6) pT<|pj (.m 1 1)<|pI 4096,.lt 8 []<|.ite (.s 7) pT<|pj (.m 1 0)<|pb (pU 9223372036854775808)<|pm (pU 2)<|.conv .u64<|.m 1 1,.lt 9 []<|.ite (.s 8) pT<|pl (.m 1 2)<|pI 0],[([(5,xw)],pl (.m 1 1)<|pI 0),([(6,xw)],pj (.m 1 1)<|pI 4096),([(7,xw)],pj (.m 1 0)<|pb (pU 9223372036854775808)<|pm (pU 2)<|.conv .u64<|.m 1 1),([(8,xw)],pl (.m 1 2)<|pI 0),([(9,xw)],pj (.m 1 2)<|pI 1)],[pV 3<|.ite (.s 9) pT<|pj (.m 1 2)<|pI 1]⟩]<|pw (.s 3)<|px [pV 2 pF],pQ [.ao ⟨[.lt 10 []<|pl (.m 1 3)<|pI 0,.lt 11 []<|.ite (.s 10) pT<|pl (.m 1 4)<|pI 0,.lt 12 []<|.ite (.s 11) pT<|pl (.m 1 5)<|pI 0],[([(10,xw)],pl (.m 1 4)<|pI 0),([(11,xw)],pl (.m 1 5)<|pI 0),([(12,xw)],pl (.m 1 6)<|pI 0)],[pV 4<|.ite (.s 12) pT<|pl (.m 1 6)<|pI 0]⟩]<|pw (.s 4)<|px [pV 2 pF],.ao ⟨[.lt 13 []<|pL (.m 1 3)<|.m 1 1,.lt 14 []<|.ite (.s 13) (pL (.m 1 4)<|pb (.m 1 1)<|.m 1 3) pF,.lt 15 []<|.ite (.s 14) (pL (.m 1 5)<|.m 1 1) pF],[([(13,xk)],pL (.m 1 4)<|pb (.m 1 1)<|.m 1 3),([(14,xk)],pL (.m 1 5)<|.m 1 1),([(15,xk)],pL (.m 1 6)<|pb (.m 1 1)<|.m 1 5)],[pV 2<|.ite (.s 15) (pL (.m 1 6)<|pb (.m 1 1)<|.m 1 5) pF]⟩] .ret,[(2,.v)]⟩
def c78:ZN xP fresh sig [.fz] [] Tryz.f78=J NI:=Z2
def Cu:Fn:=⟨12,[0,1,2,4,5,6,7,28,27,33,45,50],pQ [pR [(2,pS 0 7),pV 3<|pU 0,pV 4<|pI 0],pR [pV 5<|pa (.m 2 0)<|.conv .u64<|pm (.m 2 2)<|.m 2 1],pR [pV 6<|pa (.m 2 0)<|.conv .u64<|pm (pb (pI 1)<|.m 2 2)<|.m 2 1],pQ [pR [pV 8<|.s 1]]<|.block 0<|pu 7 (pe (.s 8)<|pI 1) (px [pV 3<|.s 5,pV 4<|.m 2 3])<|pu 9 (pe (.s 8)<|pI 2) (px [pV 3<|pa (.s 5)<|.conv .u64<|pb (.m 2 1)<|.m 2 4,pV 4<|.m 2 4])<|pu 10 (pe (.s 8)<|pI 3) (px [pV 3<|.s 6,pV 4<|.m 2 5])<|pi 11 (pe (.s 8)<|pI 4)<|px [pV 3<|pa (.s 6)<|.conv .u64<|pb (.m 2 1)<|.m 2 6,pV 4<|.m 2 6]]<|px [pV 3<|pU 0,pV 4<|pI 0],[(3,.v),(4,.v)]⟩
def G1:ZN xP fresh sig [.fz,.fz] [] Tryz.f79=J Cu:=Z2
structure Ly where
 base:Int
 cap:Int
 to:Int
 H:Int
 aa:Int
 ah:Int
 ak:Int
 deriving DecidableEq,Inhabited
def X2(l:Ly):V:=.agg [vu l.base,vi l.cap,vi l.to,vi l.H,vi l.aa,vi l.ah,vi l.ak]
@[simp]theorem Zg9 l:VJ (X2 l) 7=J (X2 l):=rfl
@[simp]theorem Zf0 l:(X2 l).cells=[vu l.base,vi l.cap,vi l.to,vi l.H,vi l.aa,vi l.ah,vi l.ak]:=rfl
@[simp]theorem Ze5 l:Y0 (X2 l) 0=J (vu l.base):=rfl
@[simp]theorem Ze6 l:Y0 (X2 l) 1=J (vi l.cap):=rfl
@[simp]theorem Ze7 l:Y0 (X2 l) 2=J (vi l.to):=rfl
@[simp]theorem Ze8 l:Y0 (X2 l) 3=J (vi l.H):=rfl
@[simp]theorem Ze9 l:Y0 (X2 l) 4=J (vi l.aa):=rfl
@[simp]theorem Zea l:Y0 (X2 l) 5=J (vi l.ah):=rfl
@[simp]theorem Zeb l:Y0 (X2 l) 6=J (vi l.ak):=rfl
def Ly.an(l:Ly):Prop:=ZB l.base/\Yf l.cap/\Yf l.to/\Yf l.H/\Yf l.aa/\Yf l.ah/\Yf l.ak
def S6(a b words:Int):Bool:=decide (0<=a)&&decide (0<=b)&&decide (a<=words)&&decide (b<=words-a)
def ZI(l:Ly):Bool:=decide (0<=l.cap)&&decide (l.cap<=4096)&&decide (1<=l.base)&&decide (l.base<=9223372036854775808-2*l.cap)&&(decide (l.to=0)||decide (l.to=1))&&S6 l.H l.aa l.cap&&S6 l.ah l.ak l.cap
theorem XH{l}:ZI l=xk↔0<=l.cap/\l.cap<=4096/\1<=l.base/\l.base<=9223372036854775808-2*l.cap/\(l.to=0\/l.to=1)/\(0<=l.H/\0<=l.aa/\l.H<=l.cap/\l.aa<=l.cap-l.H)/\(0<=l.ah/\0<=l.ak/\l.ah<=l.cap/\l.ak<=l.cap-l.ah):=by
 simp[ZI,S6,and_assoc]
theorem Vs{l}:ZI l=xw↔ ¬(0<=l.cap/\l.cap<=4096/\1<=l.base/\l.base<=9223372036854775808-2*l.cap/\(l.to=0\/l.to=1)/\(0<=l.H/\0<=l.aa/\l.H<=l.cap/\l.aa<=l.cap-l.H)/\(0<=l.ah/\0<=l.ak/\l.ah<=l.cap/\l.ak<=l.cap-l.ah)):=by
 grind [XH]
def Z0q{a b w:Int}(h:Yf a)(n:Yf b)(j:Yf w):VC xP 64 xw [vi a,vi b,vi w]<|.bool<|S6 a b w:=by
 refine ZT Z1Q follows Z2 c64 rfl ?_;obtain⟨k,l⟩:=h;obtain⟨w1,w2⟩:=j;by_cases d:0<=a;by_cases g:a<=w;have e:=Zx (w-a) Z0 Z0;by_cases f:0<=b<;>simp[qI,S6,d,g,f,e];by_cases f:0<=b<;>simp[qI,S6,d,g,f];simp[qI,S6,d]
def LV{l:Ly}(y:l.an):VC xP 41 xw [X2 l]<|.bool<|ZI l:=by
 refine ZT F5 follows Z2 c41 rfl ?_;obtain⟨⟨u,w⟩,x,B,p,q,r,t⟩:=y;obtain⟨d,c2⟩:=x;simp[Nl];by_cases g1:l.cap<0;grind [ZI,Vs];by_cases g2:4096<l.cap;grind [ZI,Vs];by_cases k:l.base<1;grind [ZI,Vs];have f:=ZS l.cap Z0 Z0;have g:=ZS (2*l.cap) Z0 Z0;have j:=ZS (9223372036854775808-2*l.cap) Z0 Z0;by_cases n:9223372036854775808-2*l.cap<l.base;grind [ZI,Vs];by_cases a:l.to=0\/l.to=1
 .have k1:=Z0q p q ⟨d,c2⟩;have A:=Z0q r t ⟨d,c2⟩;have z:ZI l=(S6 l.H l.aa l.cap&&S6 l.ah l.ak l.cap):=by
   obtain h|h:=a<;>simp[ZI,show 0<=l.cap by omega,show l.cap<=4096 by omega,show 1<=l.base by omega,show l.base<=9223372036854775808-2*l.cap by omega,h]
  rw[z];obtain a|a:=a;all_goals
   cases o:S6 l.H l.aa l.cap;rw[o]at k1;simp[g1,g2,k,f,g,j,n,a];refine Zy k1 Z1 ?_;simp;rw[o]at k1;simp[g1,g2,k,f,g,j,n,a];refine Zy k1 Z1 ?_;simp;refine Zy A Z1 ?_;simp
 simp_all[ZI,Vs]
def Z9h{l:Ly}(j:l.an):VC xP 78 xw [X2 l]<|.bool<|ZI l:=by
 refine ZT Z23 follows Z2 c78 rfl ?_;obtain⟨⟨f,g⟩,h,y,a,w,d,x⟩:=j;obtain⟨k,c2⟩:=h;simp[NI];by_cases q:l.base<1;grind [ZI,Vs];by_cases g1:l.cap<0;grind [ZI,Vs];by_cases g2:4096<l.cap;grind [ZI,Vs];have n:=ZS l.cap Z0 Z0;have o:=ZS (2*l.cap) Z0 Z0;have p:=ZS (9223372036854775808-2*l.cap) Z0 Z0;by_cases r:9223372036854775808-2*l.cap<l.base;grind [ZI,Vs];by_cases t:l.to<0;grind [ZI,Vs];by_cases u:1<l.to;grind [ZI,Vs];by_cases D:l.H<0;grind [ZI,Vs];by_cases F:l.aa<0;grind [ZI,Vs];by_cases G:l.ah<0;grind [ZI,Vs];by_cases H:l.ak<0;grind [ZI,Vs];obtain⟨z,A⟩:=a;obtain⟨B,C⟩:=d;have w1:=Zx (l.cap-l.H) Z0 Z0;have w2:=Zx (l.cap-l.ah) Z0 Z0;grind [ZI,XH,Vs]
def Wa(l:Ly):Int:=if ZI l then l.cap-l.H-l.aa else 0
def Z9z{l:Ly}(a:l.an):VC xP 59 xw [X2 l]<|vi<|Wa l:=by
 refine ZT Fa follows Z2 c59 rfl ?_;simp[Nw];refine Zy (LV a) Z1 ?_;cases h:ZI l;simp[Wa,h];have g:=XH.1 h;have d:=Zx (l.cap-l.H) Z0 Z0;have f:=Zx (l.cap-l.H-l.aa) Z0 Z0;simp_all[Wa]
def ZC(l:Ly)(part:Int):Int:=
 if part=1 then l.base+l.to*l.cap else if part=2 then l.base+l.to*l.cap+(l.cap-l.aa)else if part=3 then l.base+(1-l.to)*l.cap else l.base+(1-l.to)*l.cap+(l.cap-l.ak)
def YI(l:Ly)(part:Int):Int:=if part=1 then l.H else if part=2 then l.aa else if part=3 then l.ah else l.ak
def jJ{l}(a:ZI l=xk):(l.to*l.cap=0/\(1-l.to)*l.cap=l.cap)\/(l.to*l.cap=l.cap/\(1-l.to)*l.cap=0):=by
 grind [XH]
def Va{l}(a:ZI l=xk)k:1<=ZC l k/\ZC l k+YI l k<=9223372036854775808/\0<=YI l k/\YI l k<=4096:=by
 have h:=XH.1 a;have d:=jJ a;unfold ZC YI;omega
def yn{l:Ly}(d:ZI l=xk){k:Int}(t:1<=k/\k<=4):VC xP 65 xw [X2 l,vi k]<|vu<|ZC l k:=by
 refine ZT Z1R follows Z2 c65 rfl ?_;have h:=XH.1 d;have u:=jJ d;have w1:=Zx (l.to*l.cap) Z0 Z0;have w2:=Zx (1-l.to) Z0 Z0;have w3:=Zx ((1-l.to)*l.cap) Z0 Z0;have w4:=Zx (l.cap-l.aa) Z0 Z0;have r:=Zx (l.cap-l.ak) Z0 Z0;have f:=ZS (l.to*l.cap) Z0 Z0;have g:=ZS ((1-l.to)*l.cap) Z0 Z0;have j:=ZS (l.cap-l.aa) Z0 Z0;have n:=ZS (l.cap-l.ak) Z0 Z0;have v1:=ZS (l.base+l.to*l.cap) Z0 Z0;have o:=ZS (l.base+(l.cap-l.aa)) Z0 Z0;have p:=ZS (l.base+(l.cap-l.aa)+l.to*l.cap) Z0 Z0;have v4:=ZS (l.base+(1-l.to)*l.cap) Z0 Z0;have q:=ZS (l.base+(l.cap-l.ak)) Z0 Z0;have v6:=ZS (l.base+(l.cap-l.ak)+(1-l.to)*l.cap) Z0 Z0;have a:k=1\/k=2\/k=3\/k=4:=Z0;obtain rfl|rfl|rfl|rfl:=a;simp[Lt,JZ,ZC,w1,f,v1];simp[Lt,JZ,ZC,w1,f,w4,j,o,p];omega;simp[Lt,JZ,ZC,w2,w3,g,v4];simp[Lt,JZ,ZC,w2,w3,g,r,n,q,v6];omega
def V6(l:Ly):V:=.agg [vu<|ZC l 1,vi l.H,vu<|ZC l 2,vi l.aa,vu<|ZC l 3,vi l.ah,vu<|ZC l 4,vi l.ak]
def PM{l:Ly}(a:ZI l=xk):VC xP 42 xw [X2 l]<|V6 l:=by
 refine ZT Z1B follows Z2 c42 rfl ?_;simp[Nm];refine Zy (yn a (k:=1) Z0) (by simp[X2]) ?_;simp;refine Zy (yn a (k:=2) Z0) (by simp[X2]) ?_;simp;refine Zy (yn a (k:=3) Z0) (by simp[X2]) ?_;simp;refine Zy (yn a (k:=4) Z0) (by simp[X2]) ?_;simp[V6]
@[simp]theorem z1 l:YI l 1=l.H:=rfl
@[simp]theorem z5 l:YI l 2=l.aa:=rfl
@[simp]theorem za l:YI l 3=l.ah:=rfl
@[simp]theorem zc l:YI l 4=l.ak:=rfl
def Y3(l:Ly)(part at_:Int):Int×Int:=
 if ZI l=xw then(0,1)else if part<1\/4<part then(0,6)else if at_<0\/YI l part<=at_ then(0,6)else(ZC l part+at_,0)
def Fs{l:Ly}(p:l.an){part at_:Int}:VC xP 19 xw [X2 l,.agg [vi part,vi at_]]<|.al [vu (Y3 l part at_).1,vi (Y3 l part at_).2]:=by
 refine ZT EX follows Z2 c19 rfl ?_;simp[Nb];refine Zy (LV p) Z1 ?_;cases d:ZI l;simp[Y3,d];simp;by_cases k:part<1;grind [Y3];by_cases n:4<part;simp_all[Y3];have o:part=1\/part=2\/part=3\/part=4:=Z0;simp[k,n];refine Zy (PM d) Z1 ?_;obtain rfl|rfl|rfl|rfl:=o;have a:=Va d 1;simp only[z1]at a;simp[V6,Y8,Zx];by_cases f:at_<0;grind [Y3];by_cases g:l.H<=at_;simp_all[Y3];have h:=ZS at_ Z0 Z0;have j:=ZS (ZC l 1+at_) Z0 Z0;simp_all[Y3];have a:=Va d 2;simp only[z5]at a;simp[V6,Y8,Zx];by_cases f:at_<0;grind [Y3];by_cases g:l.aa<=at_;simp_all[Y3];have h:=ZS at_ Z0 Z0;have j:=ZS (ZC l 2+at_) Z0 Z0;simp_all[Y3];have a:=Va d 3;simp only[za]at a;simp[V6,Y8,Zx];by_cases f:at_<0;grind [Y3];by_cases g:l.ah<=at_;simp_all[Y3];have h:=ZS at_ Z0 Z0;have j:=ZS (ZC l 3+at_) Z0 Z0;simp_all[Y3];have a:=Va d 4;simp only[zc]at a;simp[V6,Y8,Zx];by_cases f:at_<0;grind [Y3];by_cases g:l.ak<=at_;simp_all[Y3];have h:=ZS at_ Z0 Z0;have j:=ZS (ZC l 4+at_) Z0 Z0;simp_all[Y3]
def jd{l:Ly}(d:ZI l=xk){k:Int}(r:1<=k/\k<=4):VC xP 79 xw [X2 l,vi k]<|.al [vu<|ZC l k,vi<|YI l k]:=by
 refine ZT Fg follows Z2 G1 rfl ?_;have h:=XH.1 d;have t:=jJ d;have w1:=Zx (l.to*l.cap) Z0 Z0;have w2:=Zx (1-l.to) Z0 Z0;have w3:=Zx ((1-l.to)*l.cap) Z0 Z0;have w4:=Zx (l.cap-l.aa) Z0 Z0;have q:=Zx (l.cap-l.ak) Z0 Z0;have f:=ZS (l.to*l.cap) Z0 Z0;have g:=ZS ((1-l.to)*l.cap) Z0 Z0;have j:=ZS (l.cap-l.aa) Z0 Z0;have n:=ZS (l.cap-l.ak) Z0 Z0;have v1:=ZS (l.base+l.to*l.cap) Z0 Z0;have o:=ZS (l.base+l.to*l.cap+(l.cap-l.aa)) Z0 Z0;have v4:=ZS (l.base+(1-l.to)*l.cap) Z0 Z0;have p:=ZS (l.base+(1-l.to)*l.cap+(l.cap-l.ak)) Z0 Z0;have a:k=1\/k=2\/k=3\/k=4:=Z0;obtain rfl|rfl|rfl|rfl:=a;all_goals simp[Cu,JZ,ZC,w1,f,w2,w3,g,w4,j,q,n,v1,o,v4,p]
def Z9a{l:Ly}(d:ZI l=xk){k:Int}(a:k<1\/4<k):VC xP 79 xw [X2 l,vi k]<|.al [vu 0,vi 0]:=by
 refine ZT Fg follows Z2 G1 rfl ?_;simp[Cu,JZ,show k≠1 by omega,show k≠2 by omega,show k≠3 by omega,show k≠4 by omega]
def Z99{l:Ly}(p:l.an){part at_:Int}:VC xP 51 xw [X2 l,.agg [vi part,vi at_]]<|.al [vu (Y3 l part at_).1,vi (Y3 l part at_).2]:=by
 refine ZT Z1K follows Z2 c51 rfl ?_;simp[Nr];refine Zy (Z9h p) Z1 ?_;cases a:ZI l;simp[Y3,a];simp;by_cases n:part<1\/4<part;refine Zy (Z9a a n) Z1 ?_;by_cases d:at_<0;simp[Y3,a,n,d];simp[Y3,a,n,d,show 0<=at_ by omega];have o:part=1\/part=2\/part=3\/part=4:=Z0;obtain rfl|rfl|rfl|rfl:=o;have g:=Va a 1;simp only[z1]at g;refine Zy (jd a (k:=1) Z0) Z1 ?_;by_cases d:at_<0;simp[Y3,a,d];by_cases f:l.H<=at_;simp[Y3,a,d,f];have h:=ZS at_ Z0 Z0;have j:=ZS (ZC l 1+at_) Z0 Z0;simp[Y3,a,d,f,h,j];have g:=Va a 2;simp only[z5]at g;refine Zy (jd a (k:=2) Z0) Z1 ?_;by_cases d:at_<0;simp[Y3,a,d];by_cases f:l.aa<=at_;simp[Y3,a,d,f];have h:=ZS at_ Z0 Z0;have j:=ZS (ZC l 2+at_) Z0 Z0;simp[Y3,a,d,f,h,j];have g:=Va a 3;simp only[za]at g;refine Zy (jd a (k:=3) Z0) Z1 ?_;by_cases d:at_<0;simp[Y3,a,d];by_cases f:l.ah<=at_;simp[Y3,a,d,f];have h:=ZS at_ Z0 Z0;have j:=ZS (ZC l 3+at_) Z0 Z0;simp[Y3,a,d,f,h,j];have g:=Va a 4;simp only[zc]at g;refine Zy (jd a (k:=4) Z0) Z1 ?_;by_cases d:at_<0;simp[Y3,a,d];by_cases f:l.ak<=at_;simp[Y3,a,d,f];have h:=ZS at_ Z0 Z0;have j:=ZS (ZC l 4+at_) Z0 Z0;simp[Y3,a,d,f,h,j]
def X1(l:Ly)(a k:Int):Bool:=decide (ZC l k<=a)&&decide (a<ZC l k+YI l k)
theorem Sn{l a k}:X1 l a k=xk↔ZC l k<=a/\a<ZC l k+YI l k:=by simp[X1]
def yP{l a k}:X1 l a k=xw↔ ¬(ZC l k<=a/\a<ZC l k+YI l k):=by grind [Sn]
def Yg(l:Ly)(a:Int):Int×Int×Int:=
 if ZI l=xw then(0,0,1)else if X1 l a 1 then(1,a-ZC l 1,0)else if X1 l a 2 then(2,a-ZC l 2,0)else if X1 l a 3 then(3,a-ZC l 3,0)else if X1 l a 4 then(4,a-ZC l 4,0)else(0,0,6)
def GP{l:Ly}(x:l.an){a:Int}(w:ZB a):VC xP 56 xw [X2 l,vu a]<|.al [.agg [vi (Yg l a).1,vi (Yg l a).2.1],vi (Yg l a).2.2]:=by
 refine ZT F7 follows Z2 c56 rfl ?_;simp[Nu];refine Zy (LV x) Z1 ?_;cases o:ZI l;simp[Yg,o];obtain⟨z,A⟩:=w;simp;refine Zy (PM o) (by simp[X2]) ?_;simp;have r:∀k,1<=ZC l k/\ZC l k+YI l k<=9223372036854775808/\0<=YI l k/\YI l k<=4096:=λk=>Va o k;have w1:=r 1;have w2:=r 2;have w3:=r 3;have w4:=r 4;simp only[z1,z5,za,zc]at w1 w2 w3 w4;refine zq 6 4 (λi=>(0<i->X1 l a 1=xw)/\(1<i->X1 l a 2=xw)/\(2<i->X1 l a 3=xw)/\(3<i->X1 l a 4=xw)) Z1 Z1 Z1 ?_;rintro i B ⟨n,p,t,y⟩;have u:i=0\/i=1\/i=2\/i=3\/i=4:=Z0;obtain rfl|rfl|rfl|rfl|rfl:=u;have h:=ZS l.H Z0 Z0;by_cases f:ZC l 1<=a;have j:=ZS (a-ZC l 1) Z0 Z0;by_cases g:a-ZC l 1<l.H;have q:=Zx (a-ZC l 1) Z0 Z0;have d:X1 l a 1=xk:=Sn.2 ⟨f,by rw[z1];omega⟩;simp[V6,Y8,Zx,f,h,j,g,q,Yg,o,d];have d:X1 l a 1=xw:=yP.2 (by rw[z1];omega);simp[V6,Y8,Zx,f,h,j,g,d];have d:X1 l a 1=xw:=by simp[X1,f]
 simp[V6,Y8,Zx,f,d];have h:=ZS l.aa Z0 Z0;by_cases f:ZC l 2<=a;have j:=ZS (a-ZC l 2) Z0 Z0;by_cases g:a-ZC l 2<l.aa;have q:=Zx (a-ZC l 2) Z0 Z0;have d:X1 l a 2=xk:=Sn.2 ⟨f,by rw[z5];omega⟩;simp[V6,Y8,Zx,f,h,j,g,q,Yg,o,d,n Z0];have d:X1 l a 2=xw:=yP.2 (by rw[z5];omega);simp[V6,Y8,Zx,f,h,j,g,d,n Z0];have d:X1 l a 2=xw:=by simp[X1,f]
 simp[V6,Y8,Zx,f,d,n Z0];have h:=ZS l.ah Z0 Z0;by_cases f:ZC l 3<=a;have j:=ZS (a-ZC l 3) Z0 Z0;by_cases g:a-ZC l 3<l.ah;have q:=Zx (a-ZC l 3) Z0 Z0;have d:X1 l a 3=xk:=Sn.2 ⟨f,by rw[za];omega⟩;simp[V6,Y8,Zx,f,h,j,g,q,Yg,o,d,n Z0,p Z0];have d:X1 l a 3=xw:=yP.2 (by rw[za];omega);simp[V6,Y8,Zx,f,h,j,g,d,n Z0,p Z0];have d:X1 l a 3=xw:=by simp[X1,f]
 simp[V6,Y8,Zx,f,d,n Z0,p Z0];have h:=ZS l.ak Z0 Z0;by_cases f:ZC l 4<=a;have j:=ZS (a-ZC l 4) Z0 Z0;by_cases g:a-ZC l 4<l.ak;have q:=Zx (a-ZC l 4) Z0 Z0;have d:X1 l a 4=xk:=Sn.2 ⟨f,by rw[zc];omega⟩;simp[V6,Y8,Zx,f,h,j,g,q,Yg,o,d,n Z0,p Z0,t Z0];have d:X1 l a 4=xw:=yP.2 (by rw[zc];omega);simp[V6,Y8,Zx,f,h,j,g,d,n Z0,p Z0,t Z0];have d:X1 l a 4=xw:=by simp[X1,f]
 simp[V6,Y8,Zx,f,d,n Z0,p Z0,t Z0];simp[Yg,o,n Z0,p Z0,t Z0,y Z0]
def qD:Fn:=⟨10,[0,1,2,3,4,39,5,41,6,52],pQ [pR [(2,pS 0 10),(3,pS 1 10),pV 4 pF],pQ [.ao ⟨[.lt 10 []<|pn (.m 2 0)<|.m 3 0,.lt 11 []<|.ite (.s 10) pT<|pn (.m 2 1)<|.m 3 1,.lt 12 []<|.ite (.s 11) pT<|pn (.m 2 2)<|.m 3 2,.lt 13 []<|.ite (.s 12) pT<|.fp xk (.m 2 3)<|.m 3 3],[([(10,xw)],pn (.m 2 1)<|.m 3 1),([(11,xw)],pn (.m 2 2)<|.m 3 2),([(12,xw)],.fp xk (.m 2 3)<|.m 3 3),([(13,xw)],pn (.m 2 4)<|.m 3 4)],[pV 5<|.ite (.s 13) pT<|pn (.m 2 4)<|.m 3 4]⟩]<|pw (.s 5)<|px [pV 4 pF],pQ [pR [pV 6<|pI 1]]<|.block 0<|.loop [0,1,2,3,4,5,6]<|pQ [pu 7 (pL (.s 6)<|pI 4) .skip<|.exit 0,.block 1<|pQ [pC [pK 14 28 [.mm 2 0 10,.s 6],pK 15 28 [.mm 3 0 10,.s 6],pK 16 27 [.s 14,.s 15]] [pV 8<|.s 16]]<|pi 9 (.un .not<|.s 8)<|px [pV 4 pF]]<|pc 6,pC [pK 17 27 [.m 2 9,.m 3 9]] [pV 4<|.s 17]] .ret,[(4,.v)]⟩
def Ah:ZN xP fresh sig [.fz,.fz] [] Tryz.f11=J qD:=Z2
def Nc:Fn:=⟨3,[0,1,2],pQ [pR [(1,pS 0 10),(2,.m [pU 0,pI 0,pI 0,pI 0,pI 0,pI 0,pI 0])]]<|px [(2,pM (.ag [.m 1 0,.m 1 1,.m 1 2,.len<|.m 1 5,.len<|.m 1 6,.len<|.m 1 7,.len<|.m 1 8]) 7)],[(2,(.ag 7))]⟩
def c20:ZN xP fresh sig [.fz] [] Tryz.f20=J Nc:=Z2
def Co:Fn:=⟨7,[0,1,4,10,5,14,25],pQ [pR [pV 2 pF],pi 3 (pn (.len<|.s 0)<|.len<|.s 1)<|px [pV 2 pF],pQ [pR [pV 4<|pI 0]]<|.block 0<|.loop [0,1,2,3,4]<|pQ [pu 5 (pl (.s 4)<|.len<|.s 0) .skip<|.exit 0,.block 1<|pi 6 (pn (.ae (.az (.s 0) (.s 4) 1) 0)<|.ae (.az (.s 1) (.s 4) 1) 0)<|px [pV 2 pF]]<|pc 4]<|px [pV 2 pT],[(2,.v)]⟩
def c27:ZN xP fresh sig [.fz,.fz] [] Tryz.f27=J Co:=Z2
def qF:Fn:=⟨8,[0,1,2,4,6,5,10,14],pQ [pR [(2,pS 0 10),pV 3 pN],pQ [pR [pV 5<|.s 1]]<|.block 0<|pu 4 (pe (.s 5)<|pI 1) (px [pV 3<|.m 2 5])<|pu 6 (pe (.s 5)<|pI 2) (px [pV 3<|.m 2 6])<|pi 7 (pe (.s 5)<|pI 3)<|px [pV 3<|.m 2 7]]<|px [pV 3<|.m 2 8],[(3,.v)]⟩
def c28:ZN xP fresh sig [.fz,.fz] [] Tryz.f28=J qF:=Z2
def qG:Fn:=⟨9,[0,1,2,3,6,10,7,14,18],pQ [pR [(3,pS 0 10),(4,pZ)],pQ [pR [pV 6<|.s 1]]<|.block 0<|pu 5 (pe (.s 6)<|pI 1) (pR [(3,.m [.m 3 0,.m 3 1,.m 3 2,.m 3 3,.m 3 4,.one<|.s 2,.m 3 6,.m 3 7,.m 3 8,.m 3 9])])<|pu 7 (pe (.s 6)<|pI 2) (pR [(3,.m [.m 3 0,.m 3 1,.m 3 2,.m 3 3,.m 3 4,.m 3 5,.one<|.s 2,.m 3 7,.m 3 8,.m 3 9])])<|pu 8 (pe (.s 6)<|pI 3) (pR [(3,.m [.m 3 0,.m 3 1,.m 3 2,.m 3 3,.m 3 4,.m 3 5,.m 3 6,.one<|.s 2,.m 3 8,.m 3 9])])<|pR [(3,.m [.m 3 0,.m 3 1,.m 3 2,.m 3 3,.m 3 4,.m 3 5,.m 3 6,.m 3 7,.one<|.s 2,.m 3 9])]]<|px [(4,pM (.mm 3 0 10) 10)],[(4,(.ag 10))]⟩
def c31:ZN xP fresh sig [.fz,.fz,.fz] [] Tryz.f31=J qG:=Z2
def Cr:Fn:=⟨4,[0,1,4,6],pQ [pR [pV 2<|pI 0],pi 3 (pl (.s 0)<|pI 0)<|pR [pV 0<|.un .neg<|pa (.s 0)<|pI 1]]<|px [pV 2<|.bn .rem (.s 0)<|.s 1],[(2,.v)]⟩
def c34:ZN xP fresh sig [.fz,.fz] [] Tryz.f34=J Cr:=Z2
def Ns:Fn:=⟨3,[0,1,2],pQ [pR [(1,pS 0 10),(2,.m [pU 0,pI 0,pI 0,pI 0,pI 0,pI 0,pI 0])]]<|px [(2,pM (.ag [.m 1 0,.m 1 1,.m 1 2,.len<|.m 1 5,.len<|.m 1 6,.len<|.m 1 7,.len<|.m 1 8]) 7)],[(2,(.ag 7))]⟩
def c52:ZN xP fresh sig [.fz] [] Tryz.f52=J Ns:=Z2
def Cs:Fn:=⟨4,[0,1,4,6],pQ [pR [pV 2<|pI 0],pi 3 (pl (.s 0)<|pI 0)<|pR [pV 0<|.un .neg<|pa (.s 0)<|pI 1]]<|px [pV 2<|.bn .rem (.s 0)<|.s 1],[(2,.v)]⟩
def c54:ZN xP fresh sig [.fz,.fz] [] Tryz.f54=J Cs:=Z2
structure Hp where
 base:Int
 cap:Int
 to:Int
 M:Bool
 Z:Int
 H:List Int
 aa:List Int
 ah:List Int
 ak:List Int
 E:List Int
 deriving DecidableEq,Inhabited
def ZE(h:Hp):V:=.agg [vu h.base,vi h.cap,vi h.to,.bool h.M,vi h.Z,.sl<|h.H.map vu,.sl<|h.aa.map vu,.sl<|h.ah.map vu,.sl<|h.ak.map vu,.sl<|h.E.map vu]
@[simp]theorem Zg8(h:Hp):VJ (ZE h) 10=J (ZE h):=rfl
@[simp]theorem ZeJ(h:Hp):(ZE h).cells=[vu h.base,vi h.cap,vi h.to,.bool h.M,vi h.Z,.sl<|h.H.map vu,.sl<|h.aa.map vu,.sl<|h.ah.map vu,.sl<|h.ak.map vu,.sl<|h.E.map vu]:=rfl
@[simp]theorem ZdU(h:Hp):Y0 (ZE h) 0=J (vu h.base):=rfl
@[simp]theorem ZdV(h:Hp):Y0 (ZE h) 1=J (vi h.cap):=rfl
@[simp]theorem ZdW(h:Hp):Y0 (ZE h) 2=J (vi h.to):=rfl
@[simp]theorem ZdX(h:Hp):Y0 (ZE h) 3=J (.bool h.M):=rfl
@[simp]theorem ZdY(h:Hp):Y0 (ZE h) 4=J (vi h.Z):=rfl
@[simp]theorem ZdZ(h:Hp):Y0 (ZE h) 5=J (.sl<|h.H.map vu):=rfl
@[simp]theorem Ze0(h:Hp):Y0 (ZE h) 6=J (.sl<|h.aa.map vu):=rfl
@[simp]theorem Ze1(h:Hp):Y0 (ZE h) 7=J (.sl<|h.ah.map vu):=rfl
@[simp]theorem Ze2(h:Hp):Y0 (ZE h) 8=J (.sl<|h.ak.map vu):=rfl
@[simp]theorem Ze3(h:Hp):Y0 (ZE h) 9=J (.sl<|h.E.map vu):=rfl
def Zv(h:Hp):Ly:=⟨h.base,h.cap,h.to,I h.H,I h.aa,I h.ah,I h.ak⟩
structure Hp.ok (h:Hp):Prop where
 base:ZB h.base
 cap:Yf h.cap
 to:Yf h.to
 Z:Yf h.Z
 H:I h.H<=1000000
 aa:I h.aa<=1000000
 ah:I h.ah<=1000000
 ak:I h.ak<=1000000
 E:I h.E<=1000000
 ex:∀w∈h.H,ZB w
 eu:∀w∈h.aa,ZB w
 ls:∀w∈h.ah,ZB w
 lc:∀w∈h.ak,ZB w
 df:∀w∈h.E,ZB w
def yo{α:Type}{l:List α}(h:I l<=1000000):Yf (I l:Int):=⟨Z0,Z0⟩
def Hp.ok.bc{h:Hp}(a:h.ok):(Zv h).an:=⟨a.base,a.cap,a.to,yo a.H,yo a.aa,yo a.ah,yo a.ak⟩
def jT{h:Hp}:VC xP 20 xw [ZE h]<|X2<|Zv h:=by
 refine ZT EY follows Z2 c20 rfl ?_;simp[Nc,X2,Zv]
def Z9b{h:Hp}:VC xP 52 xw [ZE h]<|X2<|Zv h:=by
 refine ZT Z1L follows Z2 c52 rfl ?_;simp[Ns,X2,Zv]
def Zz(h:Hp)(n:Int):List Int:=if n=1 then h.H else if n=2 then h.aa else if n=3 then h.ah else h.ak
@[simp]theorem VH(h:Hp):Zz h 1=h.H:=rfl
@[simp]theorem qK(h:Hp):Zz h 2=h.aa:=rfl
@[simp]theorem NT(h:Hp):Zz h 3=h.ah:=rfl
@[simp]theorem qL(h:Hp):Zz h 4=h.ak:=rfl
def TB{h:Hp}{n:Int}:VC xP 28 xw [ZE h,vi n]<|.sl<|(Zz h n).map vu:=by
 refine ZT Z1r follows Z2 c28 rfl ?_;by_cases a:n=1;simp[qF,Zz,a];by_cases d:n=2;simp[qF,Zz,d];by_cases f:n=3<;>simp[qF,Zz,a,d,f]
def Xp(h:Hp)(n:Int)(l:Z9):Hp:=if n=1 then {h with H:=l}else if n=2 then {h with aa:=l}else if n=3 then {h with ah:=l}else {h with ak:=l}
@[simp]theorem Zgj(h:Hp)(l:Z9):Xp h 1 l= {h with H:=l}:=rfl
@[simp]theorem Zgk(h:Hp)(l:Z9):Xp h 2 l= {h with aa:=l}:=rfl
@[simp]theorem Zgl(h:Hp)(l:Z9):Xp h 3 l= {h with ah:=l}:=rfl
@[simp]theorem Zgm(h:Hp)(l:Z9):Xp h 4 l= {h with ak:=l}:=rfl
def Fr{h:Hp}{n:Int}{l:Z9}:VC xP 31 xw [ZE h,vi n,.sl<|l.map vu]<|ZE<|Xp h n l:=by
 refine ZT Z1u follows Z2 c31 rfl ?_;by_cases a:n=1;simp[qG,Xp,a,ZE];by_cases d:n=2;simp[qG,Xp,d,ZE];by_cases f:n=3<;>simp[qG,Xp,a,d,f,ZE]
theorem Zbi{α:Type}{a b:List α}{i:Nat}(h:a.take i=b.take i)(hx:a[i]?=b[i]?):a.take (i+1)=b.take (i+1):=by
 simp_all[ZiG]
def Zf9{α:Type}{a b:List α}{i:Nat}(h:a[i]? ≠b[i]?):a≠b:=λe=>h (by rw[e])
def Lk{a b:Z9}(k:I a<=1000000):VC xP 27 xw [.sl<|a.map vu,.sl<|b.map vu]<|.bool<|decide (a=b):=by
 refine ZT Z1q follows Z2 c27 rfl ?_;by_cases g:I a=I b;simp[Co,g];refine zq 4 (I b) (λi=>a.take i=b.take i) Z1 Z1 Z1 ?_;intro i l heq;have j:=Zx ((i:Int)+1) Z0 Z0;by_cases h:i<I b;have d:i<I a:=Z0;by_cases f:a[i]=b[i];simp[h,d,f,j];grind [Zbi];simp[h,d,f];grind;simp_all[Zjm,ZiT];simp[Co,show ¬((I a:Int)=(I b:Int))by omega];grind
def Za4{a b:Hp}(f:a.ok):VC xP 11 xw [ZE a,ZE b]<|.bool<|decide (a=b):=by
 refine ZT Z1h follows Z2 Ah rfl ?_;simp[qD];have g:∀k,I (Zz a k)<=1000000:=λk=>by
  unfold Zz;split;exact f.H;split;exact f.aa;split;exact f.ah;exact f.ak
 by_cases g1:a.base=b.base;case neg=>
  grind
 by_cases g2:a.cap=b.cap;case neg=>
  grind
 by_cases j:a.to=b.to;case neg=>
  grind
 by_cases l:a.M=b.M;case neg=>
  grind
 by_cases o:a.Z=b.Z;case neg=>
  grind
 simp[g1,g2,j,l,o];refine SX (λ(i:Nat)=>[(6,.v<|vi ((i+1:Nat):Int))]) (λi=>i<=4/\(0<i->a.H=b.H)/\(1<i->a.aa=b.aa)/\(2<i->a.ah=b.ah)/\(3<i->a.ak=b.ak)) (Xi 6 5) 0 Z1 Z1 ?_;rintro i ⟨A,w,x,y,z⟩;have p:i=0\/i=1\/i=2\/i=3\/i=4:=Z0;obtain rfl|rfl|rfl|rfl|rfl:=p;simp;refine Zy (TB (h:=⟨b.base,b.cap,b.to,b.M,b.Z,a.H,a.aa,a.ah,a.ak,a.E⟩) (n:=1)) Zhz ?_;simp;refine Zy (TB (h:=b) (n:=1)) Zhz ?_;simp;refine Zy (Lk (b:=b.H)<|g 1) Z1 ?_;by_cases d:a.H=b.H;simp[d,Zx];exact⟨1,by simp[d],Z1,ZhA⟩;have:a≠b:=λe=>d (by rw[e]);simp_all;simp;refine Zy (TB (h:=⟨b.base,b.cap,b.to,b.M,b.Z,a.H,a.aa,a.ah,a.ak,a.E⟩) (n:=2)) Zhz ?_;simp;refine Zy (TB (h:=b) (n:=2)) Zhz ?_;simp;refine Zy (Lk (b:=b.aa)<|g 2) Z1 ?_;by_cases d:a.aa=b.aa;simp[d,Zx];exact⟨2,ZgI,Z1,ZhA⟩;have:a≠b:=λe=>d (by rw[e]);simp_all;simp;refine Zy (TB (h:=⟨b.base,b.cap,b.to,b.M,b.Z,a.H,a.aa,a.ah,a.ak,a.E⟩) (n:=3)) Zhz ?_;simp;refine Zy (TB (h:=b) (n:=3)) Zhz ?_;simp;refine Zy (Lk (b:=b.ah)<|g 3) Z1 ?_;by_cases d:a.ah=b.ah;simp[d,Zx];exact⟨3,ZgI,Z1,ZhA⟩;have:a≠b:=λe=>d (by rw[e]);simp_all;simp;refine Zy (TB (h:=⟨b.base,b.cap,b.to,b.M,b.Z,a.H,a.aa,a.ah,a.ak,a.E⟩) (n:=4)) Zhz ?_;simp;refine Zy (TB (h:=b) (n:=4)) Zhz ?_;simp;refine Zy (Lk (b:=b.ak)<|g 4) Z1 ?_;by_cases d:a.ak=b.ak;simp[d,Zx];exact⟨4,ZgI,Z1,ZhA⟩;have:a≠b:=λe=>d (by rw[e]);simp_all;simp;refine Zy (Lk (b:=b.E) f.E) Z1 ?_;by_cases d:a.E=b.E;have:a=b:=by
  have q:=w Z0;have r:=x Z0;have t:=y Z0;have u:=z Z0;obtain⟨_,_,_,_,_,_,_,_,_,_⟩:=a;obtain⟨_,_,_,_,_,_,_,_,_,_⟩:=b;simp only at g1 g2 j l o q r t u d;subst g1 g2 j l o q r t u d;rfl
 simp_all;have:a≠b:=λe=>d (by rw[e]);simp_all
def pick(c n:Int):Int:=(if c<0 then-(c+1)else c) %n
def UR{c n:Int}(a:0<n):0<=pick c n/\pick c n<n:=⟨ZlG _ Z0,Zld _ a⟩
def Lz{c n:Int}(hc:Yf c)(f:0<n):VC xP 34 xw [vi c,vi n]<|vi<|pick c n:=by
 refine ZT Z1x follows Z2 c34 rfl ?_;obtain⟨a,d⟩:=hc;by_cases h:c<0;simp[Cr,h];simp(disch:=omega) only[Zx];refine⟨Z0,?_⟩;unfold pick;grind;simp[Cr,h];refine⟨Z0,?_⟩;simp_all[pick,ZhP,ZiL]
def NY{c n:Int}(hc:Yf c)(f:0<n):VC xP 54 xw [vi c,vi n]<|vi<|pick c n:=by
 refine ZT Z1N follows Z2 c54 rfl ?_;obtain⟨a,d⟩:=hc;by_cases h:c<0;simp[Cs,h];simp(disch:=omega) only[Zx];refine⟨Z0,?_⟩;unfold pick;grind;simp[Cs,h];refine⟨Z0,?_⟩;simp_all[pick,ZhP,ZiL]
def Nh:Fn:=⟨15,[0,1,2,3,4,5,6,8,9,10,11,12,44,13,76],pQ [pR [(4,pS 0 14),(5,pS 1 2),(6,pS 2 2),(7,.m [pU 0,pI 0,pI 0,pF,pI 0,pN,pN,pN,pN,pN,pN,pN,pN,pN])],pC [pK 15 28 [.mm 4 0 10,.m 5 0]] [pV 8<|.app pN (.s 15) 1],pC [pK 16 49 [.ag [pa (.len<|.m 6 0)<|.len<|.m 6 1,.len<|.m 6 0]]] [pV 9<|.ext (.s 16) 0,pV 10<|.ext (.s 16) 1],.ao ⟨[],[([],.az (.s 8) (.m 5 1) 1)],[pV 8<|.upd (.s 8) (.m 5 1) 0<|.one<|.s 9]⟩,pQ [pR [pV 11<|pI 0]]<|.block 0<|.loop [0,1,2,3,4,5,6,7,8,9,10,11]<|pQ [pu 12 (pl (.s 11)<|.len<|.m 6 0) .skip<|.exit 0,.block 1<|.ao ⟨[pK 17 50 [.mm 4 0 14,.ag [.m 5 0,pa (pa (.m 5 1)<|pI 1)<|.s 11],.ae (.az (.m 6 0) (.s 11) 1) 0,pa (.s 3)<|.s 11]],[([],.az (.s 8) (pa (pa (.m 5 1)<|pI 1)<|.s 11) 1)],[pV 8<|.upd (.s 8) (pa (pa (.m 5 1)<|pI 1)<|.s 11) 0<|.one<|.s 17]⟩]<|pc 11,pQ [pR [pV 13<|pI 0]]<|.block 2<|.loop [0,1,2,3,4,5,6,7,8,9,10,11,12,13]<|pQ [pu 14 (pl (.s 13)<|.len<|.m 6 1) .skip<|.exit 2,.block 3<|.ao ⟨[],[([],.az (.s 8) (pa (pa (pa (.m 5 1)<|pI 1)<|.len<|.m 6 0)<|.s 13) 1)],[pV 8<|.upd (.s 8) (pa (pa (pa (.m 5 1)<|pI 1)<|.len<|.m 6 0)<|.s 13) 0<|.ae (.az (.m 6 1) (.s 13) 1) 0]⟩]<|pc 13,pC [pK 18 31 [.mm 4 0 10,.m 5 0,.s 8]] [(4,.m [.ae (.sz (.s 18) 10) 0,.ae (.sz (.s 18) 10) 1,.ae (.sz (.s 18) 10) 2,.ae (.sz (.s 18) 10) 3,.ae (.sz (.s 18) 10) 4,.ae (.sz (.s 18) 10) 5,.ae (.sz (.s 18) 10) 6,.ae (.sz (.s 18) 10) 7,.ae (.sz (.s 18) 10) 8,.ae (.sz (.s 18) 10) 9,.m 4 10,.m 4 11,.m 4 12,.m 4 13])]]<|px [(7,pM (.mm 4 0 14) 14)],[(7,(.ag 14))]⟩
def c29:ZN xP fresh sig [.fz,.fz,.fz,.fz] [] Tryz.f29=J Nh:=Z2
def Cp:Fn:=⟨10,[0,1,2,3,4,11,5,6,7,8],pQ [pR [(2,pS 0 14),(3,pS 1 2),pV 4<|pU 0],pi 5 (pe (.m 3 0)<|pI 0)<|px [pV 4<|pU 0],pC [pK 10 52 [.mm 2 0 10],pK 11 51 [.s 10,.mm 3 0 2]] [pV 6<|.ext (.s 11) 0,pV 7<|.ext (.s 11) 1],pC [pK 12 53 [.s 6]] [pV 8<|.ext (.s 12) 0,pV 9<|.ext (.s 12) 1]]<|px [pV 4<|.s 8],[(4,.v)]⟩
def c30:ZN xP fresh sig [.fz,.fz] [] Tryz.f30=J Cp:=Z2
def Ni:Fn:=⟨13,[0,1,4,5,6,7,16,8,9,30,10,78,97],pQ [pR [(2,.m [pN,pN])],pR [pV 3<|.mn (.len<|.s 0)<|pI 10],pR [(4,.m [pN,pN])],pQ [pR [pV 5<|pI 0]]<|.block 0<|.loop [0,1,2,3,4,5]<|pQ [pu 6 (pl (.s 5)<|.s 3) .skip<|.exit 0,.block 1<|pQ [pR [(7,.m [pN,pN])],pQ [pR [pV 8<|pI 0]]<|.block 2<|.loop [0,1,2,3,4,5,6,7,8]<|pQ [pQ [.ao ⟨[.lt 13 []<|pl (.s 8)<|.len<|.ae (.az (.s 0) (.s 5) 2) 0],[([(13,xk)],pl (.s 8)<|pI 4)],[pV 9<|.ite (.s 13) (pl (.s 8)<|pI 4) pF]⟩]<|.cond (.s 9) .skip<|.exit 2,.block 3<|pC [pK 14 54 [.ae (.az (.ae (.az (.s 0) (.s 5) 2) 0) (.s 8) 1) 0,pa (.s 3)<|pI 1]] [(7,.m [.app (.m 7 0) (.lit [pb (.s 14)<|pI 1]) 1,.m 7 1])]]<|pc 8,pR [(7,.m [.m 7 0,.app pN (.fu (.ae (.az (.s 0) (.s 5) 2) 1) (pI 0) (.mn (.len<|.ae (.az (.s 0) (.s 5) 2) 1)<|pI 4) 1) 1])]]<|pR [(4,.m [.app (.m 4 0) (.lit [.mm 7 0 2]) 2,.m 4 1])]]<|pc 5,pQ [pR [pV 10<|pI 0]]<|.block 4<|.loop [0,1,2,3,4,5,6,10]<|pQ [pQ [.ao ⟨[.lt 15 []<|pl (.s 10)<|.len<|.s 1],[([(15,xk)],pl (.s 10)<|pI 5)],[pV 11<|.ite (.s 15) (pl (.s 10)<|pI 5) pF]⟩]<|.cond (.s 11) .skip<|.exit 4,.block 5<|pC [pK 16 54 [.ae (.az (.s 1) (.s 10) 1) 0,pa (.s 3)<|pI 1]] [(4,.m [.m 4 0,.app (.m 4 1) (.lit [pb (.s 16)<|pI 1]) 1])]]<|pc 10,pi 12 (pe (.len<|.m 4 1)<|pI 0)<|pR [(4,.m [.m 4 0,.app (.m 4 1) (.lit [pb (.s 3)<|pI 1]) 1])]]<|px [(2,pM (.mm 4 0 2) 2)],[(2,(.ag 2))]⟩
def c32:ZN xP fresh sig [.fz,.fz] [] Tryz.f32=J Ni:=Z2
def Cq:Fn:=⟨10,[0,1,2,3,6,7,8,14,9,31],pQ [pR [(3,pS 0 7),pV 4<|pI 0,pV 5 pF],pR [pV 6<|.s 1],pi 7 (pj (.len<|.m 3 2)<|pI 0)<|pR [pV 6<|.ae (.az (.m 3 2) (.bn .rem (.s 1)<|.len<|.m 3 2) 1) 0],pC [pK 10 34 [.s 6,pI 3]] [pV 8<|.s 10],pQ [.ao ⟨[.lt 11 []<|pe (.s 8)<|pI 2],[([(11,xk)],.un .not<|.s 2)],[pV 9<|.ite (.s 11) (.un .not<|.s 2) pF]⟩]<|pw (.s 9)<|pR [pV 8<|pI 1],pC [pK 12 34 [.bn .quo (.s 6)<|pI 3,pI 2]] [pV 4<|.s 8,pV 5<|pe (.s 12)<|pI 1]] .ret,[(4,.v),(5,.v)]⟩
def c33:ZN xP fresh sig [.fz,.fz,.fz] [] Tryz.f33=J Cq:=Z2
def Sz:Fn:=⟨10,[0,1,2,3,4,5,8,10,13,54],pQ [pR [(4,pS 0 14),(5,pS 1 2),pV 6<|pU 0],pi 7 (pl (.s 2)<|pI 0)<|px [pV 6<|pU 0],pi 8 (pj (.m 5 0)<|pI 2)<|pQ [pC [pK 10 30 [.mm 4 0 14,.bb (.az (.m 4 13) (.s 2) 2) 0 2]] [pV 6<|.s 10]] .ret,pQ [.ao ⟨[.lt 11 []<|pe (.m 5 0)<|pI 1,.lt 12 []<|.ite (.s 11) (pg (.m 5 1)<|.m 4 4) pF,.lt 13 [(12,xk)]<|pe (.ae (.az (.m 4 12) (.s 2) 2) 0)<|pI 0,.lt 14 [(12,xk),(13,xw)]<|pj (.ae (.az (.m 4 13) (.s 2) 2) 0)<|pI 0],[([(11,xk)],pg (.m 5 1)<|.m 4 4),([(12,xk),(13,xw),(14,xk)],pe (.bn .rem (.s 3)<|pI 2)<|pI 0),([(12,xk),(13,xw)],.ite (.s 14) (pe (.bn .rem (.s 3)<|pI 2)<|pI 0) pF),([(12,xk)],.ite (.s 13) pT<|.ite (.s 14) (pe (.bn .rem (.s 3)<|pI 2)<|pI 0) pF)],[pV 9<|.ite (.s 12) (.ite (.s 13) pT<|.ite (.s 14) (pe (.bn .rem (.s 3)<|pI 2)<|pI 0) pF) pF]⟩]<|pw (.s 9)<|pQ [pC [pK 15 30 [.mm 4 0 14,.bb (.az (.m 4 13) (.s 2) 2) 0 2]] [pV 6<|.s 15]] .ret,pC [pK 16 30 [.mm 4 0 14,.bb (.az (.m 4 12) (.s 2) 2) 0 2]] [pV 6<|.s 16]] .ret,[(6,.v)]⟩
def c50:ZN xP fresh sig [.fz,.fz,.fz,.fz] [] Tryz.f50=J Sz:=Z2
structure Nd where
 Y:List Int
 data:List Int
 deriving DecidableEq,Inhabited
structure Gr where
 nodes:List Nd
 E:List Int
 deriving DecidableEq,Inhabited
def Yj(n:Nd):V:=.agg [.sl<|n.Y.map vi,.sl<|n.data.map vu]
def Yx(g:Gr):V:=.agg [.sl<|g.nodes.map Yj,.sl<|g.E.map vi]
@[simp]theorem Zf8(n:Nd):(Yj n).cells=[.sl<|n.Y.map vi,.sl<|n.data.map vu]:=rfl
@[simp]theorem ZfV(l:List Nd):Xv 2 (l.map Yj)=xk:=JQ λ_=>rfl
@[simp]theorem Zez(n:Nd):UJ (Yj n) 0 2=J (Yj n):=rfl
@[simp]theorem Zec(n:Nd):Y0 (Yj n) 0=J (.sl<|n.Y.map vi):=rfl
@[simp]theorem Zed(n:Nd):Y0 (Yj n) 1=J (.sl<|n.data.map vu):=rfl
@[simp]theorem Zga(n:Nd):VJ (Yj n) 2=J (Yj n):=rfl
@[simp]theorem Zey(g:Gr):UJ (Yx g) 0 2=J (Yx g):=rfl
@[simp]theorem ZdS(g:Gr):Y0 (Yx g) 0=J (.sl<|g.nodes.map Yj):=rfl
@[simp]theorem ZdT(g:Gr):Y0 (Yx g) 1=J (.sl<|g.E.map vi):=rfl
@[simp]theorem Zg7(g:Gr):VJ (Yx g) 2=J (Yx g):=rfl
@[simp]theorem ZeH(g:Gr):(Yx g).cells=[.sl<|g.nodes.map Yj,.sl<|g.E.map vi]:=rfl
@[simp]theorem Zg0{k:IntKind}{l:Zr}(j n:Nat):RB n (.sl l) (.int k 0) (.int k (j:Int))=if j<=I l/\Xv n l=xk then J (.sl<|l.take j)else U:=by
 have:=ZaB (k:=k) (l:=l) 0 j n;simpa using this
def rp(n:Nat)(p:Int):Int:=pick p (n+1) -1
def Tj(n:Nat)(x:Nd):Nd:=⟨(x.Y.take 4).map<|rp n,x.data.take 4⟩
def VG(l:List Nd):Nat:=min (I l) 10
def ZY(l:List Nd)(a:Z9):Gr:=⟨(l.take<|VG l).map<|Tj<|VG l,if a.take 5=[]then [(VG l:Int) -1]else(a.take 5).map (rp<|VG l)⟩
def Z14{l:List Nd}{a:Z9}(hl:∀x∈l,∀p∈x.Y,Yf p)(hr:∀p∈a,Yf p):VC xP 32 xw [.sl<|l.map Yj,.sl<|a.map vi]<|Yx<|ZY l a:=by
 refine ZT Z1v follows Z2 c32 rfl ?_;have S:VG l<=10:=by grind [VG]
 have a1:VG l<=I l:=by grind [VG]
 have z:(if(10:Int)< (I l:Int)then(10:Int)else(I l:Int))=(VG l:Int):=by
  unfold VG;split<;>omega
 simp[Ni,z];generalize hn:VG l=n at*;have C:=Zx ((n:Int)+1) Z0 Z0;refine S7 (λt=>∃i:Nat,i<=n/\t=[.v<|.sl<|l.map Yj,.v<|.sl<|a.map vi,.m [.sl [],.sl []],.v<|vi n,.m [.sl<|((l.take i).map<|Tj n).map Yj,.sl []],.v<|vi i]) (λt=>match get t 5 with|.v (.int _ i)=>n-i.toNat|_=>0) ?_ ?_;exact⟨0,Z1,Z1⟩
 .rintro t ⟨i,hi,rfl⟩;have hw:=Zx ((i:Int)+1) Z0 Z0;by_cases h:i<n
  .have r:i<I l:=Z0;have P:l[i]?=J l[i]:=ZhG r;simp[h];generalize A:l[i]=x at P;have Q:∀p∈x.Y,Yf p:=hl x<|ZhR P;have F:(if(4:Int)< (I x.data:Int)then(4:Int)else(I x.data:Int))=((min (I x.data) 4:Nat):Int):=by split<;>omega
   refine S7 (λt=>∃k:Nat,k<=I x.Y/\k<=4/\t=[.v<|.sl<|l.map Yj,.v<|.sl<|a.map vi,.m [.sl [],.sl []],.v<|vi n,.m [.sl<|((l.take i).map<|Tj n).map Yj,.sl []],.v<|vi i,.v<|.bool xk,.m [.sl<|((x.Y.take k).map<|rp n).map vi,.sl []],.v<|vi k]) (λt=>match get t 8 with|.v (.int _ i)=>4-i.toNat|_=>0) ?_ ?_;exact⟨0,Z1,Z1,Z1⟩
   .rintro t ⟨k,G,Z,rfl⟩;have w:=Zx ((k:Int)+1) Z0 Z0;by_cases W:k<I x.Y/\k<4;obtain⟨f,Y⟩:=W;have M:x.Y[k]?=J x.Y[k]:=ZhG f;have g:(k:Int)<4:=Z0;simp[r,A,f,g,C];refine Zy (NY (Q _<|Zi5 f) Z0) Z1 ?_;have N:=UR (c:=x.Y[k]) (n:=(n:Int)+1) Z0;have y:=Zx (pick x.Y[k] ((n:Int)+1) -1) Z0 Z0;simp[w,y];refine⟨by grind [Y4],⟨k+1,Z0,Z0,?_,Z1⟩,Z0⟩;rw[ZiG,Zi8,M];rfl
    .have d:(x.Y.take k)=x.Y.take 4:=by
      by_cases f:k<I x.Y;grind;grind
     have o:(l.take<|i+1).map (Yj∘Tj n)=(l.take i).map (Yj∘Tj n)++[V.agg [.sl<|(x.Y.take k).map<|vi∘rp n,.sl<|(x.data.take<|min (I x.data) 4).map vu]]:=by
      rw[ZiG,P,ZiR,d];have L:x.data.take (min (I x.data) 4)=x.data.take 4:=by
       by_cases hd:I x.data<=4;grind;grind
      rw[L];simp[Yj,Tj]
     have B:Xv 1 ((x.data.take<|min (I x.data) 4).map vu)=xk:=zd _;have u:min (I x.data) 4<=Y4:=by grind [Y4]
     have H:min i (I l)+1<=Y4:=by grind [Y4]
     have K:min (I x.data) 4<=I x.data:=Z0;simp only[List.map_take]at o B;have g:k<I x.Y->¬(k:Int)<4:=Z0;by_cases f:k<I x.Y
     all_goals (
      simp[r,A,f,g,F,u,H,B,hw,K];exact⟨⟨i+1,Z0,o.symm,Z1⟩,Z0⟩)
  .have:i=n:=Z0;subst this;simp;have D:=Zx ((i:Int) -1) Z0 Z0;refine S7 (λt=>∃k:Nat,k<=I a/\k<=5/\t=[.v<|.sl<|l.map Yj,.v<|.sl<|a.map vi,.m [.sl [],.sl []],.v<|vi i,.m [.sl<|(l.take i).map<|Yj∘Tj i,.sl<|(a.take k).map<|vi∘rp i],.v<|vi i,.v<|.bool xw,.no,.no,.no,.v<|vi k]) (λt=>match get t 10 with|.v (.int _ i)=>5-i.toNat|_=>0) ?_ ?_;exact⟨0,Z1,Z1,Z1⟩
   .rintro t ⟨k,G,a0,rfl⟩;have w:=Zx ((k:Int)+1) Z0 Z0;by_cases X:k<I a/\k<5;obtain⟨f,Y⟩:=X;have M:a[k]?=J a[k]:=ZhG f;have g:(k:Int)<5:=Z0;simp[f,g,C];refine Zy (NY (hr _<|Zi5 f) Z0) Z1 ?_;have N:=UR (c:=a[k]) (n:=(i:Int)+1) Z0;have y:=Zx (pick a[k] ((i:Int)+1) -1) Z0 Z0;simp[w,y];refine⟨by grind [Y4],⟨k+1,Z0,Z0,?_,Z1⟩,Z0⟩;rw[ZiG,Zi8,M];rfl
    .have d:(a.take k)=a.take 5:=by
      by_cases f:k<I a;grind;grind
     have g:k<I a->¬(k:Int)<5:=Z0;have R:ZY l a=⟨(l.take i).map<|Tj i,if a.take 5=[]then [(i:Int) -1]else(a.take 5).map (rp i)⟩:=by
      unfold ZY;rw[hn]
     have q:I (a.take k)=k:=by rw[ZiX];omega
     by_cases T:k=0;subst T;have j:a.take 5=[]:=by rw[<-d];rfl
     rw[R,ZhS j];have f:¬0<I a:=Z0;have u:1<=Y4:=by simp[Y4]
     simp[f,Yx,D,u]
     .have j:a.take 5≠[]:=by
       rw[<-d];intro h;rw[h]at q;simp at q;omega
      rw[R,ZhP j,<-d];have O:¬a=[]:=by intro h;rw[h]at G;simp at G;omega
      by_cases f:k<I a;all_goals simp[f,g,Yx,T,O]
def P3{n:Nat}{p:Int}: -1<=rp n p/\rp n p<n:=by
 have:=UR (c:=p) (n:=(n:Int)+1) Z0;grind [rp]
def qc(l:List Nd)(a:Z9):(ZY l a).nodes.length=VG l:=by
 simp[ZY,VG]
def BX(l:List Nd)(a:Z9):VG l<=10/\(ZY l a).E.length<=5/\∀x∈(ZY l a).nodes,I x.Y<=4/\I x.data<=4:=by
 refine⟨by grind [VG],?_,λx d=> ?_⟩;grind [ZY];simp only[ZY,Zi4]at d;obtain⟨y,_,rfl⟩:=d;grind [Tj,List.length_map,List.length_take]
def p5:Fn:=⟨3,[0,1,2],pQ [pR [(1,pS 0 7),(2,pZ)],pC [pK 3 13 [.mm 1 0 7,pF],pK 4 12 [.s 3,.mm 1 0 7]] [(2,pS 4 10)]] .ret,[(2,(.ag 10))]⟩
def c5:ZN xP fresh sig [.fz] [] Tryz.f5=J p5:=Z2
def MZ:Fn:=⟨17,[0,1,2,3,4,5,16,6,31,59,83,7,8,9,125,10,134],pQ [pR [(2,pS 0 14),(3,pS 1 7),(4,pZ)],pQ [pR [pV 5<|pI 0]]<|.block 0<|.loop [0,1,2,3,4,5]<|pQ [pu 6 (pl (.s 5)<|.len<|.m 2 10) .skip<|.exit 0,.block 1<|pQ [pR [(7,pM (.bb (.az (.m 2 10) (.s 5) 2) 0 2) 2)],pi 8 (pj (.ae (.az (.m 2 12) (.s 5) 2) 0)<|pI 0)<|pC [pK 17 29 [.mm 2 0 14,.bb (.az (.m 2 12) (.s 5) 2) 0 2,.mm 7 0 2,pa (.m 3 4)<|.s 5]] [(2,pS 17 14)],pQ [.ao ⟨[.lt 18 []<|pj (.ae (.az (.m 2 13) (.s 5) 2) 0)<|pI 0],[([(18,xk)],pe (.ae (.az (.m 2 12) (.s 5) 2) 0)<|pI 0)],[pV 9<|.ite (.s 18) (pe (.ae (.az (.m 2 12) (.s 5) 2) 0)<|pI 0) pF]⟩]<|pw (.s 9)<|pC [pK 19 29 [.mm 2 0 14,.bb (.az (.m 2 13) (.s 5) 2) 0 2,.mm 7 0 2,pI 0]] [(2,pS 19 14)],.ao ⟨[.lt 20 []<|pj (.ae (.az (.m 2 13) (.s 5) 2) 0)<|pI 0],[([(20,xk)],pj (.ae (.az (.m 2 12) (.s 5) 2) 0)<|pI 0)],[pV 10<|.ite (.s 20) (pj (.ae (.az (.m 2 12) (.s 5) 2) 0)<|pI 0) pF]⟩]<|pw (.s 10)<|pQ [pC [pK 21 28 [.mm 2 0 10,.ae (.az (.m 2 13) (.s 5) 2) 0]] [pV 11<|.app pN (.s 21) 1],.ao ⟨[pK 22 30 [.mm 2 0 14,.bb (.az (.m 2 12) (.s 5) 2) 0 2]],[([],.az (.s 11) (.ae (.az (.m 2 13) (.s 5) 2) 1) 1)],[pV 11<|.upd (.s 11) (.ae (.az (.m 2 13) (.s 5) 2) 1) 0<|.one<|.s 22]⟩]<|pC [pK 23 31 [.mm 2 0 10,.ae (.az (.m 2 13) (.s 5) 2) 0,.s 11]] [(2,.m [.ae (.sz (.s 23) 10) 0,.ae (.sz (.s 23) 10) 1,.ae (.sz (.s 23) 10) 2,.ae (.sz (.s 23) 10) 3,.ae (.sz (.s 23) 10) 4,.ae (.sz (.s 23) 10) 5,.ae (.sz (.s 23) 10) 6,.ae (.sz (.s 23) 10) 7,.ae (.sz (.s 23) 10) 8,.ae (.sz (.s 23) 10) 9,.m 2 10,.m 2 11,.m 2 12,.m 2 13])]]<|pc 5,pR [pV 12 pN],pQ [pR [pV 13<|pI 0]]<|.block 2<|.loop [0,1,2,3,4,5,6,12,13]<|pQ [pu 14 (pl (.s 13)<|.len<|.m 2 11) .skip<|.exit 2,.block 3<|pQ [pR [pV 15<|pU 0],pi 16 (pg (.ae (.az (.m 2 11) (.s 13) 1) 0)<|pI 0)<|pC [pK 24 30 [.mm 2 0 14,.bb (.az (.m 2 12) (.ae (.az (.m 2 11) (.s 13) 1) 0) 2) 0 2]] [pV 15<|.s 24]]<|pR [pV 12<|.app (.s 12) (.lit [.one<|.s 15]) 1]]<|pc 13,pR [(2,.m [.m 2 0,.m 2 1,.m 2 2,.m 2 3,.m 2 4,.m 2 5,.m 2 6,.m 2 7,.m 2 8,.one<|.s 12,.m 2 10,.m 2 11,.m 2 12,.m 2 13])]]<|px [(4,pM (.mm 2 0 10) 10)],[(4,(.ag 10))]⟩
def RU:ZN xP fresh sig [.fz,.fz] [] Tryz.f12=J MZ:=Z2
def N3:Fn:=⟨19,[0,1,2,4,5,6,7,8,26,9,10,11,12,13,57,81,14,82,165],pQ [pR [(2,pS 0 7),(3,.m [pU 0,pI 0,pI 0,pF,pI 0,pN,pN,pN,pN,pN,pN,pN,pN,pN])],.ao ⟨[pK 19 32 [.m 2 0,.m 2 1]],[([],.ag [pU 0,pI 0,pI 0,pF,pI 0,pN,pN,pN,pN,pN,.ae (.sz (.s 19) 2) 0,.ae (.sz (.s 19) 2) 1,pN,pN])],[(4,.m [pU 0,pI 0,pI 0,pF,pI 0,pN,pN,pN,pN,pN,.ae (.sz (.s 19) 2) 0,.ae (.sz (.s 19) 2) 1,pN,pN])]⟩,pR [(5,.m [pI 0,pI 0,pI 0,pI 0,pI 0])],pR [pV 6<|pI 0],pQ [pR [pV 7<|pI 0]]<|.block 0<|.loop [0,1,2,3,4,5,6,7]<|pQ [pu 8 (pl (.s 7)<|.len<|.m 4 10) .skip<|.exit 0,.block 1<|pQ [pC [pK 20 33 [.mm 2 0 7,.s 7,.s 1]] [pV 9<|.ext (.s 20) 0,pV 10<|.ext (.s 20) 1],pR [pV 11<|pa (pa (pI 1)<|.len<|.ae (.az (.m 4 10) (.s 7) 2) 0)<|.len<|.ae (.az (.m 4 10) (.s 7) 2) 1],pR [(12,pM (.ag [pI 0,pI 0]) 2)],pR [(13,pM (.ag [pI 0,pI 0]) 2)],pu 14 (pl (.s 9)<|pI 2) (pQ [.ao ⟨[],[([],.ai (.c<|.agg [(.bool xk),(.bool xk),(.bool xk),(.bool xk),(.bool xk)]) (pb (pI 2)<|.s 9) 5 1 xw)],[(12,pM (.ag [pb (pI 2)<|.s 9,.one<|.ai (.mm 5 0 5) (pb (pI 2)<|.s 9) 5 1 xw]) 2)]⟩]<|.ao ⟨[],[([],.ai (.c<|.agg [(.bool xk),(.bool xk),(.bool xk),(.bool xk),(.bool xk)]) (pb (pI 2)<|.s 9) 5 1 xw)],[(5,pM (.db (.mm 5 0 5) (pb (pI 2)<|.s 9) 5 1<|pa (.ai (.mm 5 0 5) (pb (pI 2)<|.s 9) 5 1 xw)<|.s 11) 5)]⟩)<|pR [pV 6<|pa (.s 6)<|.s 11],pQ [pC [.lt 21 []<|pj (.s 9)<|pI 0] [pV 15<|.ite (.s 21) (.s 1) pF]]<|pw (.s 15)<|pQ [pR [pV 16<|pI 3],pi 17 (.s 10)<|pR [pV 16<|pI 4],.ao ⟨[],[([],.ai (.c<|.agg [(.bool xk),(.bool xk),(.bool xk),(.bool xk),(.bool xk)]) (.s 16) 5 1 xw)],[(13,pM (.ag [.one<|.s 16,.one<|.ai (.mm 5 0 5) (.s 16) 5 1 xw]) 2)]⟩]<|.ao ⟨[],[([],.ai (.c<|.agg [(.bool xk),(.bool xk),(.bool xk),(.bool xk),(.bool xk)]) (.s 16) 5 1 xw)],[(5,pM (.db (.mm 5 0 5) (.s 16) 5 1<|pa (.ai (.mm 5 0 5) (.s 16) 5 1 xw)<|.s 11) 5)]⟩,pR [(4,.m [.m 4 0,.m 4 1,.m 4 2,.m 4 3,.m 4 4,.m 4 5,.m 4 6,.m 4 7,.m 4 8,.m 4 9,.m 4 10,.m 4 11,.app (.m 4 12) (.lit [.mm 12 0 2]) 2,.m 4 13])]]<|pR [(4,.m [.m 4 0,.m 4 1,.m 4 2,.m 4 3,.m 4 4,.m 4 5,.m 4 6,.m 4 7,.m 4 8,.m 4 9,.m 4 10,.m 4 11,.m 4 12,.app (.m 4 13) (.lit [.mm 13 0 2]) 2])]]<|pc 7,.ao ⟨[pK 22 34 [.m 2 6,pI 2]],[([],.ai (.c<|.agg [(.bool xk),(.bool xk),(.bool xk),(.bool xk),(.bool xk)]) (pI 1) 5 1 xw),([],.ai (.c<|.agg [(.bool xk),(.bool xk),(.bool xk),(.bool xk),(.bool xk)]) (pI 2) 5 1 xw),([],.ai (.c<|.agg [(.bool xk),(.bool xk),(.bool xk),(.bool xk),(.bool xk)]) (pI 3) 5 1 xw),([],.ai (.c<|.agg [(.bool xk),(.bool xk),(.bool xk),(.bool xk),(.bool xk)]) (pI 4) 5 1 xw),([],.ag [pU 0,pI 0,.one<|.s 22,.one<|.s 1,pI 0,.mk (.int .u64 0)<|.ai (.mm 5 0 5) (pI 1) 5 1 xw,.mk (.int .u64 0)<|.ai (.mm 5 0 5) (pI 2) 5 1 xw,.mk (.int .u64 0)<|.ai (.mm 5 0 5) (pI 3) 5 1 xw,.mk (.int .u64 0)<|.ai (.mm 5 0 5) (pI 4) 5 1 xw,pN])],[(4,.m [pU 0,pI 0,.one<|.s 22,.one<|.s 1,pI 0,.mk (.int .u64 0)<|.ai (.mm 5 0 5) (pI 1) 5 1 xw,.mk (.int .u64 0)<|.ai (.mm 5 0 5) (pI 2) 5 1 xw,.mk (.int .u64 0)<|.ai (.mm 5 0 5) (pI 3) 5 1 xw,.mk (.int .u64 0)<|.ai (.mm 5 0 5) (pI 4) 5 1 xw,pN,.m 4 10,.m 4 11,.m 4 12,.m 4 13])]⟩,.ao ⟨[pK 23 34 [.m 2 4,pI 12]],[([],.ai (.c<|.agg [(.bool xk),(.bool xk),(.bool xk),(.bool xk),(.bool xk)]) (pI 1) 5 1 xw),([],.ai (.c<|.agg [(.bool xk),(.bool xk),(.bool xk),(.bool xk),(.bool xk)]) (pI 2) 5 1 xw),([],.ai (.c<|.agg [(.bool xk),(.bool xk),(.bool xk),(.bool xk),(.bool xk)]) (pI 3) 5 1 xw),([],.ai (.c<|.agg [(.bool xk),(.bool xk),(.bool xk),(.bool xk),(.bool xk)]) (pI 4) 5 1 xw)],[(4,.m [.m 4 0,pa (.mx (pa (pa (.ai (.mm 5 0 5) (pI 1) 5 1 xw)<|.ai (.mm 5 0 5) (pI 2) 5 1 xw)<|.s 6)<|pa (.ai (.mm 5 0 5) (pI 3) 5 1 xw)<|.ai (.mm 5 0 5) (pI 4) 5 1 xw)<|.s 23,.m 4 2,.m 4 3,.m 4 4,.m 4 5,.m 4 6,.m 4 7,.m 4 8,.m 4 9,.m 4 10,.m 4 11,.m 4 12,.m 4 13])]⟩,pR [(4,.m [pa (pU 1)<|.bn .rem (.m 2 3)<|pb (pU 9223372036854775808)<|pm (pU 2)<|.conv .u64<|.m 4 1,.m 4 1,.m 4 2,.m 4 3,.m 4 4,.m 4 5,.m 4 6,.m 4 7,.m 4 8,.m 4 9,.m 4 10,.m 4 11,.m 4 12,.m 4 13])],.ao ⟨[],[([],.ai (.c<|.agg [(.bool xk),(.bool xk),(.bool xk),(.bool xk),(.bool xk)]) (pI 1) 5 1 xw)],[(4,.m [.m 4 0,.m 4 1,.m 4 2,.m 4 3,.one<|.ai (.mm 5 0 5) (pI 1) 5 1 xw,.m 4 5,.m 4 6,.m 4 7,.m 4 8,.m 4 9,.m 4 10,.m 4 11,.m 4 12,.m 4 13])]⟩,pQ [.ao ⟨[.lt 24 []<|.s 1],[([(24,xk)],.ai (.c<|.agg [(.bool xk),(.bool xk),(.bool xk),(.bool xk),(.bool xk)]) (pI 1) 5 1 xw),([(24,xk)],pj (.ai (.mm 5 0 5) (pI 1) 5 1 xw)<|pI 0)],[pV 18<|.ite (.s 24) (pj (.ai (.mm 5 0 5) (pI 1) 5 1 xw)<|pI 0) pF]⟩]<|pw (.s 18)<|.ao ⟨[pK 25 34 [.m 2 5,.ai (.mm 5 0 5) (pI 1) 5 1 xw]],[([],.ai (.c<|.agg [(.bool xk),(.bool xk),(.bool xk),(.bool xk),(.bool xk)]) (pI 1) 5 1 xw)],[(4,.m [.m 4 0,.m 4 1,.m 4 2,.m 4 3,.one<|.s 25,.m 4 5,.m 4 6,.m 4 7,.m 4 8,.m 4 9,.m 4 10,.m 4 11,.m 4 12,.m 4 13])]⟩]<|px [(3,pM (.mm 4 0 14) 14)],[(3,(.ag 14))]⟩
def c13:ZN xP fresh sig [.fz,.fz] [] Tryz.f13=J N3:=Z2
end Vm
end
section
namespace Vm
open Go Go.Proofs
structure Pl where
 part:Int
 ab:Int
 deriving DecidableEq,Inhabited
def We(p:Pl):V:=.agg [vi p.part,vi p.ab]
@[simp]theorem ZfH p:(We p).cells=[vi p.part,vi p.ab]:=rfl
@[simp]theorem ZeC p:UJ (We p) 0 2=J (We p):=rfl
@[simp]theorem Zej p:Y0 (We p) 0=J (vi p.part):=rfl
@[simp]theorem Zek p:Y0 (We p) 1=J (vi p.ab):=rfl
@[simp]theorem Zgc p:VJ (We p) 2=J (We p):=rfl
@[simp]theorem ZfY(l:List Pl):Xv 2 (l.map We)=xk:=JQ λ_=>rfl
structure Rw where
 nodes:List Nd
 E:List Int
 da:List Int
 base:Int
 bd:Int
 Z:Int
 to:Int
 deriving Inhabited
def WS(x:Rw):V:=.agg [.sl<|x.nodes.map Yj,.sl<|x.E.map vi,.sl<|x.da.map vi,vu x.base,vi x.bd,vi x.Z,vi x.to]
@[simp]theorem Zgd x:VJ (WS x) 7=J (WS x):=rfl
@[simp]theorem ZfR x:(WS x).cells=[.sl<|x.nodes.map Yj,.sl<|x.E.map vi,.sl<|x.da.map vi,vu x.base,vi x.bd,vi x.Z,vi x.to]:=rfl
@[simp]theorem Zel x:Y0 (WS x) 0=J (.sl<|x.nodes.map Yj):=rfl
@[simp]theorem Zem x:Y0 (WS x) 1=J (.sl<|x.E.map vi):=rfl
@[simp]theorem Zen x:Y0 (WS x) 2=J (.sl<|x.da.map vi):=rfl
@[simp]theorem Zeo x:Y0 (WS x) 3=J (vu x.base):=rfl
@[simp]theorem Zep x:Y0 (WS x) 4=J (vi x.bd):=rfl
@[simp]theorem Zeq x:Y0 (WS x) 5=J (vi x.Z):=rfl
@[simp]theorem Zer x:Y0 (WS x) 6=J (vi x.to):=rfl
structure Rw.ok (x:Rw):Prop where
 Y:∀n∈x.nodes,∀p∈n.Y,Yf p
 data:∀n∈x.nodes,∀p∈n.data,ZB p
 E:∀p∈x.E,Yf p
 da:∀p∈x.da,Yf p
 base:ZB x.base
 bd:Yf x.bd
 Z:Yf x.Z
 to:Yf x.to
def U7(x:Rw)(i:Nat):Int:=if I x.da=0 then i else(x.da[i%I x.da]?).getD 0
def V8(x:Rw)(i:Nat)(cycle:Bool):Int:=if pick (U7 x i) 3=2/\cycle=xw then 1 else pick (U7 x i) 3
def WA(x:Rw)(i:Nat):Bool:=decide (pick ((U7 x i).tdiv 3) 2=1)
def R6 x i cycle:V8 x i cycle=0\/V8 x i cycle=1\/(V8 x i cycle=2/\cycle=xk):=by
 have:=UR (c:=U7 x i) (n:=3) Z0;unfold V8;grind
def Z3q{x:Rw}(hx:x.ok){i:Nat}(C:i<=1000){cycle:Bool}:VC xP 33 xw [WS x,vi i,.bool cycle]<|.al [vi<|V8 x i cycle,.bool<|WA x i]:=by
 refine ZT Z1w follows Z2 c33 rfl ?_;have t:Yf<|U7 x i:=by
  unfold U7;split;exact⟨Z0,Z0⟩;rename_i h;have:i%I x.da<I x.da:=ZkY _ Z0;rw[ZhG this];exact hx.da _<|Zi5 this
 have g:=Lz (c:=U7 x i) (n:=3) t Z0;have p:Yf<|(U7 x i).tdiv 3:=by
  obtain⟨B,f⟩:=t;unfold Yf;rw[Int.tdiv_eq_ediv];have:Int.sign 3=1:=rfl;split<;>omega
 have d:=Zx _ p.1 p.2;have a:=Lz (c:=(U7 x i).tdiv 3) (n:=2) p Z0;have fin:∀(b:Bool),(decide (pick ((U7 x i).tdiv 3) 2=1)=b)->WA x i=b:=λb h=>h;by_cases q:I x.da=0;have k:U7 x i=i:=by simp[U7,q]
 rw[k]at g a d;rw[Zl9 Z0]at a d;simp[Cq,q];refine Zy g Z1 ?_;by_cases f:pick (i:Int) 3=2;cases cycle;simp[f,d];refine Zy a Z1 ?_;simp[V8,WA,k,f];simp[f,d];refine Zy a Z1 ?_;simp[V8,WA,k,f];simp[f,d];refine Zy a Z1 ?_;simp[V8,WA,k,f];have l:i%I x.da<I x.da:=ZkY _ Z0;have w:x.da[i%I x.da]?=J x.da[i%I x.da]:=ZhG l;have k:U7 x i=x.da[i%I x.da]:=by simp[U7,q,w]
 have z:(i:Int).tmod (I x.da:Int)=((i%I x.da:Nat):Int):=by
  rw[ZiL Z0];rfl
 rw[k]at g a d;have u:0<I x.da:=Z0;have r:x.da≠[]:=λe=>ZgI;have A:((i:Int) % (I x.da:Int))=((i%I x.da:Nat):Int):=rfl;generalize o:x.da[i%I x.da]=c at*;generalize y:i%I x.da=j at*;simp[Cq,u,r,z,l,o];refine Zy g Z1 ?_;by_cases f:pick c 3=2;cases cycle;simp[f,d];refine Zy a Z1 ?_;simp[V8,WA,k,f];simp[f,d];refine Zy a Z1 ?_;simp[V8,WA,k,f];simp[f,d];refine Zy a Z1 ?_;simp[V8,WA,k,f]
def ZM(n:Nd):Nat:=1+I n.Y+I n.data
structure St8 where
 n1:Nat
 n2:Nat
 n3:Nat
 n4:Nat
 wt:Nat
 aw:List Pl
 ah:List Pl
def X6(x:Rw)(cycle:Bool)(sz:Nat)(i:Nat)(s:St8):St8:=
 let k:=V8 x i cycle;let a:=WA x i;let o:Bool:=decide (0<k)&&cycle
 {n1:=if k=1 then s.n1+sz else s.n1
  n2:=if k=0 then s.n2+sz else s.n2
  n3:=if o&& !a then s.n3+sz else s.n3
  n4:=if o&&a then s.n4+sz else s.n4
  wt:=if k=2 then s.wt+sz else s.wt
  aw:=s.aw++[if k=0 then⟨2,s.n2⟩else if k=1 then⟨1,s.n1⟩else⟨0,0⟩]
  ah:=s.ah++[if o then(if a then⟨4,s.n4⟩else⟨3,s.n3⟩)else⟨0,0⟩]}
def Y5(x:Rw)(cycle:Bool)(g:Gr):Nat->St8
 |0=>⟨0,0,0,0,0,[],[]⟩
 |i+1=>X6 x cycle (ZM<|(g.nodes[i]?).getD default) i<|Y5 x cycle g i
def ZaW{x cycle sz i}(h:sz<=9)s(d:s.n1+s.n2+s.wt<=9*i)(h2:s.n3+s.n4<=9*i)(f:I s.aw=i)(g:I s.ah=i):
  (X6 x cycle sz i s).n1+(X6 x cycle sz i s).n2+(X6 x cycle sz i s).wt<=9*(i+1)/\(X6 x cycle sz i s).n3+(X6 x cycle sz i s).n4<=9*(i+1)/\(X6 x cycle sz i s).aw.length=i+1/\(X6 x cycle sz i s).ah.length=i+1:=by
 obtain a|a|⟨a,rfl⟩:=R6 x i cycle;grind [X6];grind [WA,X6];grind [WA,X6]
def zh{x cycle g}(a:∀n∈g.nodes,ZM n<=9):∀i,i<=I g.nodes->(Y5 x cycle g i).n1+(Y5 x cycle g i).n2+(Y5 x cycle g i).wt<=9*i/\(Y5 x cycle g i).n3+(Y5 x cycle g i).n4<=9*i/\(Y5 x cycle g i).aw.length=i/\(Y5 x cycle g i).ah.length=i
 |0,_=>by simp[Y5]
 |i+1,k=>by
  let⟨d,f,h,j⟩:=zh (x:=x) (cycle:=cycle) a i Z0;simp[Y5,ZhG (Z0:i<I g.nodes)];simp_all[ZaW]
structure Bt where
 h:Hp
 g:Gr
 aw:List Pl
 ah:List Pl
def XU(b:Bt):List V:=[vu b.h.base,vi b.h.cap,vi b.h.to,.bool b.h.M,vi b.h.Z,.sl<|b.h.H.map vu,.sl<|b.h.aa.map vu,.sl<|b.h.ah.map vu,.sl<|b.h.ak.map vu,.sl<|b.h.E.map vu,.sl<|b.g.nodes.map Yj,.sl<|b.g.E.map vi,.sl<|b.aw.map We,.sl<|b.ah.map We]
def Xh(b:Bt):V:=.agg [vu b.h.base,vi b.h.cap,vi b.h.to,.bool b.h.M,vi b.h.Z,.sl<|b.h.H.map vu,.sl<|b.h.aa.map vu,.sl<|b.h.ah.map vu,.sl<|b.h.ak.map vu,.sl<|b.h.E.map vu,.sl<|b.g.nodes.map Yj,.sl<|b.g.E.map vi,.sl<|b.aw.map We,.sl<|b.ah.map We]
def YR(x:Rw)(cycle:Bool):Bt:=
 let g:=ZY x.nodes x.E;let s:=Y5 x cycle g<|I g.nodes;let cap:Int:=max ((s.n1:Int)+s.n2+s.wt) ((s.n3:Int)+s.n4)+pick x.bd 12
 ⟨⟨1+x.base% (9223372036854775808-2*cap),cap,pick x.to 2,cycle,if cycle=xk/\0<s.n1 then pick x.Z s.n1 else s.n1,List.replicate s.n1 0,List.replicate s.n2 0,List.replicate s.n3 0,List.replicate s.n4 0,[]⟩,g,s.aw,s.ah⟩
def ZaY{x:Rw}(hx:x.ok){cycle:Bool}:VC xP 13 xw [WS x,.bool cycle]<|Xh<|YR x cycle:=by
 refine ZT Z1n follows Z2 c13 rfl ?_;simp[N3];refine Zy (Z14 hx.Y hx.E) Z1 ?_;obtain⟨M,N,B⟩:=BX x.nodes x.E;have O:=qc x.nodes x.E;unfold YR;generalize ZY x.nodes x.E=g at*;have l:∀n∈g.nodes,ZM n<=9:=λn d=>by have:=B n d;unfold ZM;omega
 simp
 refine Uf 7 (I g.nodes) (λi=>[(4,.m [.int .u64 0,.int .i64 0,.int .i64 0,.bool xw,.int .i64 0,.sl [],.sl [],.sl [],.sl [],.sl [],.sl<|g.nodes.map Yj,.sl<|g.E.map vi,.sl<|(Y5 x cycle g i).aw.map We,.sl<|(Y5 x cycle g i).ah.map We]),
  (5,.m [vi 0,vi (Y5 x cycle g i).n1,vi (Y5 x cycle g i).n2,vi (Y5 x cycle g i).n3,vi (Y5 x cycle g i).n4]),(6,.v<|vi (Y5 x cycle g i).wt),(7,.v<|vi i)]) (λ_=>True) (by simp[Y5]) (λi=>Z1) trivial ?_
 rintro i R-;have o:=Zx ((i:Int)+1) Z0 Z0;obtain⟨s1,s2,s3,s4⟩:=zh (x:=x) (cycle:=cycle) l i R;by_cases h:i<I g.nodes;have d:g.nodes[i]?=J g.nodes[i]:=ZhG h;have p:=l _<|Zi5 h;simp only[Y5,d,Zih];generalize Y5 x cycle g i=s at*;generalize g.nodes[i]=n at*;have P:=Z3q hx (i:=i) Z0 (cycle:=cycle);have C:=R6 x i cycle;have w1:=Zx (1+(I n.Y:Int)) (by unfold ZM at p;omega) (by unfold ZM at p;omega);have w2:=Zx (1+(I n.Y:Int)+I n.data) (by unfold ZM at p;omega) (by unfold ZM at p;omega);have f:(1+(I n.Y:Int)+I n.data)=(ZM n:Nat):=by unfold ZM;omega
 rw[f]at w2;simp[h];refine Zy P Z1 ?_;generalize K:ZM n=sz at*;unfold X6;generalize WA x i=H at*;generalize V8 x i cycle=k at*;have t:=Zx ((s.n1:Int)+sz) Z0 Z0;have u:=Zx ((s.n2:Int)+sz) Z0 Z0;have w:=Zx ((s.n3:Int)+sz) Z0 Z0;have y:=Zx ((s.n4:Int)+sz) Z0 Z0;have z:=Zx ((s.wt:Int)+sz) Z0 Z0;have q:I s.aw+1<=Y4:=Zha;have r:I s.ah+1<=Y4:=Zha;obtain rfl|rfl|⟨rfl,rfl⟩:=C;cases cycle<;>simp[d,Yl d,w1,f,w2,Y8,T7,setCells,Zx,t,u,w,y,z,q,r,We,o];cases cycle;simp[d,Yl d,w1,f,w2,Y8,T7,setCells,Zx,t,u,w,y,z,q,r,We,o];cases H<;>simp[d,Yl d,w1,f,w2,Y8,T7,setCells,Zx,t,u,w,y,z,q,r,We,o];cases H<;>simp[d,Yl d,w1,f,w2,Y8,T7,setCells,Zx,t,u,w,y,z,q,r,We,o];have:i=I g.nodes:=Z0;subst this;generalize T:Y5 x cycle g (I g.nodes)=s at*;have G:=Lz (c:=x.to) (n:=2) hx.to Z0;have F:=Lz (c:=x.bd) (n:=12) hx.bd Z0;have W:=UR (c:=x.bd) (n:=12) Z0;simp;refine Zy G Z1 ?_;have X:s.n1<=Y4:=Zha;have Y:s.n2<=Y4:=Zha;have Z:s.n3<=Y4:=Zha;have q4:s.n4<=Y4:=Zha;simp[Y8,X,Y,Z,q4];refine Zy F Z1 ?_;have w1:=Zx ((s.n1:Int)+s.n2) Z0 Z0;have w2:=Zx ((s.n1:Int)+s.n2+s.wt) Z0 Z0;have w3:=Zx ((s.n3:Int)+s.n4) Z0 Z0;have j:(if(s.n1:Int)+s.n2+s.wt< (s.n3:Int)+s.n4 then(s.n3:Int)+s.n4 else(s.n1:Int)+s.n2+s.wt)=max ((s.n1:Int)+s.n2+s.wt) ((s.n3:Int)+s.n4):=by split<;>omega
 obtain⟨cap,a⟩:∃cap:Int,max ((s.n1:Int)+s.n2+s.wt) ((s.n3:Int)+s.n4)+pick x.bd 12=cap:=⟨_,rfl⟩;have Q:0<=cap/\cap<=200:=Z0;have w4:=Zx cap Z0 Z0;have w5:=ZS cap Z0 Z0;have w6:=ZS (2*cap) Z0 Z0;have w7:=ZS (9223372036854775808-2*cap) Z0 Z0;obtain⟨L,b2⟩:=hx.base;have w8:x.base.tmod (9223372036854775808-2*cap)=x.base% (9223372036854775808-2*cap):=ZiL L;have h1:=ZlG x.base (Z0:(9223372036854775808-2*cap)≠0);have h2:=Zld x.base (Z0:0< (9223372036854775808-2*cap));have w9:=ZS (1+x.base% (9223372036854775808-2*cap)) Z0 Z0;have D:¬((9223372036854775808-2*cap)=0):=Z0;simp[Y8,w1,w2,w3,j,a,w4,w5,w6,w7,w8,w9,D];cases cycle;simp[Xh,a];by_cases A:0<s.n1;have S:=Lz (c:=x.Z) (n:=(s.n1:Int)) hx.Z Z0;simp[A];refine Zy S Z1 ?_;simp[Xh,a,A,Y8];simp[Xh,a,A]
end Vm
namespace Vm
open Go Go.Proofs
@[simp]theorem Zg5 b:VJ (Xh b) 14=J (Xh b):=rfl
@[simp]theorem Zdj b:(Xh b).cells=XU b:=rfl
@[simp]theorem ZdK b i:Y0 (Xh b) i=(XU b)[i]?.bind YP:=rfl
def NS s p:0<=(Xa s p).1/\(Xa s p).1<100000000:=by
 grind [Xa,Yz]
def Z2n l(g:l.an)p a:0<=(Y3 l p a).1/\(Y3 l p a).1<=9223372036854775807:=by
 unfold Y3;split;simp;rename_i f;have d:ZI l=xk:=ZgZ;split;simp;split;simp;have:=Va d p;omega
def Z8C{a}:0<=(Xr a).1/\(Xr a).1<18446744073709551616:=by
 unfold Xr;split;simp;omega
def YD(h:Hp)(p:Pl):Int:=if p.part=0 then 0 else(Xr (Y3 (Zv h) p.part p.ab).1).1
theorem Dd h p:ZB<|YD h p:=by
 unfold YD;split;exact⟨Z0,Z0⟩;exact Z8C
def LP{b:Bt}(f:(Zv b.h).an){p:Pl}:VC xP 30 xw [Xh b,We p]<|vu<|YD b.h p:=by
 refine ZT Z1t follows Z2 c30 rfl ?_;by_cases d:p.part=0;simp[Cp,XU,YD,d];have g:=Z2n (Zv b.h) f p.part p.ab;simp[Cp,XU,d];refine Zy (Z9b (h:=b.h)) Zhz ?_;simp;refine Zy (Z99 f (part:=p.part) (at_:=p.ab)) Z1 ?_;simp;refine Zy (Z9d (a:=(Y3 (Zv b.h) p.part p.ab).1) ⟨g.1,Z0⟩) Z1 ?_;simp[YD,d]
def Vt(b:Bt)(p:Pl)(to tw:Int):Int:=
 if to<0 then 0 else if 2<p.part then YD b.h<|(b.ah[to.toNat]?).getD ⟨0,0⟩
 else if p.part=1/\b.h.Z<=p.ab/\(((b.aw[to.toNat]?).getD ⟨0,0⟩).part=0\/0< ((b.ah[to.toNat]?).getD ⟨0,0⟩).part/\tw%2=0)then YD b.h ((b.ah[to.toNat]?).getD ⟨0,0⟩)
 else YD b.h<|(b.aw[to.toNat]?).getD ⟨0,0⟩
theorem ZaF b p to tw:ZB<|Vt b p to tw:=by
 unfold Vt;split;exact⟨Z0,Z0⟩;grind [Dd]
def t9(t:Int):t.tmod 2=0↔t%2=0:=by
 grind
def ZaG{b:Bt}(l:(Zv b.h).an){p:Pl}{to tw:Int}(r:to<I b.aw)(h2:to<I b.ah):VC xP 50 xw [Xh b,We p,vi to,vi tw]<|vu<|Vt b p to tw:=by
 refine ZT Z1J follows Z2 c50 rfl ?_;by_cases o:to<0;simp[Sz,XU,Vt,o];obtain⟨t,rfl⟩:=ZhW (Z0:0<=to);have g1:b.aw[t]?=J (b.aw[t]'Z0):=ZhG Z0;have g2:b.ah[t]?=J (b.ah[t]'Z0):=ZhG Z0;generalize b.aw[t]'Z0=x at*;generalize b.ah[t]'Z0=y at*;unfold Vt;simp only[Zi1,g1,g2,Zih,ZhP o];by_cases a:2<p.part;simp[Sz,XU,a,g2];refine Zy (LP l (p:=y)) (by simp[Xh]) ?_;simp;have k1:=LP l (p:=x);have q:=LP l (p:=y);by_cases f:p.part=1;by_cases g:b.h.Z<=p.ab;by_cases j:x.part=0;simp[Sz,XU,a,f,g,j,g1,g2];refine Zy q (by simp[Xh]) ?_;simp;by_cases n:0<y.part;by_cases k:tw%2=0;have d:=(t9 tw).2 k;simp[Sz,XU,a,f,g,j,n,k,d,g1,g2];refine Zy q (by simp[Xh]) ?_;simp;have d:=mt (t9 tw).1 k;simp[Sz,XU,a,f,g,j,n,k,d,g1,g2];refine Zy k1 (by simp[Xh]) ?_;simp;simp[Sz,XU,a,f,g,j,n,g1,g2];refine Zy k1 (by simp[Xh]) ?_;simp;simp[Sz,XU,a,f,g,g1,g2];refine Zy k1 (by simp[Xh]) ?_;simp;simp[Sz,XU,a,f,g1,g2];refine Zy k1 (by simp[Xh]) ?_;simp
@[simp]theorem Z8M x y:V.put (vu x) 0 [vu y]=vu y:=rfl
def Du{l pre:List Int}{m}(h:I pre=m)(a:m<I l)z:(pre++l.drop m).set m z=pre++[z]++l.drop (m+1):=by
 subst h;rw[ZlL _ _<|ZhL _,ZjD,ZiD a,Ziw];rfl
def XR(b:Bt)(p:Pl)(a:Nat)(d:List Int)(tw:Int):List Int:=(List.range<|I d).map λi=>Vt b ⟨p.part,((a+1+i:Nat):Int)⟩ ((d[i]?).getD 0)<|IntKind.i64.wrap<|tw+i
def Sp(b:Bt)(p:Pl)(a:Nat)(n:Nd)(tw:Int):List Int:=
 let l:=Zz b.h p.part
 l.take a++[(Xa ((I n.Y:Int)+I n.data)<|I n.Y).1]++XR b p a n.Y tw++n.data++l.drop (a+ZM n)
def Wl(b:Bt)(p:Pl)(n:Nd)(tw:Int):Bt:= {b with h:=Xp b.h p.part (Sp b p p.ab.toNat n tw)}
def IG{b:Bt}(hb:(Zv b.h).an){p:Pl}{n:Nd}{tw:Int}{a:Nat}(ha:p.ab=a)(a4:I (Zz b.h p.part)<=1000000)(d:a+ZM n<=I (Zz b.h p.part))
  (h1:∀q∈n.Y,q<I b.aw/\q<I b.ah):VC xP 29 xw [Xh b,We p,Yj n,vi tw]<|Xh<|Wl b p n tw:=by
 refine ZT Z1s follows Z2 c29 rfl ?_;have O:I (Zz b.h p.part)<=Y4:=Zha;have w1:=Zx ((I n.Y:Int)+I n.data) Zhc Zhc;unfold Wl;rw[show p.ab.toNat=a by omega];simp[Nh,XU];refine Zy (TB (h:=b.h) (n:=p.part)) Zhz ?_;simp[O,w1];refine Zy (Z9c (s:=(I n.Y:Int)+I n.data) (p:=I n.Y)) Z1 ?_;have Q:a< I (Zz b.h p.part):=Zhc;simp[ha,Q];generalize Y:Zz b.h p.part=l at*;generalize X:(Xa ((I n.Y:Int)+I n.data)<|I n.Y).1=A at*;have D:(l.map vu).set a (vu A)=((l.take a++[A])++l.drop (a+1)).map vu:=by
  rw[<-Zkw];congr 1;have:=Du (l:=l) (pre:=l.take a) (m:=a) ZgJ Q A;rw[ZjR]at this;exact this
 simp only[Z8M,D];have H:=Zx ((a:Int)+1) Z0 Z0;have a5:I n.Y<=I l:=Zhc;have R:I (XR b p a n.Y tw)=I n.Y:=by simp[XR]
 refine Uf 11 (I n.Y) (λk=>[(8,.v<|.sl<|((l.take a++[A]++(XR b p a n.Y tw).take k)++l.drop (a+1+k)).map vu),(11,.v<|vi k)]) (λ_=>True) Z1 (λi=>Z1) trivial ?_;rintro k hk-;have L:=Zx ((k:Int)+1) Z0 Z0;have a0:=Zx ((a:Int)+1+k) Z0 Z0;by_cases o:k<I n.Y;have M:n.Y[k]?=J n.Y[k]:=ZhG o;obtain⟨q1,q2⟩:=h1 _<|Zi5 o;have t:=ZaG hb (p:=⟨p.part,((a+1+k:Nat):Int)⟩) (to:=n.Y[k]) (tw:=IntKind.i64.wrap<|tw+k) q1 q2;have Z:(XR b p a n.Y tw)[k]?=J (Vt b ⟨p.part,((a+1+k:Nat):Int)⟩ n.Y[k]<|IntKind.i64.wrap<|tw+k):=by
  simp[XR,o]
 generalize n.Y[k]=q at*;generalize Vt b ⟨p.part,((a+1+k:Nat):Int)⟩ q (IntKind.i64.wrap<|tw+k)=z at*;have G:(XR b p a n.Y tw).take (k+1)=(XR b p a n.Y tw).take k++[z]:=by rw[ZiG,Z];rfl
 have r:I (l.take a++[A]++(XR b p a n.Y tw).take k)=a+1+k:=by simp[R];omega
 have P:a+1+k<I l:=Zhc;have F:=Du (l:=l) r P z;generalize C:l.take a++[A]++(XR b p a n.Y tw).take k=pre at*;have g:∃x,((pre++l.drop (a+1+k)).map vu)[a+1+k]?=J (vu x):=by
  refine⟨l[a+1+k],?_⟩;rw[Zi8,Zi3 Z0,r,ZjD,ZiD P];rfl
 have f:((pre++l.drop (a+1+k)).map vu).set (a+1+k) (vu z)=(pre++[z]++l.drop (a+1+(k+1))).map vu:=by
  rw[<-Zkw,F];rfl
 obtain⟨m,B⟩:∃m:Nat,a+1+k=m:=⟨_,rfl⟩;have u:(a:Int)+1+k=m:=Z0;have w:=Zx (m:Int) Z0 Z0;rw[show a+1+(k+1)=a+1+k+1 by omega]at f⊢;rw[B]at g f t⊢;generalize W:(pre++l.drop m).map vu=LL at g f⊢;rw[G];obtain⟨y,hy⟩:=g;simp[o,M,Yl M,H,a0,u,w];refine Zy t (by simp[Xh]) ?_;simp[hy,f,L,o,H,u,w];rw[<-C];simp;have:k=I n.Y:=Z0;subst this;rw[show(XR b p a n.Y tw).take (I n.Y)=XR b p a n.Y tw from ZiT Z0];have a1:=Zx ((a:Int)+1+I n.Y) Z0 Z0;have a2:∀j:Nat,j<=1000+I n.data->IntKind.i64.wrap ((a:Int)+1+I n.Y+j)=(a:Int)+1+I n.Y+j:=λj hj=>Zx _ Z0 Zhc;generalize S:l.take a++[A]++XR b p a n.Y tw=sp at*;have T:I sp=a+1+I n.Y:=by rw[<-S];simp[R];omega
 simp;refine Uf 13 (I n.data) (λk=>[(8,.v<|.sl<|((sp++n.data.take k)++l.drop (a+1+I n.Y+k)).map vu),(13,.v<|vi k)]) (λ_=>True) Z1 (λi=>Z1) trivial ?_;rintro k hk-;have L:=Zx ((k:Int)+1) Z0 Zhc;by_cases o:k<I n.data;have M:n.data[k]?=J n.data[k]:=ZhG o;generalize n.data[k]=z at*;have G:n.data.take (k+1)=n.data.take k++[z]:=by rw[ZiG,M];rfl
 have r:I (sp++n.data.take k)=a+1+I n.Y+k:=by simp[T];omega
 have P:a+1+I n.Y+k<I l:=Zhc;have F:=Du (l:=l) r P z;generalize C:sp++n.data.take k=pre at*;have g:∃x,((pre++l.drop (a+1+I n.Y+k)).map vu)[a+1+I n.Y+k]?=J (vu x):=by
  refine⟨l[a+1+I n.Y+k],?_⟩;rw[Zi8,Zi3 Z0,r,ZjD,ZiD P];rfl
 have f:((pre++l.drop (a+1+I n.Y+k)).map vu).set (a+1+I n.Y+k) (vu z)=(pre++[z]++l.drop (a+1+I n.Y+k+1)).map vu:=by
  rw[<-Zkw,F]
 rw[show a+1+I n.Y+(k+1)=a+1+I n.Y+k+1 by omega];have a3:=a2 k Z0;obtain⟨m,B⟩:∃m:Nat,a+1+I n.Y+k=m:=⟨_,rfl⟩;have u:(a:Int)+1+I n.Y+k=m:=Z0;have w:=Zx (m:Int) Z0 Z0;rw[B]at g f⊢;generalize W:(pre++l.drop m).map vu=LL at g f⊢;rw[G];obtain⟨y,hy⟩:=g;simp[o,M,Yl M,H,a1,a3,u,w,hy,f,L];rw[<-C];simp;have:k=I n.data:=Z0;subst this;rw[show n.data.take (I n.data)=n.data from Zjm];have K:=Fr (h:=b.h) (n:=p.part) (l:=sp++n.data++l.drop (a+1+I n.Y+I n.data));have N:Sp b p a n tw=sp++n.data++l.drop (a+1+I n.Y+I n.data):=by
  unfold Sp;rw[Y,X];dsimp only;rw[S,show a+ZM n=a+1+I n.Y+(I n.data) by unfold ZM;omega]
 rw[N];generalize sp++n.data++l.drop (a+1+I n.Y+I n.data)=fin at*;simp;refine Zy K Zhz ?_;simp[Xh]
end Vm
namespace Vm
open Go Go.Proofs
def QL(h:Hp):Prop:=(∀k,∀w∈Zz h k,ZB w)/\∀w∈h.E,ZB w
structure BOk (b:Bt):Prop where
 bc:(Zv b.h).an
 hl:I b.aw=I b.g.nodes
 ol:I b.ah=I b.g.nodes
 nn:I b.g.nodes<=10
 ptr:∀n∈b.g.nodes,∀q∈n.Y,q< (I b.g.nodes:Int)
 ug:∀n∈b.g.nodes,∀q∈n.data,ZB q
 uv:∀q∈b.g.E,q< (I b.g.nodes:Int)
 rl:I b.g.E<=5
 aw:∀(i:Nat) (p:Pl) (n:Nd),b.aw[i]?=J p->b.g.nodes[i]?=J n->p=⟨0,0⟩\/∃a:Nat,p.ab=a/\(p.part=1\/p.part=2)/\a+ZM n<=I (Zz b.h p.part)
 ah:∀(i:Nat) (p:Pl) (n:Nd),b.ah[i]?=J p->b.g.nodes[i]?=J n->p=⟨0,0⟩\/∃a:Nat,p.ab=a/\(p.part=3\/p.part=4)/\a+ZM n<=I (Zz b.h p.part)
 len:∀k,I (Zz b.h k)<=1000
 words:QL b.h
theorem qM{h h'}(a:Zv h'=Zv h)k:I (Zz h' k)=I (Zz h k):=by
 grind [Zv,Zz]
def BOk.keep{b}(hb:BOk b){h'}(hl:Zv h'=Zv b.h)(hw:QL h'):BOk {b with h:=h'} where
 bc:=by show(Zv h').an;rw[hl];exact hb.bc
 hl:=hb.hl
 ol:=hb.ol
 nn:=hb.nn
 ptr:=hb.ptr
 ug:=hb.ug
 uv:=hb.uv
 rl:=hb.rl
 aw:=λi p n hp hn=>by
  obtain h|⟨a,h1,h2,h3⟩:=hb.aw i p n hp hn;grind;grind [qM]
 ah:=λi p n hp hn=>by
  obtain h|⟨a,h1,h2,h3⟩:=hb.ah i p n hp hn;grind;grind [qM]
 len:=λk=>by show I (Zz h' k)<=1000;rw[qM hl];exact hb.len k
 words:=hw
def Ee{h p l}(d:I l=I (Zz h p)):Zv (Xp h p l)=Zv h:=by
 unfold Xp Zz at*;split;simp_all[Zv];split;simp_all[Zv];rename_i a;split;simp_all[Zv];simp_all[Zv]
def ZbM{h p l}(a:QL h)(k:∀w∈l,ZB w):QL<|Xp h p l:=by
 have d:=a.1 1;have f:=a.1 2;have g:=a.1 3;have j:=a.1 4;grind [QL,Zz,Xp]
def Z5W{b p a n tw}(d:a+ZM n<=I (Zz b.h p.part)):I (Sp b p a n tw)=I (Zz b.h p.part):=by
 grind [Sp,ZM,XR]
def Z5X{b p a n tw}(f:QL b.h)(g:∀q∈n.data,ZB q):∀w∈Sp b p a n tw,ZB w:=by
 intro w d;unfold Sp at d;simp only[Zib,ZiN]at d;obtain(((d|d)|d)|d)|d:=d;exact f.1 _ w<|ZiH d;subst d;have:=NS ((I n.Y:Int)+I n.data)<|I n.Y;exact⟨this.1,Z0⟩;simp[XR]at d;grind [ZaF];grind;exact f.1 _ w<|ZjY d
def UF(x:Rw)(b:Bt)(i:Nat)(n:Nd)(p:Pl):Bt:=if 0<p.part then Wl b p n (IntKind.i64.wrap<|x.bd+i)else b
def UH(b:Bt)(n:Nd)(p o:Pl):Bt:=if 0<o.part/\p.part=0 then Wl b o n 0 else b
def Uj(b:Bt)(p o:Pl):Bt:=if 0<o.part/\0<p.part then {b with h:=Xp b.h o.part ((Zz b.h o.part).set o.ab.toNat<|YD b.h p)}else b
def J6(x:Rw)(b:Bt)(i:Nat):Bt:=
 let n:=(b.g.nodes[i]?).getD default;let p:=(b.aw[i]?).getD ⟨0,0⟩;let o:=(b.ah[i]?).getD ⟨0,0⟩
 Uj (UH (UF x b i n p) n p o) p o
structure Like (b b':Bt):Prop where
 g:b'.g=b.g
 aw:b'.aw=b.aw
 ah:b'.ah=b.ah
 bc:Zv b'.h=Zv b.h
 words:QL b'.h
 Z:b'.h.Z=b.h.Z
 M:b'.h.M=b.h.M
def Like.ok{b a}(o:Like b a)(n:BOk b):BOk a:=by
 let⟨q,p,d,f⟩:=a;obtain⟨g,h,j,k,l,_⟩:=o;subst g h j;exact n.keep k l
theorem Like.trans{a b c}(h:Like a b)(k:Like b c):Like a c:=⟨k.g.trans h.g,k.aw.trans h.aw,k.ah.trans h.ah,k.bc.trans h.bc,k.words,k.Z.trans h.Z,k.M.trans h.M⟩
def Z0o h p l:(Xp h p l).Z=h.Z/\(Xp h p l).M=h.M:=by
 unfold Xp;grind
def IR{b}(a:BOk b){p l}(d:I l=I (Zz b.h p))(f:∀w∈l,ZB w):Like b {b with h:=Xp b.h p l}:=
 ⟨rfl,rfl,rfl,Ee d,ZbM a.words f,(Z0o _ _ _).1,(Z0o _ _ _).2⟩
def yV{b}(a:BOk b):Like b b:=⟨rfl,rfl,rfl,rfl,a.words,rfl,rfl⟩
def IQ{b}(d:BOk b){p:Pl}{n tw}{a:Nat}(f:p.ab=a)(g:a+ZM n<=I (Zz b.h p.part))(j:∀q∈n.data,ZB q):Like b<|Wl b p n tw:=by
 unfold Wl;rw[f];exact IR d (Z5W g)<|Z5X d.words j
def BE{x b}(d:BOk b){i n p}(k:b.g.nodes[i]?=J n)(l:b.aw[i]?=J p):Like b<|UF x b i n p:=by
 unfold UF;split;rename_i f;obtain rfl|⟨a,h,o,j⟩:=d.aw i p n l k;simp at f;exact IQ d h j<|d.ug n ZgH;exact yV d
def BF{b}(d:BOk b){i:Nat}{n p o}(k:b.g.nodes[i]?=J n)(l:b.ah[i]?=J o):Like b<|UH b n p o:=by
 unfold UH;split;rename_i f;obtain rfl|⟨a,h,q,j⟩:=d.ah i o n l k;simp at f;exact IQ d h j<|d.ug n ZgH;exact yV d
def Z61{b}(a:BOk b){p o}:Like b<|Uj b p o:=by
 unfold Uj;split;refine IR a Z1 λw d=> ?_;obtain h|rfl:=Zjd d;exact a.words.1 _ w h;exact Dd _ _;exact yV a
def Z62{x b}(a:BOk b){i}(f:i<I b.g.nodes):Like b<|J6 x b i:=by
 have h:b.g.nodes[i]?=J b.g.nodes[i]:=Z1;have l:b.aw[i]?=J (b.aw[i]'(by rw[a.hl];exact f)):=Z1;have k:b.ah[i]?=J (b.ah[i]'(by rw[a.ol];exact f)):=Z1;unfold J6;simp[h,l,k];have d:=BE (x:=x) a h l;have j:=BF (p:=b.aw[i]'(by rw[a.hl];exact f)) (d.ok a) (by rw[d.g];exact h) (by rw[d.ah];exact k);exact(d.trans j).trans (Z61<|j.ok<|d.ok a)
def UG(x:Rw)(b:Bt):Nat->Bt
 |0=>b
 |i+1=>J6 x (UG x b i) i
def L6{x b}(a:BOk b):∀i,i<=I b.g.nodes->Like b (UG x b i)
 |0,_=>yV a
 |i+1,d=>by
  have h:=L6 (x:=x) a i Z0;exact h.trans<|Z62 (h.ok a) (by rw[h.g];omega)
def YG(x:Rw)(b:Bt):Hp:=
 let a:=UG x b<|I b.g.nodes
 {a.h with E:=b.g.E.map λr=>if 0<=r then YD a.h ((b.aw[r.toNat]?).getD ⟨0,0⟩)else 0}
def Z3Q{x:Rw}(hx:x.ok){b:Bt}(H:BOk b):VC xP 12 xw [Xh b,WS x]<|ZE<|YG x b:=by
 refine ZT Z1j follows Z2 RU rfl ?_;simp[MZ,XU];refine Uf 5 (I b.g.nodes) (λi=>[(2,.m<|XU<|UG x b i),(5,.v<|vi i)]) (λ_=>True) (by simp[UG,XU]) (λi=>Z1) trivial ?_;rintro i hi-;have F:=L6 (x:=x) H i hi;have L:=Zx ((i:Int)+1) (by have:=H.nn;omega) (by have:=H.nn;omega);by_cases h:i<I b.g.nodes;have f:=F.ok H;simp only[UG];have z:i< (UG x b i).g.nodes.length:=by rw[F.g];exact h
 generalize a4:UG x b i=c at*;have t:c.g.nodes[i]?=J c.g.nodes[i]:=ZhG z;have y:c.aw[i]?=J (c.aw[i]'(by rw[f.hl];exact z)):=ZhG _;have w:c.ah[i]?=J (c.ah[i]'(by rw[f.ol];exact z)):=ZhG _;unfold J6;simp only[t,y,w,Zih];generalize c.g.nodes[i]=n at*;generalize c.aw[i]'(by rw[f.hl];exact z)=p at*;generalize c.ah[i]'(by rw[f.ol];exact z)=o at*;have W:∀q∈n.Y,q< (I c.aw:Int)/\q< (I c.ah:Int):=λq X=>by
  have:=f.ptr n (ZhR t) q X;rw[f.hl,f.ol];exact⟨this,this⟩
 have kA:=BE (x:=x) f t y;have bA:=kA.ok f;have kO:=BF (p:=p) bA (by rw[kA.g];exact t) (by rw[kA.ah];exact w);have bO:=kO.ok bA;have K:I c.g.nodes=I b.g.nodes:=by rw[F.g]
 have a6:c.g=b.g:=F.g;have S:0<p.part->VC xP 29 xw [Xh c,We p,Yj n,vi<|IntKind.i64.wrap<|x.bd+i] (Xh<|Wl c p n<|IntKind.i64.wrap<|x.bd+i):=λP=>by
  obtain rfl|⟨a,M,h2,N⟩:=f.aw i p n y t;simp at P;exact IG f.bc M (by have:=f.len p.part;omega) N W
 have O:0<o.part->VC xP 29 xw [Xh c,We o,Yj n,vi 0] (Xh<|Wl c o n 0):=λP=>by
  obtain rfl|⟨a,M,h2,N⟩:=f.ah i o n w t;simp at P;exact IG f.bc M (by have:=f.len o.part;omega) N W
 have a2:p.part=0\/0<p.part:=by
  obtain rfl|⟨a,M,h2,N⟩:=f.aw i p n y t;exact .inl rfl;exact .inr Z0
 have T:o.part=0\/0<o.part:=by
  obtain rfl|⟨a,M,h2,N⟩:=f.ah i o n w t;exact .inl rfl;exact .inr Z0
 obtain u|u:=a2;obtain j|j:=T;simp[XU,h,z,K,t,y,w,Yl t,Yl y,Yl w,UF,UH,Uj,u,j,L];have a7:¬0<p.part:=Z0;have A:Like c<|Wl c o n 0:=by
  have:=BF (p:=p) f t w;unfold UH at this;rwa[ZhS ⟨j,u⟩]at this
 have a1:=O j;simp[XU,h,z,K,t,y,w,Yl t,Yl y,Yl w,UF,UH,Uj,u,j,L];generalize Wl c o n 0=d at*;obtain⟨d1,d2,d3,d4,d5,_,_⟩:=A;refine Zy a1 (by simp[Xh]) ?_;simp[XU,d1,d2,d3,t,y,w,Yl t,Yl y,Yl w,u,j,L,h];have C:¬p.part=0:=Z0;have A:Like c<|Wl c p n<|IntKind.i64.wrap<|x.bd+i:=by
  have:=BE (x:=x) f t y;unfold UF at this;rwa[ZhS u]at this
 have R:=S u;have Z:=A.ok f;obtain j|j:=T;simp[XU,h,z,K,t,y,w,Yl t,Yl y,Yl w,UF,UH,Uj,u,j,C,L];generalize Wl c p n (IntKind.i64.wrap<|x.bd+i)=d at*;obtain⟨d1,d2,d3,d4,d5,_,_⟩:=A;refine Zy R (by simp[Xh]) ?_;simp[XU,d1,d2,d3,t,y,w,Yl t,Yl y,Yl w,u,j,C,L,h];simp[XU,h,z,K,t,y,w,Yl t,Yl y,Yl w,UF,UH,Uj,u,j,C,L];generalize Wl c p n (IntKind.i64.wrap<|x.bd+i)=d at*;obtain⟨d1,d2,d3,d4,d5,_,_⟩:=A;refine Zy R (by simp[Xh]) ?_;simp[XU,d1,d2,d3,t,y,w,Yl t,Yl y,Yl w,u,j,C,L,h];obtain rfl|⟨a,M,h2,N⟩:=f.ah i o n w t;simp at j;have a5:=Z.len o.part;have B:I (Zz d.h o.part)<=Y4:=Zha;have a0:a< I (Zz d.h o.part):=by
  have:=qM d4 o.part;unfold ZM at N;omega
 refine Zy (TB (h:=d.h) (n:=o.part)) Zhz ?_;simp[B,y];refine Zy (LP (b:=⟨d.h,c.g,c.aw,c.ah⟩) Z.bc (p:=p)) Z1 ?_;simp[M,a0,w,Yl w];have G:=Fr (h:=d.h) (n:=o.part) (l:=(Zz d.h o.part).set a<|YD d.h p);rw[Zkw]at G;refine Zy G Zhz ?_;simp[L,h,d1,d2,d3];have:i=I b.g.nodes:=Z0;subst this;have Z:=F.ok H;unfold YG;generalize UG x b (I b.g.nodes)=d at*;obtain⟨d1,d2,d3,d4,d5,_,_⟩:=F;simp[XU,d1,d2,d3];refine Uf 13 (I b.g.E) (λk=>[(12,.v<|.sl ((b.g.E.take k).map λr=>vu (if 0<=r then YD d.h ((b.aw[r.toNat]?).getD ⟨0,0⟩)else 0))),(13,.v<|vi k)]) (λ_=>True) Z1 (λi=>Z1) trivial ?_;rintro k hk-;have a8:=H.rl;have Y:=Zx ((k:Int)+1) Z0 Z0;by_cases D:k<I b.g.E;have Q:b.g.E[k]?=J b.g.E[k]:=ZhG D;have a9:=H.uv _<|Zi5 D;generalize b.g.E[k]=r at*;have a3:b.g.E.take (k+1)=b.g.E.take k++[r]:=by rw[ZiG,Q];rfl
 have B:min k (I b.g.E)+1<=Y4:=Zha;by_cases P:0<=r;obtain⟨q,rfl⟩:=ZhW P;have X:b.aw[q]?=J (b.aw[q]'(by rw[H.hl];omega)):=ZhG _;generalize b.aw[q]'(by rw[H.hl];omega)=p at*;simp[D,Q,Yl Q,X,Yl X];refine Zy (LP (b:=⟨d.h,b.g,b.aw,b.ah⟩) Z.bc (p:=p)) Z1 ?_;simp[Y,B,D];rw[ZiG,Zi8,Q];simp[X];simp[D,Q,Yl Q,P,Y,B,a3,D];have:k=I b.g.E:=Z0;subst this;simp[ZE]
end Vm
namespace Vm
open Go Go.Proofs
def PIn(s:St8)(p:Pl)(sz:Nat):Prop:=p=⟨0,0⟩\/∃a:Nat,p.ab=a/\((p.part=1/\a+sz<=s.n1)\/(p.part=2/\a+sz<=s.n2))
def POl(s:St8)(p:Pl)(sz:Nat):Prop:=p=⟨0,0⟩\/∃a:Nat,p.ab=a/\((p.part=3/\a+sz<=s.n3)\/(p.part=4/\a+sz<=s.n4))
def ZaX{x cycle sz i s}:s.n1<=(X6 x cycle sz i s).n1/\s.n2<=(X6 x cycle sz i s).n2/\s.n3<=(X6 x cycle sz i s).n3/\s.n4<=(X6 x cycle sz i s).n4:=by
 grind [X6]
def PIn.mono{s t p sz}(h:PIn s p sz)(g:s.n1<=t.n1)(h2:s.n2<=t.n2):PIn t p sz:=by
 obtain h|⟨a,d,⟨f,h⟩|⟨f,h⟩⟩:=h;exact .inl h;exact .inr ⟨a,d,Z0⟩;exact .inr ⟨a,d,Z0⟩
def POl.mono{s t p sz}(h:POl s p sz)(g:s.n3<=t.n3)(h2:s.n4<=t.n4):POl t p sz:=by
 obtain h|⟨a,d,⟨f,h⟩|⟨f,h⟩⟩:=h;exact .inl h;exact .inr ⟨a,d,Z0⟩;exact .inr ⟨a,d,Z0⟩
def PN{x cycle g}(h:∀n∈g.nodes,ZM n<=9):∀i,i<=I g.nodes->∀(j:Nat) n,g.nodes[j]?=J n->
  (∀p,(Y5 x cycle g i).aw[j]?=J p->PIn (Y5 x cycle g i) p (ZM n))/\(∀p,(Y5 x cycle g i).ah[j]?=J p->POl (Y5 x cycle g i) p (ZM n))
 |0,_,j,n,l=>⟨λp a=>by simp[Y5]at a,λp a=>by simp[Y5]at a⟩
 |i+1,C,j,n,l=>by
  let⟨o,q⟩:=PN (x:=x) (cycle:=cycle) h i Z0 j n l;let⟨_,_,u,w⟩:=zh (x:=x) (cycle:=cycle) h i Z0;have f:g.nodes[i]?=J g.nodes[i]:=Z1;simp[Y5,f,Zih];generalize Y5 x cycle g i=s at*;let⟨y,z,A,B⟩:=ZaX (x:=x) (cycle:=cycle) (sz:=ZM g.nodes[i]) (i:=i) (s:=s);have t:j<I g.nodes:=ZgH;constructor;intro p a;by_cases r:j<i;have:s.aw[j]?=J p:=by
   simp[X6]at a;rwa[Zig Z0]at a
  exact(o p this).mono y z;by_cases d:j=i;subst d;simp[X6]at a;rw[Zi3 Z0,u,ZjD]at a;simp[ZhF]at a;unfold PIn;obtain k|k|⟨k,rfl⟩:=R6 x j cycle;grind [X6];grind [X6];simp_all;grind [X6,List.getElem?_eq_some_iff];intro p a;by_cases r:j<i;have:s.ah[j]?=J p:=by
   simp[X6]at a;rwa[Zig Z0]at a
  exact(q p this).mono A B;by_cases d:j=i;subst d;simp[X6]at a;rw[Zi3 Z0,w,ZjD]at a;grind [List.getElem?_cons_zero,Option.some.injEq,POl,decide,V8,WA,X6];grind [X6,List.getElem?_eq_some_iff]
def Mb l a:∀n∈(ZY l a).nodes,∀q∈n.Y,-1<=q/\q< ((ZY l a).nodes.length:Int):=by
 intro n d q f;rw[qc];simp only[ZY,Zi4]at d;obtain⟨y,_,rfl⟩:=d;simp only[Tj,Zi4]at f;obtain⟨p,_,rfl⟩:=f;exact P3
def Z6I l a:∀q∈(ZY l a).E,-1<=q/\q< ((ZY l a).nodes.length:Int):=by
 intro q d;rw[qc];simp only[ZY]at d;split at d;grind;simp only[Zi4]at d;obtain⟨p,_,rfl⟩:=d;exact P3
def Z6G l a(f:∀n∈l,∀q∈n.data,ZB q):∀n∈(ZY l a).nodes,∀q∈n.data,ZB q:=by
 intro n d q g;simp only[ZY]at d;grind [Tj,List.mem_of_mem_take]
def RE{x}(hx:x.ok)cycle:BOk (YR x cycle)/\Yf (YR x cycle).h.Z/\ZI (Zv (YR x cycle).h)=xk:=by
 let⟨w,u,y⟩:=BX x.nodes x.E;have z:=qc x.nodes x.E;have L:=Mb x.nodes x.E;have M:=Z6I x.nodes x.E;have A:=Z6G x.nodes x.E hx.data;unfold YR;generalize ZY x.nodes x.E=g at*;have t:∀n∈g.nodes,ZM n<=9:=λn K=>by grind [ZM]
 let⟨N,O,D,F⟩:=zh (x:=x) (cycle:=cycle) t (I g.nodes) Z0;have r:=PN (x:=x) (cycle:=cycle) t (I g.nodes) Z0;dsimp only;generalize Y5 x cycle g (I g.nodes)=s at*;have B:=UR (c:=x.bd) (n:=12) Z0;have C:=UR (c:=x.to) (n:=2) Z0;obtain⟨cap,q⟩:∃cap,max ((s.n1:Int)+s.n2+s.wt) ((s.n3:Int)+s.n4)+pick x.bd 12=cap:=⟨_,rfl⟩;rw[q];have G:=ZlG x.base (Z0:(9223372036854775808-2*cap)≠0);have H:=Zld x.base (Z0:0< (9223372036854775808-2*cap));generalize x.base% (9223372036854775808-2*cap)=base at*;have l:Yf (if cycle=xk/\0<s.n1 then pick x.Z s.n1 else s.n1):=by
  split;rename_i h;have:=UR (c:=x.Z) (n:=s.n1) Z0;exact⟨Z0,Z0⟩;exact⟨Z0,Z0⟩
 refine⟨⟨?_,?_,?_,?_,?_,?_,?_,?_,?_,?_,?_,?_⟩,l,?_⟩;refine⟨⟨?_,?_⟩,⟨?_,?_⟩,⟨?_,?_⟩,⟨?_,?_⟩,⟨?_,?_⟩,⟨?_,?_⟩,⟨?_,?_⟩⟩<;>simp[Zv]<;>omega;exact D;exact F;simp_all;grind;exact A;simp_all;exact u;intro i p n j f;rcases(r i n f).1 p j with h|⟨a,o,⟨d,h⟩|⟨d,h⟩⟩;grind;exact .inr ⟨a,o,.inl d,ZgI⟩;exact .inr ⟨a,o,.inr d,ZgI⟩;intro i p n j f;rcases(r i n f).2 p j with h|⟨a,o,⟨d,h⟩|⟨d,h⟩⟩;grind;exact .inr ⟨a,o,.inl d,ZgI⟩;exact .inr ⟨a,o,.inr d,ZgI⟩;grind [Zz];refine⟨λk=> ?_,Z1⟩;grind [List.replicate,ZB,Zz];refine XH.2 ?_;simp[Zv,ZlJ];omega
def QH(x:Rw):Hp:=YG x<|YR x xw
def Z2j{x:Rw}(hx:x.ok):VC xP 5 xw [WS x]<|ZE<|QH x:=by
 refine ZT Z1I follows Z2 c5 rfl ?_;simp[p5];refine Zy (ZaY hx (cycle:=xw)) (by simp[WS]) ?_;simp;refine Zy (Z3Q hx (RE hx xw).1) Z1 ?_;simp;rfl
def AH{x b}(k:BOk b)(q:Yf b.h.Z):(YG x b).ok/\Zv (YG x b)=Zv b.h/\(YG x b).Z=b.h.Z/\(YG x b).M=b.h.M:=by
 have f:=L6 (x:=x) k (I b.g.nodes) Z0;have n:=f.ok k;unfold YG;let⟨j,A,B,C,D,F,G,H,K,o,a,d⟩:=n;have t:=a 1;have u:=a 2;have y:=a 3;have z:=a 4;have w1:=d.1 1;have w2:=d.1 2;have w3:=d.1 3;have w4:=d.1 4;simp[VH,qK,NT,qL]at t u y z w1 w2 w3 w4;have p:=k.rl;refine⟨⟨j.1,j.2.1,j.2.2.1,by rw[f.Z];exact q,?_,?_,?_,?_,?_,w1,w2,w3,w4,?_⟩,f.bc,f.Z,f.M⟩;grind;grind;grind;grind;simp;omega;intro w l;simp[Zi4]at l;obtain⟨r,_,rfl⟩:=l;split;exact Dd _ _;exact⟨Z0,Z0⟩
end Vm
end
section

end
section
namespace Vm
open Go Go.Proofs
structure Ob where
 ab:Int
 size:Int
 Y:Int
 gone:Bool
 target:Int
 deriving DecidableEq,Inhabited
def ZO(o:Ob):V:=.agg [vi o.ab,vi o.size,vi o.Y,.bool o.gone,vu o.target]
@[simp]theorem Zgb(o:Ob):VJ (ZO o) 5=J (ZO o):=rfl
@[simp]theorem ZeA(o:Ob):UJ (ZO o) 0 5=J (ZO o):=rfl
@[simp]theorem Zfa(o:Ob):(ZO o).cells=[vi o.ab,vi o.size,vi o.Y,.bool o.gone,vu o.target]:=rfl
@[simp]theorem Zee(o:Ob):Y0 (ZO o) 0=J (vi o.ab):=rfl
@[simp]theorem Zef(o:Ob):Y0 (ZO o) 1=J (vi o.size):=rfl
@[simp]theorem Zeg(o:Ob):Y0 (ZO o) 2=J (vi o.Y):=rfl
@[simp]theorem Zeh(o:Ob):Y0 (ZO o) 3=J (.bool o.gone):=rfl
@[simp]theorem Zei(o:Ob):Y0 (ZO o) 4=J (vu o.target):=rfl
@[simp]theorem ZeB(o:Ob):UJ (ZO o) 1 2=J (Uz o.size o.Y):=rfl
abbrev Zk:=List Ob
@[simp]theorem ZfX(l:Zk):Xv 5 (l.map ZO)=xk:=JQ λ_=>rfl
def Wf(s:Int×Int):V:=Uz s.1 s.2
@[simp]theorem ZfS(s:Int×Int):(Wf s).cells=[vi s.1,vi s.2]:=rfl
@[simp]theorem Zge(s:Int×Int):VJ (Wf s) 2=J (Wf s):=rfl
@[simp]theorem ZeD(s:Int×Int):UJ (Wf s) 0 2=J (Wf s):=rfl
@[simp]theorem Zes(s:Int×Int):Y0 (Wf s) 0=J (vi s.1):=rfl
@[simp]theorem Zet(s:Int×Int):Y0 (Wf s) 1=J (vi s.2):=rfl
@[simp]theorem ZfZ(l:List<|Int×Int):Xv 2 (l.map Wf)=xk:=JQ λ_=>rfl
def U0(w:Int):Bool:=decide (w=0)||decide ((adr w).2=0)
def Xw(l:Z9)(gone:Bool)(ptrs:Int)(i:Nat):Bool:=
 match l with
 | []=>xk
 |w::l=>(!gone||decide (w=0))&&(!decide ((i:Int)<ptrs)||U0 w)&&Xw l gone ptrs (i+1)
def ZaK{l:Z9}{gone:Bool}{ptrs:Int}{i:Nat}{w:Int}(h:l[i]?=J w):Xw (l.drop i) gone ptrs i=((!gone||decide (w=0))&&(!decide ((i:Int)<ptrs)||U0 w)&&Xw (l.drop<|i+1) gone ptrs (i+1)):=by
 obtain⟨a,d⟩:=ZhH.1 h;rw[ZiD a,d];rfl
def Wm(shs:List<|Int×Int)(old:Bool)(at_ a:Nat)(w:Int):Option<|Ob×Nat:=
 if old=xk/\(adr w).2=0 then
  match shs[a]? with
  |none=>U
  |some s=>if Yv s.1 s.2 then J (⟨at_,s.1,s.2,xk,(adr w).1⟩,a+1)else U
 else if(ZR w).2.2=0 then J (⟨at_,(ZR w).1,(ZR w).2.1,xw,0⟩,a)else U
def DW{w:Int}(h:(ZR w).2.2=0):Yv (ZR w).1 (ZR w).2.1=xk:=by
 unfold ZR at*;grind
def qo{shs:List (Int×Int)}{old:Bool}{at_ d:Nat}{w:Int}{o:Ob}{t:Nat}(h:Wm shs old at_ d w=J (o,t)):Yv o.size o.Y=xk/\o.ab=at_:=by
 unfold Wm at h;split at h;grind;split at h;rename_i a;cases h;exact⟨DW a,rfl⟩;cases h
def Xs(ws:Z9)(shs:List<|Int×Int)(old:Bool):Nat->Nat->Nat->List Ob->List Ob×Int
 |0,_,_,_=>([],3)
 |f+1,at_,d,a=>
  match ws[at_]? with
  |none=>if d<(I shs) then([],3)else(a,0)
  |some w=>match Wm shs old at_ d w with
   |none=>([],3)
   |some (o,t)=>
    if(I ws:Int)<at_+1+o.size then([],2)
    else if Xw ((ws.drop<|at_+1).take o.size.toNat) o.gone o.Y 0=xw then([],3)
    else Xs ws shs old f (at_+1+o.size.toNat) t<|a++[o]
def ZP(ws:Z9)(shs:List<|Int×Int)(old:Bool):List Ob×Int:=Xs ws shs old (I ws+1) 0 0 []
def Kg(n:Nat)(o:Ob):Prop:=(∃a:Nat,o.ab=a/\(a:Int)+1+o.size<=n)/\Yv o.size o.Y=xk
def Z7i{shs:List (Int×Int)}{old:Bool}{at_ d:Nat}{w:Int}{o:Ob}{t:Nat}(a:ZB w)(h:Wm shs old at_ d w=J (o,t)):ZB o.target:=by
 unfold Wm at h;split at h;split at h;cases h;split at h;cases h;obtain⟨f,g⟩:=a;show 0<=(adr w).1/\(adr w).1<18446744073709551616;grind [adr];cases h;split at h;cases h;show(0:Int)<=0/\(0:Int)<18446744073709551616;omega;cases h
def Z0f{ws:Z9}{shs:List (Int×Int)}{old:Bool}(k:∀w∈ws,ZB w):∀(f at_ l:Nat) (d:Zk),(∀o∈d,Kg (I ws) o/\ZB o.target)->∀o∈(Xs ws shs old f at_ l d).1,Kg (I ws) o/\ZB o.target
 |0,_,_,_,_=>by simp[Xs]
 |f+1,at_,l,d,a=>by
  simp only[Xs];split;split;simp;exact a;rename_i w q;split;simp;rename_i o t j;split;simp;rename_i u;split;simp;refine Z0f k f _ _ _ λr g=> ?_;obtain h|h:=Zib.1 g;exact a r h;simp only[ZiN]at h;subst h;obtain⟨n,p⟩:=qo j;exact⟨⟨⟨at_,p,Z0⟩,n⟩,Z7i (k w<|ZhR q) j⟩
def Z0j{ws:Z9}{shs:List (Int×Int)}{old:Bool}(a:∀w∈ws,ZB w):∀o∈(ZP ws shs old).1,Kg (I ws) o/\ZB o.target:=Z0f a _ _ _ _ Z1
def Z0g{ws:Z9}{shs:List (Int×Int)}{old:Bool}:∀(f at_ g:Nat) (a:Zk),at_<=I ws->I a<=at_->(Xs ws shs old f at_ g a).1.length<=I ws
 |0,_,_,_,_,_=>by simp[Xs]
 |f+1,at_,g,a,k,d=>by
  simp only[Xs];split;split;simp;simp only;omega;split;simp;rename_i o t h;split;simp;rename_i l;split;simp;have j:=Yz.1 (qo h).1;refine Z0g f _ _ _ Z0 ZgJ
def Z0k{ws:Z9}{shs:List (Int×Int)}{old:Bool}:(ZP ws shs old).1.length<=I ws:=Z0g _ _ _ _ Z0 Z1
end Vm
end
section

end
section
namespace Vm
open Go Go.Proofs
def YW(h:Hp)(part at_:Int):Int:=(Y3 (Zv h) part at_).1
def YA(h:Hp)(part:Int)(l:Zk)(a:Int):Option Ob:=l.find? λo=>YW h part o.ab==a
theorem FR{h:Hp}{part a:Int}{l:Zk}{o:Ob}(d:YA h part l a=J o):o∈l:=Zkp d
def Ve(h:Hp)(ws:Z9)(low:Zk):Nat->Nat->List (Int×Int)->Option (List<|Int×Int)
 |0,_,_=>U
 |f+1,i,a=>
  match ws[i]? with
  |none=>J a
  |some w=>if(adr w).2=0 then(match YA h 1 low (adr w).1 with|none=>U|some o=>Ve h ws low f (i+1+o.size.toNat)<|a++[(o.size,o.Y)])
   else if(ZR w).2.2=0 then Ve h ws low f (i+1+(ZR w).1.toNat) a else U
def VI(h:Hp)(ws:Z9)(low:Zk):Option<|List<|Int×Int:=Ve h ws low (I ws+1) 0 []
structure Pts where
 H:List Ob
 aa:List Ob
 ah:List Ob
 ak:List Ob
 deriving Inhabited
def Pts.at(p:Pts)(k:Int):List Ob:=if k=1 then p.H else if k=2 then p.aa else if k=3 then p.ah else p.ak
@[simp]theorem Pts.mf(p:Pts):p.at 1=p.H:=rfl
@[simp]theorem Pts.ue(p:Pts):p.at 2=p.aa:=rfl
@[simp]theorem Pts.nx(p:Pts):p.at 3=p.ah:=rfl
@[simp]theorem Pts.ny(p:Pts):p.at 4=p.ak:=rfl
def XF(h:Hp):Option Pts:=
 let low:=ZP h.H [] xw;let high:=ZP h.aa [] xw
 if low.2≠0\/high.2≠0 then U else
 let p:=VI h h.ah low.1;let q:=VI h h.ak low.1;let d:=ZP h.ah (p.getD []) xk;let a:=ZP h.ak (q.getD []) xk
 if p=U\/q=U\/d.2≠0\/a.2≠0 then U else J ⟨low.1,high.1,d.1,a.1⟩
def XA(h:Hp)(p:Pts)(w one a:Int):Bool:=decide (w=0)||(decide ((adr w).2=0)&&((YA h one (p.at one) (adr w).1).isSome||(YA h a (p.at a) (adr w).1).isSome))
def Wh(o:Ob):Nat:=if o.gone then 0 else 1+o.size.toNat
def Y2(l:Zk):Nat:=(l.map Wh).sum
def Z0D{l:Zk}{i:Nat}{o:Ob}(h:l[i]?=J o):Y2 (l.take<|i+1)=Y2 (l.take i)+Wh o:=by
 simp_all[Y2,ZiG,ZiR,Zl4]
def JY{l:Zk}(h:∀o∈l,Yv o.size o.Y=xk):Y2 l<=256*I l:=by
 induction l with
 |nil=>simp[Y2]
 |cons o l a=>
  grind [Yz,Wh,Y2,List.length_cons]
def YK(p:Pts):Nat:=Y2 p.ah+Y2 p.ak
def XI(l:Zk)(a:Int):Nat:=I (l.filter λo=>o.gone&&decide (o.target=a))
def Tx(p:Pts)(a:Int):Nat:=XI p.ah a+XI p.ak a
def TS(h:Hp):Bool:=
 ZI (Zv h)&&decide (I h.E<=16)&&decide (0<=h.Z)&&decide (h.Z<=I h.H)&&
  (if h.M then decide (h.Z<I h.H)else decide (h.Z=I h.H)&&decide (I h.ah=0)&&decide (I h.ak=0))
def Uv(h:Hp)(p:Pts)(part:Int)(k:Nat):Bool:=
 let w:=((Zz h part)[k]?).getD 0;let a:=XA h p w 1 2;let from_:=XA h p w 3 4
 if 2<part then from_ else if part=1/\h.Z<=k then a||from_ else a
def qn(h:Hp)(p:Pts)(part:Int)(o:Ob):Bool:=(List.range o.Y.toNat).all λj=>Uv h p part<|o.ab.toNat+1+j
def WI(h:Hp)(p:Pts)(part:Int):Bool:=(p.at part).all<|qn h p part
def Fx{α:Type}{q:α->Bool}{l:List α}{i:Nat}{x:α}(h:l[i]?=J x):(l.take<|i+1).all q=((l.take i).all q&&q x):=by
 rw[ZiG,h,List.all_append];simp
def Fw{α:Type}{q:α->Bool}{l:List α}{i:Nat}{x:α}(h:l[i]?=J x)(a:q x=xw):l.all q=xw:=by
 grind
def RF(h:Hp)(p:Pts)(o:Ob):Bool:=decide (Tx p (YW h 1 o.ab)=1)
def SI(h:Hp)(p:Pts):Bool:=
 (!h.M||p.H.all (RF h p))&&h.E.all (λw=>XA h p w 1 2)&&WI h p 1&&WI h p 2&&WI h p 3&&WI h p 4&&decide ((I h.H:Int)+I h.aa+YK p<=h.cap)
def Yk(h:Hp):Bool:=TS h&&match XF h with
 |none=>xw
 |some p=>SI h p
def XQ{h:Hp}(a:h.ok)(k:Int):(∀w∈Zz h k,ZB w)/\I (Zz h k)<=1000000:=by
 unfold Zz;split;exact⟨a.ex,a.H⟩;split;exact⟨a.eu,a.aa⟩;split;exact⟨a.ls,a.ah⟩;exact⟨a.lc,a.ak⟩
def Z9x{h:Hp}(a:Yk h=xk):∃p,XF h=J p/\SI h p=xk/\TS h=xk:=by
 unfold Yk at a;grind
def UQ(h:Hp)(part:Int):List Ob×Int:=if Yk h=xk/\1<=part/\part<=4 then(((XF h).getD default).at part,0)else([],1)
def Uc(h:Hp):Int:=if Yk h then YK ((XF h).getD default)else 0
end Vm
end
section

end
section
namespace Vm
open Go Go.Proofs
def A6{w}(a:ZB w):ZB (adr w).1:=by
 grind [ZB,adr]
def Z3R{l a}(h:(Yg l a).2.2=0):ZI l=xk/\1<=(Yg l a).1/\(Yg l a).1<=4/\0<=(Yg l a).2.1/\(Yg l a).2.1<YI l (Yg l a).1/\a=ZC l (Yg l a).1+(Yg l a).2.1:=by
 unfold Yg at*;cases k:ZI l;grind;simp[Zla,ZiF]at h⊢;by_cases d:X1 l a 1=xk;rw[ZhS d];have:=Sn.1 d;grind;by_cases f:X1 l a 2=xk;rw[ZhS f];have:=Sn.1 f;grind;by_cases g:X1 l a 3=xk;rw[ZhS g];have:=Sn.1 g;grind;by_cases j:X1 l a 4=xk;rw[ZhS j];have:=Sn.1 j;grind;simp_all
theorem Tv{h k}(a:1<=k/\k<=4):YI (Zv h) k=I (Zz h k):=by
 have:k=1\/k=2\/k=3\/k=4:=Z0;obtain rfl|rfl|rfl|rfl:=this<;>rfl
def Hp.zero:Hp:=⟨0,0,0,xw,0,[],[],[],[],[]⟩
def zr(ws:List Int)(a:Nat):Nat->List Int
 |0=>ws
 |i+1=>(zr ws a i).set (a+i) 0
@[simp]theorem jQ ws a n:I (zr ws a n)=I ws:=by
 induction n with
 |zero=>rfl
 |succ n d=>simp[zr,d]
def Xu(h:Hp)(part:Int)(a n:Nat):Hp:= {h with H:=h.H++((Zz h part).take<|a+n).drop a}
def Re(h:Hp)(part:Int)(a n:Nat):Int×Hp×Int:=
 if I (Zz h part)<a+n then(0,Hp.zero,2)
 else if Wa (Zv h)<n then(0,Hp.zero,7)
 else
  let d:=(Xr (Y3 (Zv<|Xu h part a n) 1<|I h.H).1).1
  (d,Xp (Xu h part a n) part<|(zr (Zz h part) a n).set a d,0)
def Z2o{l k a}:ZB (Y3 l k a).1:=by
 unfold Y3;cases d:ZI l;simp[ZB];simp[ZiF];split;simp[ZB];split;simp[ZB];have:=Va d k;grind [ZB]
def Ol{a}:ZB (Xr a).1:=by
 grind [Xr,ZB]
def fwd(h:Hp)(w:Int):Int×Hp×Int:=
 if ZI (Zv h)=xw then(0,Hp.zero,1)
 else if w=0 then(0,h,0)
 else if(adr w).2≠0 then(0,Hp.zero,3)
 else if(Yg (Zv h) (adr w).1).2.2≠0 then(0,Hp.zero,6)
 else if(Yg (Zv h) (adr w).1).1<3 then(w,h,0)
 else if(adr<|(Zz h (Yg (Zv h) (adr w).1).1).getD (Yg (Zv h) (adr w).1).2.1.toNat 0).2=0 then((Zz h (Yg (Zv h) (adr w).1).1).getD (Yg (Zv h) (adr w).1).2.1.toNat 0,h,0)
 else if(ZR<|(Zz h (Yg (Zv h) (adr w).1).1).getD (Yg (Zv h) (adr w).1).2.1.toNat 0).2.2≠0 then(0,Hp.zero,3)
 else Re h (Yg (Zv h) (adr w).1).1 (Yg (Zv h) (adr w).1).2.1.toNat<|(ZR<|(Zz h (Yg (Zv h) (adr w).1).1).getD (Yg (Zv h) (adr w).1).2.1.toNat 0).1.toNat+1
end Vm
namespace Vm
open Go Go.Proofs
@[simp]theorem ZcU k a b c d e f:Y8 (.agg [.int k a,.int k b,.int k c,.int k d,.int k e,.int k f]) (.int .i64 0) 6 1 xw=J (.int k a):=rfl
@[simp]theorem Zd0 a b c d e f:Y8 (.agg [.bool a,.bool b,.bool c,.bool d,.bool e,.bool f]) (.int .i64 0) 6 1 xw=J (.bool a):=rfl
@[simp]theorem ZcV k a b c d e f:Y8 (.agg [.int k a,.int k b,.int k c,.int k d,.int k e,.int k f]) (.int .i64 1) 6 1 xw=J (.int k b):=rfl
@[simp]theorem Zd1 a b c d e f:Y8 (.agg [.bool a,.bool b,.bool c,.bool d,.bool e,.bool f]) (.int .i64 1) 6 1 xw=J (.bool b):=rfl
@[simp]theorem ZcW k a b c d e f:Y8 (.agg [.int k a,.int k b,.int k c,.int k d,.int k e,.int k f]) (.int .i64 2) 6 1 xw=J (.int k c):=rfl
@[simp]theorem Zd2 a b c d e f:Y8 (.agg [.bool a,.bool b,.bool c,.bool d,.bool e,.bool f]) (.int .i64 2) 6 1 xw=J (.bool c):=rfl
@[simp]theorem ZcX k a b c d e f:Y8 (.agg [.int k a,.int k b,.int k c,.int k d,.int k e,.int k f]) (.int .i64 3) 6 1 xw=J (.int k d):=rfl
@[simp]theorem Zd3 a b c d e f:Y8 (.agg [.bool a,.bool b,.bool c,.bool d,.bool e,.bool f]) (.int .i64 3) 6 1 xw=J (.bool d):=rfl
@[simp]theorem ZcY k a b c d e f:Y8 (.agg [.int k a,.int k b,.int k c,.int k d,.int k e,.int k f]) (.int .i64 4) 6 1 xw=J (.int k e):=rfl
@[simp]theorem Zd4 a b c d e f:Y8 (.agg [.bool a,.bool b,.bool c,.bool d,.bool e,.bool f]) (.int .i64 4) 6 1 xw=J (.bool e):=rfl
@[simp]theorem ZcZ k a b c d e f:Y8 (.agg [.int k a,.int k b,.int k c,.int k d,.int k e,.int k f]) (.int .i64 5) 6 1 xw=J (.int k f):=rfl
@[simp]theorem Zd5 a b c d e f:Y8 (.agg [.bool a,.bool b,.bool c,.bool d,.bool e,.bool f]) (.int .i64 5) 6 1 xw=J (.bool f):=rfl
end Vm
namespace Vm
open Go Go.Proofs
def ZbL{h}(A:h.ok){k l}(o:I l<=1000000)(h2:∀w∈l,ZB w):(Xp h k l).ok:=by
 let⟨a,d,f,g,p,q,r,t,j,u,x,y,z,n⟩:=A;unfold Xp;split;exact⟨a,d,f,g,o,q,r,t,j,h2,x,y,z,n⟩;split;exact⟨a,d,f,g,p,o,r,t,j,u,h2,y,z,n⟩;split;exact⟨a,d,f,g,p,q,o,t,j,u,x,h2,z,n⟩;exact⟨a,d,f,g,p,q,r,o,j,u,x,y,h2,n⟩
end Vm
end
section
namespace Vm
open Go Go.Proofs
def JT{n:Nat}{x:V}(h:Xo Tryz.prog (n+1) 3 x):∃m,x=vi m/\Yf m:=by
 obtain⟨m,rfl,a,d⟩:=Z01 Tryz.underlying3 h;exact⟨m,rfl,a,d⟩
def Z03{n:Nat}{x:V}(h:Xo Tryz.prog (n+1) 24 x):∃m,x=vu m/\ZB m:=by
 obtain⟨m,rfl,a,d⟩:=Z01 Tryz.underlying24 h;exact⟨m,rfl,a,Int.lt_of_le_of_lt d ZgV⟩
def DV{n:Nat}{x:V}(h:Xo Tryz.prog (n+2) 23 x):∃l:Z9,x=.sl (l.map vi)/\I l<=maxLen/\∀p∈l,Yf p:=
 DU Tryz.underlying23 h λy a=>JT a
def Zbu{n:Nat}{x:V}(h:Xo Tryz.prog (n+2) 28 x):∃l:Z9,x=.sl (l.map vu)/\I l<=maxLen/\∀p∈l,ZB p:=
 DU Tryz.underlying28 h λy a=>Z03 a
def Nd.an(x:Nd):Prop:=(I x.Y<=maxLen/\∀p∈x.Y,Yf p)/\I x.data<=maxLen/\∀p∈x.data,ZB p
def Zbr{n:Nat}{x:V}(h:Xo Tryz.prog (n+3) 138 x):∃a:Nd,x=Yj a/\a.an:=by
 obtain⟨q,rfl,o,d⟩:=Z02 Tryz.underlying138 h
 match q,o with
 | [a,b],_=>
   obtain⟨p,rfl,g,j⟩:=DV<|d 0 _ a rfl rfl;obtain⟨f,rfl,k,l⟩:=Zbu<|d 1 _ b rfl rfl;exact⟨⟨p,f⟩,rfl,⟨g,j⟩,k,l⟩
def Zbs{n:Nat}{x:V}(h:Xo Tryz.prog (n+4) 22 x):∃l:List Nd,x=.sl (l.map Yj)/\I l<=maxLen/\∀a∈l,a.an:=
 DU Tryz.underlying22 h λy d=>Zbr d
def Zbt{n:Nat}{x:V}(h:Xo Tryz.prog (n+5) 26 x):∃r:Rw,x=WS r/\r.ok:=by
 obtain⟨F,rfl,B,j⟩:=Z02 Tryz.underlying26 h
 match F,B with
 | [a,b,c,d,e,f,g],_=>
   obtain⟨C,rfl,_,o⟩:=Zbs<|j 0 _ a rfl rfl;obtain⟨D,rfl,_,t⟩:=DV<|j 1 _ b rfl rfl;obtain⟨q,rfl,_,u⟩:=DV<|j 2 _ c rfl rfl;obtain⟨d,rfl,w⟩:=Z03<|j 3 _ d rfl rfl;obtain⟨e,rfl,y⟩:=JT<|j 4 _ e rfl rfl;obtain⟨f,rfl,z⟩:=JT<|j 5 _ f rfl rfl;obtain⟨g,rfl,A⟩:=JT<|j 6 _ g rfl rfl;exact⟨⟨C,D,q,d,e,f,g⟩,rfl,λn k p l=>(o n k).1.2 p l,λn k p l=>(o n k).2.2 p l,t,u,w,y,z,A⟩
def own:ownKnob Tryz.prog.godebug=U:=Z2
def laidOut:laidOutB Tryz.prog=xk:=Z2
end Vm
end
section
namespace Vm
open Go Go.Conc Go.ConcN
section
section
variable {P:Z6}{Stop:Z8}{b:Zg}{k:Zo}{cs:Z7}{a:Act}{w:Z3}
def Walk.cr{x y:Code}(h:Walk P Stop (b.at a<|.code x:: .code y::k) cs w):Walk P Stop (b.at a<|.code (.seq x y)::k) cs w:=.go (λw=>stepG_seq) h
def Walk.region{id:Nat}{ops:Zl}(h:Walk P Stop (b.at a<|.inRegion ops (List.range ops.size)::k) cs w):Walk P Stop (b.at a<|.code (.region id ops xw)::k) cs w:=.go (λw=>stepG_region) h
def Walk.gd{ops:Zl}(h:Walk P Stop (b.at a k) cs w):Walk P Stop (b.at a<|.inRegion ops []::k) cs w:=.go (λw=>stepG_region_end) h
def Walk.val{ops:Zl}{i:Nat}{rest:Zc}{o:Oper}{v:Zb}(q:ops[i]?=J o)(r:Region.wanted o (yielded ops a.tmps)=xk)(p:b.kind≠.early)(n:QY P o.op=xk)(j:∀g:Z3,g.heap=w.heap->(execOp a.eval o).run P g=.ok (.value v) g)
  (h:Walk P Stop (b.at (a.put o.dst v)<|.inRegion ops rest::k) cs w):Walk P Stop (b.at a<|.inRegion ops (i::rest)::k) cs w:=by
 refine .one λd=> ?_;have f:EvsB (xz<|xj<|Yc<|(execOp a.eval o).run P<|w.at d)<|listed P b.fn a o<|w.at d:=λe l=>GD n a (w.at d) e<|mem_listed l;rw[j (w.at d) rfl]at f;exact⟨_,_,_,_,stepG_value q r p<|j (w.at d) rfl,ZhL _,f,h.at d⟩
def Walk.chan{ops:Zl}{i:Nat}{rest:Zc}{o:Oper}{t p:Zd}{dir:ChanDir}{inf:TypeInfo}{f:IntKind}(z:ops[i]?=J o)(B:Region.wanted o (yielded ops a.tmps)=xk)(y:b.kind≠.early)(j:o.op=.makeChan t (.const<|.int f 0))(l:P.underlying t=J (.chan dir p))(g:P.info? p=J inf)
  (h:Walk P Stop (b.at (a.put o.dst<|.chan<|J<|xz<|xj w)<|.inRegion ops rest::k) cs<|w.alloc<|.chan 0 #[] xw 0 0 xw):Walk P Stop (b.at a<|.inRegion ops (i::rest)::k) cs w:=by
 refine .one λd=> ?_;have n:execOp a.eval o=(do pure (.value<|<-Instr.makeChan t (.int f (0:Nat))):Sem Next):=by unfold execOp;simp only[j];rfl
 have A:(execOp a.eval o).run P (w.at d)=.ok (.value<|.chan<|J<|xz<|xj w) ((w.alloc<|.chan 0 #[] xw 0 0 xw).at d):=by
  rw[n];simp only[Ziu,run_makeChan (w:=w.at d) l g f 0 Z0 Z0,Zis];rfl
 have x:(execOp a.eval o).events P (w.at d) #[]=#[]:=by
  rw[n];have q:=events_makeChan (P:=P) (w:=w.at d) l g f 0 Z0 Z0 #[];have r:(Instr.makeChan t<|.int f (0:Nat)).runT P (w.at d) #[]=(.ok (.chan<|J<|xz<|xj w)<|(w.alloc<|.chan 0 #[] xw 0 0 xw).at d, #[]):=by
   refine Zkn ?_ q;rw[ZjP];exact run_makeChan (w:=w.at d) l g f 0 Z0 Z0
  show((Sem.bind _ _).runT P (w.at d) #[]).2=_;rw[ZjT,r];rfl
 refine⟨_,_,_,_,stepG_value z B y A,by show xz (xj w)<=xz (xj<|w.alloc _);simp,λe u=> ?_,h.at d⟩;have:=mem_listed u;simp_all
def Walk.uj{fr B:Zg}{f:Zi}(T:∀w:Z3,stepG P xk (G fr cs) w=.spawn (G B cs) f w #[])
  (H:∀(n d:Nat) (gs:Zf) (sl:Option<|Nat×Nat) (t:Trace) (q:Zj),0<n->gs.size=n+1->gs[0]?=J (G B cs)->gs[n]?=J f->YJ P n gs q->(∀Z OB M,TI n Z OB M (xz<|xj w) t)->Win P (Et P Stop) gs (w.at d) sl t):Walk P Stop fr cs w:=by
 intro d0 gs sl t q hl N o;have R:∀(a:Zf) g,a[a.size]? ≠J g:=λa g e=>by
  simp_all
 refine skip hl (λi g O r=> ?_) ⟨0,_,.inl rfl,N,rfl⟩ λa d L q' i g a1 z Q O a2 a0=> ?_;obtain rfl|rfl:=O;rw[N]at r;cases r;exact⟨awake_of<|.inl rfl,λg1 g2 d=>woken_run rfl⟩;simp_all;obtain rfl|rfl:=O;have C:a[0]?=J (G fr cs):=by rw[z 0<|.inl rfl];exact N
 have F:0<a.size:=(ZhN.1 C).1;have u:=runT_crowd_spawn (P:=P) (sl:=L) (i:=0) (w:=w.at d) C<|T<|w.at d;refine⟨_,_,_,_,u,?_⟩;generalize hx:({g:=0,fn:=(G fr cs).frame.fn,pos:=(G fr cs).frame.place,act:=.go a.size}:MemOp)=x;generalize hy:({g:=a.size,fn:=f.frame.fn,pos:=(G fr cs).frame.place,act:=.start}:MemOp)=y;have D:((MemOp.ofEvents 0 (G fr cs).frame.fn (G fr cs).frame.place #[]).push x).push y=#[x,y]:=by simp[MemOp.ofEvents]
 rw[D];have W:x.g=0/\x.act=.go a.size:=by rw[<-hx];exact⟨rfl,rfl⟩
 have X:y.g=a.size/\y.act=.start:=by rw[<-hy];exact⟨rfl,rfl⟩
 refine H a.size d _ L _ q' F Z1 ?_ ZgH (λj g hj a3 r=> ?_) λZ OB M=> ?_;grind;rw[Zk4]at r;simp only[ZjZ]at r;rw[ZhP Z0,ZiA Z0]at r;exact Q j g hj Z0 r;have t0:TI a.size (λ_=>True) (λ_=>False) M (xz<|xj w) t:=⟨o.fo,o.di,o.H,λi op x l k A=>.inl<|o.ik i op x l k A,λi op x l k A=>.inr<|.inr ⟨λ_=>by simp_all[M9,trivial],λb _ h=>h⟩⟩
 have Y:=t0.comm (ZhL _) #[x,y] (λop S=>by
  have:op=x\/op=y:=by simpa using S
  obtain rfl|rfl:=this;simp_all[MemAct.touch?];simp_all[MemAct.touch?])
 have K:∀(i:Nat) (op:MemOp) (p:Touch),(t++ #[x,y])[i]?=J op->op.act.touch?=J p->t[i]?=J op:=λi op p l k=>by
  obtain⟨_,h⟩|⟨_,h⟩:=getElem?_append_cases l;exact h;have:op=x\/op=y:=Zhv;obtain rfl|rfl:=this;simp_all[MemAct.touch?];simp_all[MemAct.touch?]
 refine⟨Y.fo,Y.di,Y.H,λi op p l k A=>.inl<|(o.ik i op p (K i op p l k) k A).app _,λi op p l k A=>.inr<|.inl ?_⟩;exact fork_knows W X (o.di 0) (o.di _)<|o.ik i op p (K i op p l k) k A;simp_all
def Walk.uk{fr o:Zg}{f:Zi}{c:Nat}{KA KB OA0:Z4}{StopA:(Nat->Prop)->Goroutine->World->Prop}{vs:Zm}{z:Zb}(C:∀w:Z3,stepG P xk (G fr cs) w=.spawn (G o cs) f w #[])
  (Q:Play P xk c KA StopA (vs.map .recv++[.closed z]) OA0 (G o cs) w) (R:Play P xw c KB (UX P c) (vs.map .send) (λ_=>False) f w) (p:w.heap[c]?=J (.chan 0 #[] xw 0 0 xw))
  (la:∀b,OA0 b->b<xz (xj w)) (ka:∀b,KA b->b<xz (xj w)) (kb:∀b,KB b->b<xz (xj w)) (H:∀b,OA0 b->¬KB b) (N:¬OA0 c) (x:¬KA c) (y:¬KB c)
  (r:∀u a j,StopA u a j->xz (xj w)<=xz (xj j)->j.tape=w.tape->(j.os,j.output)=(w.os,w.output)->(∀b,u b->(OA0 b\/xz (xj w)<=b)/\b<xz (xj j))->(∀b,b<xz (xj w)->¬OA0 b->b≠c->j.heap[b]?=w.heap[b]?)->∃l k,a=G l k/\Walk P Stop l k j):Walk P Stop fr cs w:=by
 refine .uj C λn d gs sl t q X D O B W F=> ?_;have S:Cfg P n c KA KB OA0 (w.at d) OA0 (λ_=>False) gs (w.at d) t q:=
  ⟨X,W,F _ _ _,la,λ_ h=>h.elim,ka,kb,λ_ _ h=>h,H,N,x,y,(ZhN.1 p).1,ZhL _,rfl,rfl,λ_ h=>.inl h,λ_ h=>h.elim,λ_ _ _ _=>rfl⟩
 have Y:=(Z83 (P:=P) (n:=n) (KB:=KB) (OA0:=OA0) (w0:=w.at d) Q).tn vs z (λ_=>False) f gs (w.at d) sl t q 0 0 xw rfl S D O B (Rely.at _ _ _ d) (.run<|R.gg<|Rely.at _ _ _ d) p;refine Y.bind λA w1 K t1 ⟨M,u,OB,q1,Z,k1,k2,g,k4,k5⟩=> ?_;obtain⟨l,k,rfl,T⟩:=r u M w1 k2 g.b0 g.tape g.os (λb L=>⟨g.oa b L,g.la b L⟩) g.fr;exact T w1.drawn A K t1 q1 k4 Z ⟨g.ti.fo,g.ti.di,g.ti.H,k5⟩
end
end
end Vm
end
section
namespace Vm
open Go Go.Conc
section
section
variable {Q:Z6}{c:Nat}{Post:Z8}{es:List Ev}{fr fr':Zg}{cs cs':Z7}{w w':Z3}
def LS.br:∀ {es:List Ev} {fr fr':Zg} {cs cs':Z7} {w w':Z3},Steps Q (lone fr (cs++[YN Q]) w) (lone fr' (cs'++[YN Q]) w')->LS Q c Post es fr' cs' w'->LS Q c Post es fr cs w
 | [],_,_,_,_,_,_,h,⟨n,a,c2,w2,d,f⟩=>let⟨m,g⟩:=Steps.trans h ⟨n,d⟩;⟨m,a,c2,w2,g,f⟩
 |e::es,_,_,_,_,_,_,h,⟨n,a,c2,w2,d,f⟩=>let⟨m,g⟩:=Steps.trans h ⟨n,d⟩;⟨m,a,c2,w2,g,f⟩
def LS.ev{e:Ev}(h:VM Q c e fr)(k:LS Q c Post es (Xy e fr) cs w):LS Q c Post (e::es) fr cs w:=⟨0,fr,cs,w,rfl,h,k⟩
def LS.cz(h:Post fr cs w):LS Q c Post [] fr cs w:=⟨0,fr,cs,w,rfl,h⟩
end
def Eg{P:Z6}{ops:Zl}{w:Z3}{Q Q':Act->Prop}(h:∀a,Q a->Q' a):∀(l:List Oper) (a:Act),wpStill P ops w Q l a->wpStill P ops w Q' l a
 | [],a,d=>h a d
 |o::l,a,d=>by
  simp only[wpStill]at d⊢;split;rename_i f;rw[ZhS f]at d;exact Oper.still_mono (λa=>Eg h l a) d;rename_i f;rw[ZhP f]at d;exact Eg h l _ d
def Yp:Code->List Nat->Code
 |c,[]=>c
 |.seq a _,0::l=>Yp a l
 |.seq _ b,_::l=>Yp b l
 |.cond _ a _,0::l=>Yp a l
 |.cond _ _ b,_::l=>Yp b l
 |.block _ a,_::l=>Yp a l
 |.loop a,_::l=>Yp a l
 |.scope a,_::l=>Yp a l
 |c,_=>c
def Lp:Code->Array Oper
 |.region _ ops _=>ops
 |_=> #[]
def jR(Q:Z6)(c:Nat)(Post:Z8)(es:List Ev)(b:Zg)(k:Zo)(cs:Z7):Exit->Act->World->Prop
 |.normal,a,w=>LS Q c Post es (b.at a k) cs w
 |.exit id,a,w=>∃k',exitTo id k=J k'/\LS Q c Post es (b.at a k') cs w
 |.ret,a,w=>∀d,LS Q c Post es {b.at a d with mode:=.returning} cs w
 |_,_,_=>False
def SC(Q:Z6)(c:Nat)(x:Code)(R:List Ev->Exit->Act->World->Prop)(es:List Ev)(a:Act)(w:Z3):Prop:=
 ∀(Post:Z8) (b:Zg) (k:Zo) (cs:Z7),(∀d e f w',R d e f w'->jR Q c Post d b k cs e f w')->LS Q c Post es (b.at a<|.code x::k) cs w
def ST(Q:Z6)(c:Nat)(ops:Zl)(R:List Ev->Exit->Act->World->Prop)(l:Zc)(es:List Ev)(a:Act)(w:Z3):Prop:=
 ∀(Post:Z8) (b:Zg) (k:Zo) (cs:Z7),(∀d e f w',R d e f w'->jR Q c Post d b k cs e f w')->LS Q c Post es (b.at a<|.inRegion ops l::k) cs w
section
variable {Q:Z6}{c:Nat}{R R':List Ev->Exit->Act->World->Prop}{es:List Ev}{a:Act}{w:Z3}{x y:Code}
variable {ops:Zl}{l:Zc}
def SC.ui{id:Nat}(h:∀t,ST Q c ops R (Region.schedule (Q.follows .mixedOrders) ops t) es a {w with drawn:=w.drawn+1}):SC Q c (.region id ops xk) R es a w:=λPost b k cs d=>LS.br (.one step_region_draw)<|h _ Post b k cs d
def ST.nil(h:R es .normal a w):ST Q c ops R [] es a w:=λPost b k cs d=>LS.br (.one step_region_end)<|d _ _ _ _ h
def ST.te{i:Nat}(g:((ops[i]?).map (Region.wanted · (yielded ops a.tmps))).getD xw=xw)(f:ST Q c ops R l es (a.put ((ops[i]?).bind (·.dst)) xy) w):ST Q c ops R (i::l) es a w:=λPost b k cs d=>
 LS.br (.one<|step_op_skip g) (f Post b k cs d)
def ST.still{i:Nat}{K:Act->Prop}(h:stOp Q ops w i K a)(t:∀a,K a->ST Q c ops R l es a w):ST Q c ops R (i::l) es a w:=by
 unfold stOp at h;cases q:ops[i]? with
 |none=>
  rw[q]at h;refine .te (by simp[q]) ?_;simp_all[Option.bind_none,Act.put]
 |some o=>
  rw[q]at h;dsimp only at h;by_cases u:Region.wanted o (yielded ops a.tmps)=xk;rw[ZhS u]at h;unfold Oper.still at h;intro Post b k cs r;have A:=stepG_op (P:=Q) (b:=b) (k:=k) (cs:=cs++[YN Q]) (w:=w) (rest:=l) q u;have y:∀v,(b.at a<|.inRegion ops (i::l)::k).finish v=b.at (a.put o.dst v) (.inRegion ops l::k):=λv=>by grind [Frame.finish_at]
  revert h
  cases B:(execOp a.eval o).run Q w with
  |halt x w'=>exact False.elim
  |ok n w'=>
   cases n<;>first|exact False.elim|skip
   rename_i v;rintro⟨rfl,h⟩;refine LS.br (.one<|Zlc ?_)<|t _ h Post b k cs r;simp_all[stepG.apply];rintro⟨rfl,h⟩;refine LS.br (.one<|Zlc ?_)<|t _ h Post b k cs r;simp_all[stepG.apply];rename_i f args;rintro⟨rfl,v,z,h⟩;obtain⟨e,j,fr,⟨rfl,rfl⟩,g,_,p⟩:=z<|b.at a (.inRegion ops (i::l)::k)::(cs++[YN Q]);have d:step Q (lone (b.at a<|.inRegion ops (i::l)::k) (cs++[YN Q]) j)=.next (lone (Frame.enter Q f args .normal) (b.at a (.inRegion ops (i::l)::k)::(cs++[YN Q])) j):=
    Zlc (by simp_all[stepG.apply,Frame.at])
   refine LS.br (.head d<|g.trans<|.one ?_)<|t _ h Post b k cs r;grind [step_leave_returned]
  rw[ZhP u]at h;refine .te ZgI ?_;simp_all
def ST.ev{i:Nat}{o:Oper}{e:Ev}(A:ops[i]?=J o)(G:Region.wanted o (yielded ops a.tmps)=xk)(y:match e with
   |.recv _|.closed _=>∃t f d h inf z,o.op=.recv t f xk/\ZZ f=xk/\a.eval f=.chan (J c)/\Q.underlying t=J (.chan d h)/\Q.info? h=J inf/\inf.zero=J z/\∀B,e=.closed B->B=z
   |.send v=>∃f x,o.op=.send f x/\ZZ f=xk/\ZZ x=xk/\a.eval f=.chan (J c)/\a.eval x=v)
  (F:ST Q c ops R l es (a.put o.dst e.val) w):ST Q c ops R (i::l) (e::es) a w:=λPost b k cs D=>by
 refine LS.ev ⟨ops,i,l,k,o,rfl,rfl,A,G,?_⟩ ?_;have g:∀x,(b.at a<|.inRegion ops (i::l)::k).eval x=a.eval x:=Frame.eval_at b a _;cases e with
 |recv v=>obtain⟨t,f,d,h,inf,z,j,n,p,q,r,u,_⟩:=y;exact⟨t,f,d,h,inf,z,j,n,by rw[g];exact p,q,r,u⟩
 |closed v=>obtain⟨t,f,d,h,inf,z,j,n,p,q,r,u,C⟩:=y;exact⟨t,f,d,h,inf,j,n,by rw[g];exact p,q,r,by rw[C v rfl];exact u⟩
 |send v=>obtain⟨f,x,j,n,p,q,r⟩:=y;exact⟨f,x,j,n,p,by rw[g];exact q,by rw[g];exact r⟩
 have:Xy e (b.at a<|.inRegion ops (i::l)::k)=b.at (a.put o.dst e.val) (.inRegion ops l::k):=by
  unfold Xy;rw[Zkj,A];rfl
 rw[this];exact F Post b k cs D
def ST.head{md:Region.Mode}{n g:Nat}{L:Array Bool->Act->Prop}:∀(f t:Nat) (listed:Array Bool) (a:Act),wpAnyL Q md ops w n L f listed a->(∀listed a t,L listed a->ST Q c ops R (Region.linearise.go md ops g t listed []) es a w)->
  ST Q c ops R (Region.linearise.go md ops (f+g) t listed []) es a w
 |0,t,listed,a,h,j=>by rw[Zit];exact j _ _ _ h
 |f+1,t,listed,a,h,j=>by
  obtain⟨p,q⟩:=h;rw[show f+1+g=(f+g)+1 by omega];simp only[Region.linearise.go]
  change ST Q c ops R (match(Region.ready md ops listed)[t% I (Region.ready md ops listed)]? with
   |some i=>Region.linearise.go md ops (f+g) (t / I (Region.ready md ops listed)) (listed.setIfInBounds i xk) [i]
   |none=>[].reverse) es a w
  cases k:(Region.ready md ops listed)[t% I (Region.ready md ops listed)]? with
  |none=>
   exfalso;have d:0< I (Region.ready md ops listed):=Zku.2 p;have:=ZjV.1 k;have:=ZkY t d;omega
  |some i=>
   simp only[];rw[linearise_go_acc,Zlz,ZlM];exact ST.still (q i<|ZhR k).2 λl o=>ST.head f _ _ l o j
def ST.iy{n:Nat}{listed:Array Bool}{t:Nat}(h:Region.seqB .any ops 1 n listed=xk)(d:ST Q c ops R [n] es a w):ST Q c ops R (Region.linearise.go .any ops 1 t listed []) es a w:=by
 simp only[Region.seqB,ZhJ,Zid]at h;simp only[Region.linearise.go]
 change ST Q c ops R (match(Region.ready .any ops listed)[t% I (Region.ready .any ops listed)]? with
   |some i=>[i]
   |none=>[]) es a w
 grind
def SC.iy{id n:Nat}{l:List Oper}(B:Q.follows .mixedOrders=xk)(u:Region.lexTailB .any l.toArray n=xk)(q:I l=n+1)(h:wpStill Q l.toArray {w with drawn:=w.drawn+1} (λp=>ST Q c l.toArray R [n] es p {w with drawn:=w.drawn+1}) (l.take n) a):SC Q c (.region id l.toArray xk) R es a w:=by
 refine SC.ui λt=> ?_;simp only[Region.lexTailB,ZhJ,Zid]at u;obtain⟨⟨⟨⟨k,y⟩,D⟩,z⟩,f⟩:=u;have C:n<I l:=by simpa using y
 have r:I (l.take n)=n:=ZgJ;have A:l.toArray.size-n=1:=ZgJ;rw[A]at f;have o:HeadInv .any l.toArray n<|Array.replicate l.toArray.size xw:=
  ⟨Z1,λj M _ G=>(by grind [getD_replicate_false]),λt _ K=>getD_in ZgH<|getD_replicate_false _ _⟩
 have H:=wpAnyL_lex (md:=.any) (g:=1) k D z y (l.take n) 0 _ a (λj F=>by
  simp_all) Z0 o ZgI h
 simp only[Region.schedule,B,Bool.true_or,ZiC,Region.linearise];have e:l.toArray.size=I (l.take n)+1:=by rw[r];simpa using q
 rw[e];exact ST.head (L:=λd p=>Region.seqB .any l.toArray 1 n d=xk/\ST Q c l.toArray R [n] es p {w with drawn:=w.drawn+1}) _ t _ a (by rw[<-e];exact H) λlisted p N x=>ST.iy x.1 x.2
end
section
variable {Q:Z6}{c:Nat}{Post:Z8}{es:List Ev}{a:Act}{w:Z3}{x y:Code}{b:Zg}{k k':Zo}{cs:Z7}
def LS.cr(h:LS Q c Post es (b.at a<|.code x:: .code y::k) cs w):LS Q c Post es (b.at a<|.code (.seq x y)::k) cs w:=LS.br (.one step_seq) h
def LS.oj{o:Operand}(hc:a.eval o=.bool xk)(h:LS Q c Post es (b.at a<|.code x::k) cs w):LS Q c Post es (b.at a<|.code (.cond o x y)::k) cs w:=LS.br (.one<|step_cond hc) h
def LS.oi{o:Operand}(hc:a.eval o=.bool xw)(h:LS Q c Post es (b.at a<|.code y::k) cs w):LS Q c Post es (b.at a<|.code (.cond o x y)::k) cs w:=LS.br (.one<|step_cond hc) h
def LS.skip(h:LS Q c Post es (b.at a k) cs w):LS Q c Post es (b.at a<|.code .skip::k) cs w:=LS.br (.one step_skip) h
def LS.block{id:Nat}(h:LS Q c Post es (b.at a<|.code x:: .inBlock id::k) cs w):LS Q c Post es (b.at a<|.code (.block id x)::k) cs w:=LS.br (.one step_block) h
def LS.inBlock{id:Nat}(h:LS Q c Post es (b.at a k) cs w):LS Q c Post es (b.at a<|.inBlock id::k) cs w:=LS.br (.one step_inBlock) h
theorem LS.inLoop(h:LS Q c Post es (b.at a<|.code x:: .inLoop x::k) cs w):LS Q c Post es (b.at a<|.inLoop x::k) cs w:=LS.br (.one step_inLoop) h
def LS.exit{id:Nat}(d:exitTo id k=J k')(h:LS Q c Post es (b.at a k') cs w):LS Q c Post es (b.at a<|.code (.exit id)::k) cs w:=LS.br (.one<|step_exit d) h
def LS.oy(I:Nat->List Ev->Act->World->Prop){n:Nat}(d:I n es a w)(f:∀n es a w,I n es a w->(∀m es a w,m<n->I m es a w->LS Q c Post es (b.at a<|.inLoop x::k) cs w)->LS Q c Post es (b.at a<|.code x:: .inLoop x::k) cs w):LS Q c Post es (b.at a<|.code (.loop x)::k) cs w:=by
 have key:∀n es a w,I n es a w->LS Q c Post es (b.at a<|.code x:: .inLoop x::k) cs w:=by
  intro n;induction n using Nat.strongRecOn with
  |_ n g=>grind [inLoop]
 exact LS.br (.one step_loop)<|key n es a w d
def LS.wp{R:Zh}(h:x.wp Q R a w)(n:∀e f w',R e f w'->jR Q c Post es b k cs e f w'):LS Q c Post es (b.at a<|.code x::k) cs w:=by
 obtain⟨e,f,w',q,r⟩:=h b k<|cs++[YN Q];have g:=n e f w' q;cases e with
 |normal=>exact LS.br r g
 |exit id=>obtain⟨k',j,l⟩:=g;exact LS.br (r k' j) l
 |ret=>obtain⟨d,r⟩:=r;exact LS.br r<|g d
 |_=>exact g.elim
def LS.dk(h:∀K:Zq,(∀a w,LS Q c Post es (b.at a k) cs w->K a w)->x.wp Q (λe a w=>e=.normal/\K a w) a w):LS Q c Post es (b.at a<|.code x::k) cs w:=
 LS.wp (h _ λ_ _ q=>q) λe g w' ⟨d,f⟩=>by subst d;exact f
def LS.send{id n:Nat}{l:List Oper}{v:Zb}(z:Q.follows .mixedOrders=xk)(x:Region.lexTailB .any l.toArray n=xk)(q:I l=n+1){o:Oper}{g j:Operand}(B:l[n]?=J o)(y:o.guard=U)(p:o.op=.send g j)(u:ZZ g=xk)(h2:ZZ j=xk)
  (h:wpStill Q l.toArray {w with drawn:=w.drawn+1} (λd=>d.eval g=.chan (J c)/\d.eval j=v/\LS Q c Post es (b.at (d.put o.dst xy) k) cs {w with drawn:=w.drawn+1}) (l.take n) a):LS Q c Post (.send v::es) (b.at a<|.code (.region id l.toArray xk)::k) cs w:=
 SC.iy (R:=λf e d w'=>e=.normal/\LS Q c Post f (b.at d k) cs w') z x q (Eg (λd ⟨r,t,A⟩=>ST.ev (o:=o) ZgH (by simp[Region.wanted,y]) ⟨g,j,p,u,h2,r,t⟩<|.nil ⟨rfl,A⟩) _ _ h) Post b k cs λf e d w' ⟨r,t⟩=>by subst r;exact t
def LS.region{id:Nat}{ops:Zl}(h:LS Q c Post es (b.at a<|.inRegion ops (List.range ops.size)::k) cs w):LS Q c Post es (b.at a<|.code (.region id ops xw)::k) cs w:=LS.br (.one step_region) h
def LS.value{ops:Zl}{i:Nat}{l:Zc}{o:Oper}{v:Zb}{w':Z3}(g:ops[i]?=J o)(j:Region.wanted o (yielded ops a.tmps)=xk)(h:(execOp a.eval o).run Q w=.ok (.value v) w')(f:LS Q c Post es (b.at (a.put o.dst v)<|.inRegion ops l::k) cs w'):LS Q c Post es (b.at a<|.inRegion ops (i::l)::k) cs w:=by
 have d:(b.at a<|.inRegion ops (i::l)::k).finish v=b.at (a.put o.dst v) (.inRegion ops l::k):=by grind [Frame.finish_at]
 refine LS.br (.one<|Zlc ?_) f;simp_all[stepG_op,stepG.apply]
def LS.gd{ops:Zl}(h:LS Q c Post es (b.at a k) cs w):LS Q c Post es (b.at a<|.inRegion ops []::k) cs w:=LS.br (.one step_region_end) h
def LS.tg{ops:Zl}{i:Nat}{l:Zc}{o:Oper}{e:Ev}(n:ops[i]?=J o)(p:Region.wanted o (yielded ops a.tmps)=xk)(q:match e with
   |.recv _|.closed _=>∃t f d g inf z,o.op=.recv t f xk/\ZZ f=xk/\a.eval f=.chan (J c)/\Q.underlying t=J (.chan d g)/\Q.info? g=J inf/\inf.zero=J z/\∀h,e=.closed h->h=z
   |.send v=>∃f x,o.op=.send f x/\ZZ f=xk/\ZZ x=xk/\a.eval f=.chan (J c)/\a.eval x=v)
  (r:LS Q c Post es (b.at (a.put o.dst e.val)<|.inRegion ops l::k) cs w):LS Q c Post (e::es) (b.at a<|.inRegion ops (i::l)::k) cs w:=by
 refine LS.ev ⟨ops,i,l,k,o,rfl,rfl,n,p,?_⟩ ?_;have j:∀x,(b.at a<|.inRegion ops (i::l)::k).eval x=a.eval x:=Frame.eval_at b a _;grind;simp_all[Xy,Zkj]
end
end
end Vm
end
section
namespace Vm
open Go Go.Proofs
noncomputable def ofC:Code:=match Tryz.f23.body with|some c=>c|none=>.skip
def Dy(f:Zn):Option<|List OT:=if f=45 then J [.fz,.mem [.fz],.mem [.fz]]else sig f
def Z0c:List Nat:=[0,1,2,3,16,4,5,6,7,23,25,8,24,29,9,10,48,47,49,12,46,13]
def ZbD:List Nat:=[15,63,76,79]
def vf(P:Z6):FC:= {P,ix:=pos<|Z0c++ZbD,fresh,sig:=Dy,tr:=[3],fix:=[4,23],n:=82,keep:=Z0c}
def qX:SS:=[(0,.fz)]
def r0N:SS:=[(0,.fz),(1,(.mem [.fz,.fz,.fz,.fz,.fz,.fz,.fz,.fz,.fz,.fz])),(2,(.mem [.nil,.nil])),(3,.fz)]
def r0:Stm:=
(.ao ⟨[],[],[(1,.m [(.ae (.sz (.s 0) 10) 0),(.ae (.sz (.s 0) 10) 1),(.ae (.sz (.s 0) 10) 2),(.ae (.sz (.s 0) 10) 3),(.ae (.sz (.s 0) 10) 4),(.ae (.sz (.s 0) 10) 5),(.ae (.sz (.s 0) 10) 6),(.ae (.sz (.s 0) 10) 7),(.ae (.sz (.s 0) 10) 8),(.ae (.sz (.s 0) 10) 9)]),(2,.m [(.c<|.sl []),(.c<|.sl [])]),(3,.v<|.c<|.int .i64<|0)]⟩)
def r0c:comp (vf<|YY Tryz.prog) (Yp ofC [0]) qX=J (r0,⟨J r0N,[],[]⟩):=Z2
def rXS:SS:=[(0,.fz),(1,(.mem [.fz,.fz,.fz,.fz,.fz,.fz,.fz,.fz,.fz,.fz])),(2,(.mem [.nil,.nil])),(3,.fz)]
def Oz:SS:=[(0,.fz),(1,(.mem [.fz,.fz,.fz,.fz,.fz,.fz,.fz,.fz,.fz,.fz])),(2,(.mem [.nil,.nil])),(3,.fz),(16,.fz)]
def D7:SS:=[(0,.fz),(1,(.mem [.fz,.fz,.fz,.fz,.fz,.fz,.fz,.fz,.fz,.fz])),(2,(.mem [.nil,.nil])),(3,.fz),(16,.fz)]
def rX:Stm:=
(.seq
(.ao ⟨[.call 22 [] (.id 8) xw xw [(.mm 1 0 10)]],[],[(4,.v<|.un .not<|.s 22)]⟩)
(.cond (.s 4)
 (.seq
 (.ao ⟨[],[([],(.ag [(.c<|.sl []),(.c<|.sl [])]))],[(2,.m [(.c<|.sl []),(.c<|.sl [])]),(3,.v<|.c<|.int .i64<|1)]⟩)
 .ret)
 .skip))
def rXc:comp (vf<|YY Tryz.prog) (Yp ofC [1,0]) rXS=J (rX,⟨J Oz,[],[D7]⟩):=Z2
def LN:SS:=[(1,(.mem [.fz,.fz,.fz,.fz,.fz,.fz,.fz,.fz,.fz,.fz])),(2,(.mem [.fz,.fz])),(3,.fz)]
def r5N:SS:=[(1,(.mem [.fz,.fz,.fz,.fz,.fz,.fz,.fz,.fz,.fz,.fz])),(2,(.mem [.fz,.fz])),(3,.fz),(5,.nil)]
def r5:Stm:=
(.ao ⟨[],[],[(6,.v<|.c<|.sl [])]⟩)
def r5c:comp (vf<|xP) (Yp ofC [1,1,1,1,0]) LN=J (r5,⟨J r5N,[],[]⟩):=Z2
def r6S:SS:=[(1,(.mem [.fz,.fz,.fz,.fz,.fz,.fz,.fz,.fz,.fz,.fz])),(2,(.mem [.fz,.fz])),(3,.fz),(5,.nil)]
def r6N:SS:=[(1,(.mem [.fz,.fz,.fz,.fz,.fz,.fz,.fz,.fz,.fz,.fz])),(2,(.mem [.fz,.fz])),(3,.fz),(5,.nil),(6,(.mem [(.own 106)]))]
def r6:Stm:=
(.ao ⟨[],[],[(7,.m [(.c<|.mp 0 [] [])])]⟩)
def r6c:comp (vf<|xP) (Yp ofC [1,1,1,1,1,0]) r6S=J (r6,⟨J r6N,[],[]⟩):=Z2
def r7S:SS:=[(1,(.mem [.fz,.fz,.fz,.fz,.fz,.fz,.fz,.fz,.fz,.fz])),(2,(.mem [.fz,.fz])),(3,.fz),(5,.nil),(6,(.mem [(.own 106)]))]
def r7N:SS:=[(1,(.mem [.fz,.fz,.fz,.fz,.fz,.fz,.fz,.fz,.fz,.fz])),(2,(.mem [.fz,.fz])),(3,.fz),(5,.nil),(6,(.mem [(.own 106)])),(7,(.mem [(.own 120)]))]
def r7:Stm:=
(.ao ⟨[],[],[(8,.m [(.c<|.mp 0 [] [])])]⟩)
def r7c:comp (vf<|xP) (Yp ofC [1,1,1,1,1,1,0]) r7S=J (r7,⟨J r7N,[],[]⟩):=Z2
def D4:SS:=[(1,(.mem [.fz,.fz,.fz,.fz,.fz,.fz,.fz,.fz,.fz,.fz])),(2,(.mem [.fz,.fz])),(3,.fz),(5,(.own 124)),(6,(.mem [(.own 106)])),(7,(.mem [(.own 120)])),(24,.fz),(25,.fz)]
def rDN:SS:=[(1,(.mem [.fz,.fz,.fz,.fz,.fz,.fz,.fz,.fz,.fz,.fz])),(2,(.mem [.fz,.fz])),(3,.fz),(5,(.own 124)),(6,(.mem [(.own 106)])),(7,(.mem [(.own 120)])),(25,.fz),(8,(.mem [.fz,.fz,.fz,.fz,.fz,.fz,.fz])),(24,.fz),(29,.fz)]
def D5:SS:=[(1,(.mem [.fz,.fz,.fz,.fz,.fz,.fz,.fz,.fz,.fz,.fz])),(2,(.mem [.fz,.fz])),(3,.fz),(5,(.own 124)),(6,(.mem [(.own 106)])),(7,(.mem [(.own 120)])),(24,.fz),(25,.fz)]
def rD:Stm:=
(.seq
(.cond (.s 10)
 .skip
 (.exit 0))
(.block 1
 (.seq
 (.ao ⟨[],[],[(11,.m [(.ae (.sz (.ext (.s 12) 0) 7) 0),(.ae (.sz (.ext (.s 12) 0) 7) 1),(.ae (.sz (.ext (.s 12) 0) 7) 2),(.ae (.sz (.ext (.s 12) 0) 7) 3),(.ae (.sz (.ext (.s 12) 0) 7) 4),(.ae (.sz (.ext (.s 12) 0) 7) 5),(.ae (.sz (.ext (.s 12) 0) 7) 6)])]⟩)
 (.seq
 (.seq
 (.ao ⟨[],[],[(13,.v<|.m 11 3)]⟩)
 (.cond (.s 13)
  (.seq
  (.ao ⟨[],[],[(8,.m [(.dc (.i .u64) (.m 8 0) (.m 11 5)<|.m 11 4)])]⟩)
  (.exit 1))
  .skip))
 (.seq
 (.ao ⟨[],[],[(7,.m [(.dc (.i .u64) (.m 7 0) (.m 11 5)<|.len<|.s 6)])]⟩)
 (.ao ⟨[],[],[(6,.v<|.app (.s 6) (.lit [(.mm 11 0 7)]) 7)]⟩))))))
def Oy:comp (vf<|xP) (Yp ofC [1,1,1,1,1,1,1,0,1,0,0,1]) D4=J (rD,⟨J rDN,[(0,D5)],[]⟩):=Z2
def Ox:SS:=[(1,(.mem [.fz,.fz,.fz,.fz,.fz,.fz,.fz,.fz,.fz,.fz])),(2,(.mem [.fz,.fz])),(3,.fz),(5,.fz),(6,(.mem [.fz])),(7,(.mem [.fz]))]
def D3:SS:=[(1,(.mem [.fz,.fz,.fz,.fz,.fz,.fz,.fz,.fz,.fz,.fz])),(2,(.mem [.fz,.fz])),(3,.fz),(5,.fz),(6,(.mem [.fz])),(7,(.mem [.fz])),(9,(.cn 45 [7,6])),(10,(.mem [.fz,.fz])),(48,.fz),(47,.fz),(49,.fz),(46,.fz)]
def rC:Stm:=
(.seq
(.ao ⟨[],[],[(14,.no)]⟩)
(.seq
(.ao ⟨[],[],[(14,.no),(15,.m [(.c<|.sl []),(.c<|.sl [])])]⟩)
(.seq
(.seq
(.ao ⟨[],[],[(14,.no),(16,.v<|.c<|.int .i64<|0),(17,.v<|.len<|.s 6),(20,.v<|.s 6)]⟩)
(.block 2
 (.loop [1,2,3,6,7,8,14,15,16,17,20]
  (.seq
  (.ao ⟨[],[],[(14,.no),(18,.v<|.bn .lss (.s 16)<|.s 17)]⟩)
  (.seq
  (.cond (.s 18)
   .skip
   (.exit 2))
  (.seq
  (.block 3
   (.seq
   (.ao ⟨[],[],[(14,.no),(19,.m [(.ae (.bb (.az (.s 20) (.s 16) 7) 0 7) 0),(.ae (.bb (.az (.s 20) (.s 16) 7) 0 7) 1),(.ae (.bb (.az (.s 20) (.s 16) 7) 0 7) 2),(.ae (.bb (.az (.s 20) (.s 16) 7) 0 7) 3),(.ae (.bb (.az (.s 20) (.s 16) 7) 0 7) 4),(.ae (.bb (.az (.s 20) (.s 16) 7) 0 7) 5),(.ae (.bb (.az (.s 20) (.s 16) 7) 0 7) 6)])]⟩)
   (.seq
   (.ao ⟨[],[],[(14,.no),(21,.v<|.m 19 2)]⟩)
   (.ao ⟨[.cl 23 [] (.id 45) [.fz,(.mem [.fz]),(.mem [.fz])] [(.fu (.m 19 6) (.c<|.int .i64<|0) (.s 21) 1),(.ag [(.m 8 0)]),(.ag [(.m 7 0)])]],[],[(7,.m [(.ae (.ext (.s 23) 2) 0)]),(8,.m [(.ae (.ext (.s 23) 1) 0)]),(14,.no),(15,.m [(.app (.m 15 0) (.lit [(.ag [(.one<|.ext (.s 23) 0),(.ed (.m 19 6) (.s 21) 1)])]) 2),(.m 15 1)])]⟩))))
  (.ao ⟨[],[],[(14,.no),(16,.v<|.bn .add (.s 16)<|.c<|.int .i64<|1)]⟩)))))))
(.seq
(.ao ⟨[.cl 24 [] (.id 45) [.fz,(.mem [.fz]),(.mem [.fz])] [(.m 1 9),(.ag [(.m 8 0)]),(.ag [(.m 7 0)])]],[],[(7,.m [(.ae (.ext (.s 24) 2) 0)]),(8,.m [(.ae (.ext (.s 24) 1) 0)]),(14,.no),(15,.m [(.m 15 0),(.one<|.ext (.s 24) 0)])]⟩)
(.seq
(.ao ⟨[.call 25 [] (.id 47) xw xw [(.mm 15 0 2)]],[],[(2,.m [(.ae (.sz (.ext (.s 25) 0) 2) 0),(.ae (.sz (.ext (.s 25) 0) 2) 1)]),(3,.v<|.fl<|.ext (.s 25) 1),(14,.no)]⟩)
.ret)))))
def rCc:comp (vf<|xP) (Yp ofC [1,1,1,1,1,1,1,1]) Ox=J (rC,⟨U,[],[D3]⟩):=Z2
def NQ:Fn:=⟨16,[0,1,2,4,5,14,13,15,7,12,19,8,9,10,11,34],
(.seq
(.ao ⟨[],[],[(3,.v<|.c<|.sl [])]⟩)
(.seq
(.ao ⟨[],[],[(4,.v<|.c<|.sl [])]⟩)
(.seq
(.seq
(.ao ⟨[],[],[(5,.v<|.c<|.int .i64<|0),(6,.v<|.len<|.s 0),(9,.v<|.s 0)]⟩)
(.block 0
 (.loop [0,1,2,3,4,5,6,9]
  (.seq
  (.ao ⟨[],[],[(7,.v<|.bn .lss (.s 5)<|.s 6)]⟩)
  (.seq
  (.cond (.s 7)
   .skip
   (.exit 0))
  (.seq
  (.block 1
   (.seq
   (.ao ⟨[],[],[(8,.v<|.ae (.az (.s 9) (.s 5) 1) 0)]⟩)
   (.seq
   (.seq
   (.ao ⟨[],[],[(10,.v<|.bn .eql (.s 8)<|.c<|.int .u64<|0)]⟩)
   (.cond (.s 10)
    (.seq
    (.ao ⟨[],[],[(4,.v<|.app (.s 4) (.lit [(.c<|.int .i64<|-1)]) 1)]⟩)
    (.exit 1))
    .skip))
   (.seq
   (.ao ⟨[.call 16 [] (.id 46) xw xw [(.s 8)]],[],[(11,.v<|.ext (.s 16) 0),(12,.v<|.ext (.s 16) 1)]⟩)
   (.seq
   (.seq
   (.ao ⟨[],[],[(13,.v<|.ext (.lk (.i .u64) (.m 1 0) (.s 11) (.int .u64<|0) xk) 0),(14,.v<|.ext (.lk (.i .u64) (.m 1 0) (.s 11) (.int .u64<|0) xk) 1)]⟩)
   (.seq
   (.ao ⟨[],[],[(15,.v<|.s 14)]⟩)
   (.cond (.s 15)
    (.ao ⟨[],[],[(11,.v<|.s 13)]⟩)
    .skip)))
   (.ao ⟨[],[],[(4,.v<|.app (.s 4) (.lit [(.one<|.lk (.i .u64) (.m 2 0) (.s 11) (.int .i64<|0) xw)]) 1)]⟩))))))
  (.ao ⟨[],[],[(5,.v<|.bn .add (.s 5)<|.c<|.int .i64<|1)]⟩)))))))
(.seq
(.ao ⟨[],[],[(3,.v<|.s 4),(4,.no)]⟩)
.ret)))),
[(3,.v)]⟩
def cTo:ZN xP fresh sig [.fz,(.mem [.fz]),(.mem [.fz])] (Rp [.fz,(.mem [.fz]),(.mem [.fz])]) Tryz.f45=J NQ:=Z2
def Hp.dv:Hp.zero.ok:=by
 refine⟨?_,?_,?_,?_,?_,?_,?_,?_,?_,?_,?_,?_,?_,?_⟩<;>simp[Hp.zero,ZB,Yf]
def Mh{h:Hp}(d:h.ok){part:Int}{a n:Nat}(o:a+n<=I (Zz h part))(h2:(n:Int)<=Wa (Zv h))(p:0<n):(Xu h part a n).ok:=by
 have g:ZI (Zv h)=xk:=by
  cases j:ZI<|Zv h;have:Wa (Zv h)=0:=by unfold Wa;rw[j];rfl
  omega;rfl
 have l:Wa (Zv h)=(Zv h).cap- (Zv h).H- (Zv h).aa:=by unfold Wa;rw[g];rfl
 have k:=XH.1 g;have q:(Zv h).H=I h.H:=rfl;have r:(Zv h).aa=I h.aa:=rfl;refine⟨d.base,d.cap,d.to,d.Z,?_,d.aa,d.ah,d.ak,d.E,?_,d.eu,d.ls,d.lc,d.df⟩;simp only[Xu,Zin,ZjN,ZiX];omega;intro w f;simp only[Xu]at f;obtain f|f:=Zib.1 f;exact d.ex w f;exact(XQ d part).1 w (ZiH<|ZjY f)
def Z0M{ws:Z9}{a:Nat}(h:∀w∈ws,ZB w):∀n,∀w∈zr ws a n,ZB w
 |0=>h
 |n+1=>by
  intro w d;obtain d|d:=Zjd d;exact Z0M h n w d;subst d;unfold ZB;omega
def Z4d{h:Hp}(f:h.ok){part:Int}{a n:Nat}(g:0<n):(Re h part a n).2.1.ok/\ZB (Re h part a n).1:=by
 unfold Re;split;exact⟨Hp.dv,by simp[ZB]⟩;split;exact⟨Hp.dv,by simp[ZB]⟩;rename_i g1 g2;have j:=XQ f part;refine⟨ZbL (Mh f Z0 Z0 g) ZgJ ?_,Ol⟩;intro w d;obtain d|d:=Zjd d;exact Z0M j.1 _ w d;subst d;exact Ol
def yA{h:Hp}(a:h.ok){w:Int}(j:ZB w):(fwd h w).2.1.ok/\ZB (fwd h w).1:=by
 unfold fwd;split;exact⟨Hp.dv,by simp[ZB]⟩;split;exact⟨a,by simp[ZB]⟩;split;exact⟨Hp.dv,by simp[ZB]⟩;split;exact⟨Hp.dv,by simp[ZB]⟩;split;exact⟨a,j⟩;split;refine⟨a,?_⟩;generalize (Yg (Zv h) (adr w).1).2.1.toNat=k;have g:=(XQ a (Yg (Zv h) (adr w).1).1).1;generalize Zz h (Yg (Zv h) (adr w).1).1=d at*;by_cases f:k<I d;have e:d.getD k 0=d[k]:=by simp[List.getD,f]
 simp only[e];exact g _<|Zi5 f;have e:d.getD k 0=0:=by simp[List.getD,f]
 simp only[e];unfold ZB;omega;split;exact⟨Hp.dv,by simp[ZB]⟩;exact Z4d a Z0
def p8:Fn:=⟨5,[0,1,2,3,4],pQ [pR [(1,pS 0 10),pV 2 pF],pC [pK 5 22 [.mm 1 0 10]] [pV 3<|.ext (.s 5) 0,pV 4<|.ext (.s 5) 1]]<|px [pV 2<|.s 4],[(2,.v)]⟩
def c8:ZN xP fresh sig [.fz] [] Tryz.f8=J p8:=Z2
def Nf:Fn:=⟨12,[0,1,2,3,13,4,16,15,17,6,14,24],pQ [pR [(1,pS 0 10),pV 2<|.c<|.ln 0,pV 3 pF],.ao ⟨[pK 12 20 [.mm 1 0 10]],[([],.ag [.ae (.mm 1 0 10) 0,.ae (.mm 1 0 10) 1,.ae (.mm 1 0 10) 2,.ae (.mm 1 0 10) 3,.ae (.mm 1 0 10) 4,.ae (.mm 1 0 10) 5,.ae (.mm 1 0 10) 6,.ae (.mm 1 0 10) 7,.ae (.mm 1 0 10) 8,.ae (.mm 1 0 10) 9,.ae (.sz (.s 12) 7) 0,.ae (.sz (.s 12) 7) 1,.ae (.sz (.s 12) 7) 2,.ae (.sz (.s 12) 7) 3,.ae (.sz (.s 12) 7) 4,.ae (.sz (.s 12) 7) 5,.ae (.sz (.s 12) 7) 6,pN,pN,pN,pN,.c<|.mp 0 [] [],.c<|.mp 0 [] []])],[(5,.m [.ae (.mm 1 0 10) 0,.ae (.mm 1 0 10) 1,.ae (.mm 1 0 10) 2,.ae (.mm 1 0 10) 3,.ae (.mm 1 0 10) 4,.ae (.mm 1 0 10) 5,.ae (.mm 1 0 10) 6,.ae (.mm 1 0 10) 7,.ae (.mm 1 0 10) 8,.ae (.mm 1 0 10) 9,.ae (.sz (.s 12) 7) 0,.ae (.sz (.s 12) 7) 1,.ae (.sz (.s 12) 7) 2,.ae (.sz (.s 12) 7) 3,.ae (.sz (.s 12) 7) 4,.ae (.sz (.s 12) 7) 5,.ae (.sz (.s 12) 7) 6,pN,pN,pN,pN,.c<|.mp 0 [] [],.c<|.mp 0 [] []])]⟩,pQ [pC [pK 10 43 []] [pV 6<|pI 0,pV 7<|.len<|.s 10]]<|po [0,1,2,3,5,6,7,10] 8 (pl (.s 6)<|.s 7) (pQ [pR [(9,.m [.ae (.bb (.az (.s 10) (.s 6) 1) 0 1) 0])],pC [.cl 13 [] (.e<|.m 9 0) [.mem [.fz,.fz,.fz,.fz,.fz,.fz,.fz,.fz,.fz,.fz,.fz,.fz,.fz,.fz,.fz,.fz,.fz,.fz,.fz,.fz,.fz,.own 106,.own 107]] [.ag [.m 5 0,.m 5 1,.m 5 2,.m 5 3,.m 5 4,.m 5 5,.m 5 6,.m 5 7,.m 5 8,.m 5 9,.m 5 10,.m 5 11,.m 5 12,.m 5 13,.m 5 14,.m 5 15,.m 5 16,.m 5 17,.m 5 18,.m 5 19,.m 5 20,.m 5 21,.m 5 22]]] [(5,pM (.ext (.s 13) 1) 23),pV 11<|.un .not<|.ext (.s 13) 0]]<|pw (.s 11)<|px [pV 2<|.c<|.ln 0,pV 3 pF])<|pc 6]<|px [pV 2<|.pt U [.m 5 0,.m 5 1,.m 5 2,.m 5 3,.m 5 4,.m 5 5,.m 5 6,.m 5 7,.m 5 8,.m 5 9,.m 5 10,.m 5 11,.m 5 12,.m 5 13,.m 5 14,.m 5 15,.m 5 16,.m 5 17,.m 5 18,.m 5 19,.m 5 20,.m 5 21,.m 5 22],pV 3 pT,(5,.no)],[(2,.v),(3,.v)]⟩
def c22:ZN xP fresh sig [.fz] [] Tryz.f22=J Nf:=Z2
def Nk:Fn:=⟨6,[0,1,2,3,4,11],pQ [pR [(1,pS 0 10),pV 2<|pI 0],pC [pK 6 22 [.mm 1 0 10]] [pV 3<|.ext (.s 6) 0,pV 4<|.ext (.s 6) 1],pi 5 (.un .not<|.s 4)<|px [pV 2<|pI 0],pC [pK 7 55 [.s 3]] [pV 2<|.s 7]] .ret,[(2,.v)]⟩
def c37:ZN xP fresh sig [.fz] [] Tryz.f37=J Nk:=Z2
def Nn:Fn:=⟨1,[0],pQ [pR [pV 0 pN]]<|px [pV 0<|.lit [.ag [.c<|.fn 66],.ag [.c<|.fn 67],.ag [.c<|.fn 68],.ag [.c<|.fn 69],.ag [.c<|.fn 70],.ag [.c<|.fn 71],.ag [.c<|.fn 72],.ag [.c<|.fn 73]]],[(0,.v)]⟩
def c43:ZN xP fresh sig [] [] Tryz.f43=J Nn:=Z2
def Nt:Fn:=⟨11,[0,2,3,4,8,19,18,20,6,17,25],pQ [pR [pV 1<|pI 0],pR [pV 2<|pI 0],pQ [pR [pV 3<|pI 3]]<|.block 0<|.loop [0,1,2,3]<|pQ [pu 4 (pL (.s 3)<|pI 4) .skip<|.exit 0,.block 1<|pQ [pR [pV 5<|pI 0,pV 6<|.len<|.ae (.ai (.bb (.au<|.s 0) 17 4) (pb (.s 3)<|pI 1) 4 1 xk) 0,pV 9<|.ae (.ai (.bb (.au<|.s 0) 17 4) (pb (.s 3)<|pI 1) 4 1 xk) 0]]<|.block 2<|.loop [0,1,2,3,4,5,6,9]<|pQ [pR [pV 7<|pl (.s 5)<|.s 6],.cond (.s 7) .skip<|.exit 2,.block 3<|pQ [pR [(8,pM (.bb (.az (.s 9) (.s 5) 5) 0 5) 5)]]<|pi 10 (.un .not<|.m 8 3)<|pR [pV 2<|pa (.s 2)<|pa (pI 1)<|.m 8 1]]<|pc 5]<|pc 3]<|px [pV 1<|.s 2],[(1,.v)]⟩
def c55:ZN xP fresh sig [.fz] [] Tryz.f55=J Nt:=Z2
def Ny:Fn:=⟨2,[0,2],pQ [pR [pV 1 pF],.ao ⟨[pK 2 41 [.bb (.au<|.s 0) 10 7],.lt 3 []<|.s 2,.lt 4 []<|.ite (.s 3) (pL (.len<|.ae (.au<|.s 0) 9)<|pI 16) pF,.lt 5 []<|.ite (.s 4) (pg (.ae (.au<|.s 0) 4)<|pI 0) pF],[([(3,xk)],pL (.len<|.ae (.au<|.s 0) 9)<|pI 16),([(4,xk)],pg (.ae (.au<|.s 0) 4)<|pI 0),([(5,xk)],pL (.ae (.au<|.s 0) 4)<|.len<|.ae (.au<|.s 0) 5)],[pV 1<|.ite (.s 5) (pL (.ae (.au<|.s 0) 4)<|.len<|.ae (.au<|.s 0) 5) pF]⟩] .ret,[(1,.v)]⟩
def c66:ZN xP fresh sig [.fz] [] Tryz.f66=J Ny:=Z2
def Lu:Fn:=⟨3,[0,2,7],pQ [pR [pV 1 pF],pi 2 (.ae (.au<|.s 0) 3)<|px [pV 1<|pl (.ae (.au<|.s 0) 4)<|.len<|.ae (.au<|.s 0) 5],.ao ⟨[.lt 3 []<|pe (.len<|.ae (.au<|.s 0) 7)<|pI 0,.lt 4 []<|.ite (.s 3) (pe (.len<|.ae (.au<|.s 0) 8)<|pI 0) pF],[([(3,xk)],pe (.len<|.ae (.au<|.s 0) 8)<|pI 0),([(4,xk)],pe (.ae (.au<|.s 0) 4)<|.len<|.ae (.au<|.s 0) 5)],[pV 1<|.ite (.s 4) (pe (.ae (.au<|.s 0) 4)<|.len<|.ae (.au<|.s 0) 5) pF]⟩] .ret,[(1,.v)]⟩
def c67:ZN xP fresh sig [.fz] [] Tryz.f67=J Lu:=Z2
def Nz:Fn:=⟨11,[0,2,3,8,9,4,5,6,7,18,39],pQ [pR [pV 1 pF],pR [pV 2 pT],.skip,pQ [pR [pV 3<|pI 0]]<|po [0,1,2,3] 4 (pl (.s 3)<|pI 4) (pQ [pR [pV 5<|.s 3],pR [pV 6<|pa (.s 5)<|pI 1],pR [pV 7 pN],pR [pV 8<|pI 0],pQ [.ao ⟨[.lt 11 []<|pe (.s 6)<|pI 1],[([(11,xw)],pe (.s 6)<|pI 2)],[pV 9<|.ite (.s 11) pT<|pe (.s 6)<|pI 2]⟩]<|.cond (.s 9) (pC [pK 12 83 [.pt U [.m 0 0,.m 0 1,.m 0 2,.m 0 3,.m 0 4,.m 0 5,.m 0 6,.m 0 7,.m 0 8,.m 0 9,.m 0 10,.m 0 11,.m 0 12,.m 0 13,.m 0 14,.m 0 15,.m 0 16,.m 0 17,.m 0 18,.m 0 19,.m 0 20,.m 0 21,.m 0 22],.s 6],.call 13 [] (.id 82) xk xw [.s 12]] [pV 7<|.ext (.s 13) 0,pV 8<|.ext (.s 13) 1])<|pC [pK 14 83 [.pt U [.m 0 0,.m 0 1,.m 0 2,.m 0 3,.m 0 4,.m 0 5,.m 0 6,.m 0 7,.m 0 8,.m 0 9,.m 0 10,.m 0 11,.m 0 12,.m 0 13,.m 0 14,.m 0 15,.m 0 16,.m 0 17,.m 0 18,.m 0 19,.m 0 20,.m 0 21,.m 0 22],.s 6],pK 15 83 [.pt U [.m 0 0,.m 0 1,.m 0 2,.m 0 3,.m 0 4,.m 0 5,.m 0 6,.m 0 7,.m 0 8,.m 0 9,.m 0 10,.m 0 11,.m 0 12,.m 0 13,.m 0 14,.m 0 15,.m 0 16,.m 0 17,.m 0 18,.m 0 19,.m 0 20,.m 0 21,.m 0 22],.s 6],pK 16 85 [.pt U [.m 0 0,.m 0 1,.m 0 2,.m 0 3,.m 0 4,.m 0 5,.m 0 6,.m 0 7,.m 0 8,.m 0 9,.m 0 10,.m 0 11,.m 0 12,.m 0 13,.m 0 14,.m 0 15,.m 0 16,.m 0 17,.m 0 18,.m 0 19,.m 0 20,.m 0 21,.m 0 22],.s 15],.call 17 [] (.id 84) xk xw [.s 14,.s 16]] [pV 7<|.ext (.s 17) 0,pV 8<|.ext (.s 17) 1],pi 10 (pn (.s 8)<|pI 0)<|pQ [pR [pV 2 pF]]<|.exit 0]<|pC [.cl 18 [] (.id 86) [.mem [.fz,.fz,.fz,.fz,.fz,.fz,.fz,.fz,.fz,.fz,.fz,.fz,.fz,.fz,.fz,.fz,.fz,.fz,.fz,.fz,.fz,.own 106,.own 107],.fz,.fz] [.ag [.m 0 0,.m 0 1,.m 0 2,.m 0 3,.m 0 4,.m 0 5,.m 0 6,.m 0 7,.m 0 8,.m 0 9,.m 0 10,.m 0 11,.m 0 12,.m 0 13,.m 0 14,.m 0 15,.m 0 16,.m 0 17,.m 0 18,.m 0 19,.m 0 20,.m 0 21,.m 0 22],.s 6,.s 7]] [(0,pM (.ext (.s 18) 1) 23)])<|pc 3]<|px [pV 1<|.s 2],[(1,.v)]⟩
def c68:ZN xP fresh sig [(.mem [.fz,.fz,.fz,.fz,.fz,.fz,.fz,.fz,.fz,.fz,.fz,.fz,.fz,.fz,.fz,.fz,.fz,.fz,.fz,.fz,.fz,(.own 106),(.own 107)])] [(0,(.mem [.fz,.fz,.fz,.fz,.fz,.fz,.fz,.fz,.fz,.fz,.fz,.fz,.fz,.fz,.fz,.fz,.fz,.fz,.fz,.fz,.fz,(.own 106),(.own 107)]))] Tryz.f68=J Nz:=Z2
def Ct:Fn:=⟨13,[0,2,12,3,4,15,26,25,27,6,24,32,46],pQ [pR [pV 1 pF],pi 2 (.un .not<|.ae (.au<|.s 0) 3)<|px [pV 1 pT],pR [pV 3<|.c<|.mp 0 [] []],pQ [pR [pV 4<|pI 3]]<|.block 0<|.loop [0,1,2,3,4]<|pQ [pu 5 (pL (.s 4)<|pI 4) .skip<|.exit 0,.block 1<|pQ [pR [pV 6<|pI 0,pV 7<|.len<|.ae (.ai (.bb (.au<|.s 0) 17 4) (pb (.s 4)<|pI 1) 4 1 xk) 0,pV 10<|.ae (.ai (.bb (.au<|.s 0) 17 4) (pb (.s 4)<|pI 1) 4 1 xk) 0]]<|.block 2<|.loop [0,1,2,3,4,5,6,7,10]<|pQ [pR [pV 8<|pl (.s 6)<|.s 7],.cond (.s 8) .skip<|.exit 2,.block 3<|pQ [pR [(9,pM (.bb (.az (.s 10) (.s 6) 5) 0 5) 5)],pi 11 (.un .not<|.m 9 3)<|.exit 3,pQ [.ao ⟨[.lt 13 []<|pn (.lk (.i .u64) (.ae (.au<|.s 0) 21) (.m 9 4) (.int .i64 0) xw)<|pI 1],[([(13,xw)],.fl<|.lk (.i .u64) (.s 3) (.m 9 4) (.bool xw) xw)],[pV 12<|.ite (.s 13) pT<|.fl<|.lk (.i .u64) (.s 3) (.m 9 4) (.bool xw) xw]⟩]<|pw (.s 12)<|px [pV 1 pF]]<|pR [pV 3<|.dc (.i .u64) (.s 3) (.m 9 4) pT]]<|pc 6]<|pc 4]<|px [pV 1<|pe (.du<|.s 3)<|.len<|.ae (.ai (.bb (.au<|.s 0) 17 4) (pI 0) 4 1 xk) 0],[(1,.v)]⟩
def c69:ZN xP fresh sig [.fz] [] Tryz.f69=J Ct:=Z2
def NA:Fn:=⟨9,[0,1,2,11,10,12,4,9,18],pQ [pR [(1,.m [.one<|.s 0]),pV 2 pF],pQ [pR [pV 3<|pI 0,pV 4<|.len<|.ae (.au<|.m 1 0) 9,pV 7<|.ae (.au<|.m 1 0) 9]]<|po [0,1,2,3,4,7] 5 (pl (.s 3)<|.s 4) (pQ [pR [pV 6<|.ae (.az (.s 7) (.s 3) 1) 0],pC [pK 9 87 [.m 1 0,.s 6,pI 1,pI 2]] [pV 8<|.un .not<|.s 9]]<|pw (.s 8)<|px [pV 2 pF])<|pc 3,pC [.call 10 [] (.id 88) xw xk [.m 1 0,pI 2,.pt (J 89) [.pt U [.m 1 0]]],.lt 11 []<|.s 10,.call 12 [(11,xk)] (.id 88) xw xk [.m 1 0,pI 1,.pt (J 90) [.pt U [.m 1 0]]]] [pV 2<|.ite (.s 11) (.s 12) pF]] .ret,[(2,.v)]⟩
def c70:ZN xP fresh sig [.fz] [] Tryz.f70=J NA:=Z2
def NB:Fn:=⟨3,[0,1,2],pQ [pR [(1,.m [.one<|.s 0]),pV 2 pF],pC [.call 3 [] (.id 88) xw xk [.m 1 0,pI 1,.pt (J 91) [.pt U [.m 1 0]]]] [pV 2<|.s 3]] .ret,[(2,.v)]⟩
def c71:ZN xP fresh sig [.fz] [] Tryz.f71=J NB:=Z2
def NC:Fn:=⟨4,[0,1,2,3],pQ [pR [(1,.m [.one<|.s 0]),pV 2 pF],pR [(3,.no)],pC [.call 4 [] (.id 88) xw xk [.m 1 0,pI 3,.pt (J 92) [.pt U [.m 1 0]]],.lt 5 []<|.s 4,.call 6 [(5,xk)] (.id 88) xw xk [.m 1 0,pI 4,.pt (J 92) [.pt U [.m 1 0]]]] [pV 2<|.ite (.s 5) (.s 6) pF,(3,.no)]] .ret,[(2,.v)]⟩
def c72:ZN xP fresh sig [.fz] [] Tryz.f72=J NC:=Z2
def ND:Fn:=⟨2,[0,2],pQ [pR [pV 1 pF],pC [pK 2 55 [.s 0]] [pV 1<|pL (pa (pa (.len<|.ae (.au<|.s 0) 5)<|.len<|.ae (.au<|.s 0) 6)<|.s 2)<|.ae (.au<|.s 0) 1]] .ret,[(1,.v)]⟩
def c73:ZN xP fresh sig [.fz] [] Tryz.f73=J ND:=Z2
def NE:Fn:=⟨8,[0,1,2,4,5,6,7,22],pQ [pR [(2,pS 0 10),pV 3 pN,pV 4<|pI 0],pC [pK 8 22 [.mm 2 0 10]] [pV 5<|.ext (.s 8) 0,pV 6<|.ext (.s 8) 1],pQ [.ao ⟨[.lt 9 []<|.un .not<|.s 6,.lt 10 []<|.ite (.s 9) pT<|pl (.s 1)<|pI 1],[([(9,xw)],pl (.s 1)<|pI 1),([(10,xw)],pj (.s 1)<|pI 4)],[pV 7<|.ite (.s 10) pT<|pj (.s 1)<|pI 4]⟩]<|pw (.s 7)<|px [pV 4<|pI 1]]<|px [pV 3<|.ae (.ai (.bb (.au<|.s 5) 17 4) (pb (.s 1)<|pI 1) 4 1 xk) 0,pV 4<|pI 0],[(3,.v),(4,.v)]⟩
def c74:ZN xP fresh sig [.fz,.fz] [] Tryz.f74=J NE:=Z2
def NJ:Fn:=⟨3,[0,1,4],pQ [pR [pV 2 pN]]<|px [pV 2<|.ai (.ag [.ae (.au<|.s 0) 5,.ae (.au<|.s 0) 6,.ae (.au<|.s 0) 7,.ae (.au<|.s 0) 8]) (pb (.s 1)<|pI 1) 4 1 xw],[(2,.v)]⟩
def c83:ZN xP fresh sig [.fz,.fz] [] Tryz.f83=J NJ:=Z2
def NK:Fn:=⟨14,[0,1,4,5,6,15,7,8,9,25,10,11,36,52],pQ [pR [pV 2 pN],pR [pV 3 pN],pQ [pR [pV 4<|pI 0]]<|.block 0<|.loop [0,1,2,3,4]<|pQ [pu 5 (pl (.s 4)<|.len<|.s 1) .skip<|.exit 0]<|.block 1<|pQ [pR [(6,.m [pI 0,pI 0])],pQ [pC [pK 14 46 [.ae (.az (.s 1) (.s 4) 1) 0]] [pV 7<|.ext (.s 14) 0,pV 8<|.ext (.s 14) 1]]<|pu 9 (pe (.s 8)<|pI 0) (pQ [pR [(10,pM (.sz (.ext (.lk (.i .u64) (.ae (.au<|.s 0) 22) (.s 7) (.agg [.int .i64 0,.int .i64 0]) xk) 0) 2) 2),pV 11<|.ext (.lk (.i .u64) (.ae (.au<|.s 0) 22) (.s 7) (.agg [.int .i64 0,.int .i64 0]) xk) 1],pi 12 (.un .not<|.s 11)<|px [pV 2<|.s 3,(3,.no)],pR [(6,pM (.mm 10 0 2) 2)]]<|pR [pV 3<|.app (.s 3) (.lit [.mm 6 0 2]) 2])<|pQ [pC [pK 15 58 [.ae (.az (.s 1) (.s 4) 1) 0]] [(6,pM (.sz (.ext (.s 15) 0) 2) 2),pV 8<|.ext (.s 15) 1]]<|pi 13 (pn (.s 8)<|pI 0)<|px [pV 2<|.s 3,(3,.no)]]<|pR [pV 4<|pa (.s 4)<|pa (pI 1)<|.m 6 0]]<|px [pV 2<|.s 3,(3,.no)],[(2,.v)]⟩
def c85:ZN xP fresh sig [.fz,.fz] [] Tryz.f85=J NK:=Z2
def Lv:Fn:=⟨11,[0,1,2,19,18,20,7,17,8,9,42],pQ [.ao ⟨[],[([],.ai (.c<|.agg [(.bool xk),(.bool xk),(.bool xk),(.bool xk)]) (pb (.s 1)<|pI 1) 4 1 xw)],[(0,.m [.m 0 0,.m 0 1,.m 0 2,.m 0 3,.m 0 4,.m 0 5,.m 0 6,.m 0 7,.m 0 8,.m 0 9,.m 0 10,.m 0 11,.m 0 12,.m 0 13,.m 0 14,.m 0 15,.m 0 16,.ae (.db (.mm 0 17 4) (pb (.s 1)<|pI 1) 4 1<|.one<|.s 2) 0,.ae (.db (.mm 0 17 4) (pb (.s 1)<|pI 1) 4 1<|.one<|.s 2) 1,.ae (.db (.mm 0 17 4) (pb (.s 1)<|pI 1) 4 1<|.one<|.s 2) 2,.ae (.db (.mm 0 17 4) (pb (.s 1)<|pI 1) 4 1<|.one<|.s 2) 3,.m 0 21,.m 0 22])]⟩,pR [pV 3<|pI 0,pV 4<|.len<|.s 2,pV 7<|.s 2]]<|po [0,1,2,3,4,7] 5 (pl (.s 3)<|.s 4) (pQ [pR [(6,pM (.bb (.az (.s 7) (.s 3) 5) 0 5) 5)],pC [pK 11 19 [.mm 0 10 7,.ag [.one<|.s 1,.m 6 0]]] [pV 8<|.ext (.s 11) 0,pV 9<|.ext (.s 11) 1],pR [(0,.m [.m 0 0,.m 0 1,.m 0 2,.m 0 3,.m 0 4,.m 0 5,.m 0 6,.m 0 7,.m 0 8,.m 0 9,.m 0 10,.m 0 11,.m 0 12,.m 0 13,.m 0 14,.m 0 15,.m 0 16,.m 0 17,.m 0 18,.m 0 19,.m 0 20,.dc (.i .u64) (.m 0 21) (.s 8)<|.s 1,.m 0 22])]]<|pi 10 (pe (.s 1)<|pI 1)<|pR [(0,.m [.m 0 0,.m 0 1,.m 0 2,.m 0 3,.m 0 4,.m 0 5,.m 0 6,.m 0 7,.m 0 8,.m 0 9,.m 0 10,.m 0 11,.m 0 12,.m 0 13,.m 0 14,.m 0 15,.m 0 16,.m 0 17,.m 0 18,.m 0 19,.m 0 20,.m 0 21,.dc (.i .u64) (.m 0 22) (.s 8)<|.mm 6 1 2])])<|pc 3,[]⟩
def c86:ZN xP fresh sig [(.mem [.fz,.fz,.fz,.fz,.fz,.fz,.fz,.fz,.fz,.fz,.fz,.fz,.fz,.fz,.fz,.fz,.fz,.fz,.fz,.fz,.fz,(.own 106),(.own 107)]),.fz,.fz] [(0,(.mem [.fz,.fz,.fz,.fz,.fz,.fz,.fz,.fz,.fz,.fz,.fz,.fz,.fz,.fz,.fz,.fz,.fz,.fz,.fz,.fz,.fz,(.own 106),(.own 107)]))] Tryz.f86=J Lv:=Z2
def Cv:Fn:=⟨11,[0,1,2,3,8,14,9,10,21,11,12],pQ [pR [pV 4 pF],pi 5 (pe (.s 1)<|pU 0)<|px [pV 4 pT],pC [pK 11 46 [.s 1]] [pV 6<|.ext (.s 11) 0,pV 7<|.ext (.s 11) 1],pi 8 (pn (.s 7)<|pI 0)<|px [pV 4 pF],pR [pV 9<|.ext (.lk (.i .u64) (.ae (.au<|.s 0) 21) (.s 6) (.int .i64 0) xk) 0,pV 10<|.ext (.lk (.i .u64) (.ae (.au<|.s 0) 21) (.s 6) (.int .i64 0) xk) 1],.ao ⟨[.lt 12 []<|.s 10,.lt 13 []<|.ite (.s 12) (pg (.s 9)<|.s 2) pF],[([(12,xk)],pg (.s 9)<|.s 2),([(13,xk)],pL (.s 9)<|.s 3)],[pV 4<|.ite (.s 13) (pL (.s 9)<|.s 3) pF]⟩] .ret,[(4,.v)]⟩
def c87:ZN xP fresh sig [.fz,.fz,.fz,.fz] [] Tryz.f87=J Cv:=Z2
def NL:Fn:=⟨17,[0,1,2,6,7,23,22,24,9,21,28,32,31,33,10,11,47],pQ [pR [pV 3 pF],pC [pK 17 83 [.s 0,.s 1]] [pV 4<|.s 17],pQ [pR [pV 5<|pI 0,pV 6<|.len<|.ae (.ai (.bb (.au<|.s 0) 17 4) (pb (.s 1)<|pI 1) 4 1 xk) 0,pV 9<|.ae (.ai (.bb (.au<|.s 0) 17 4) (pb (.s 1)<|pI 1) 4 1 xk) 0]]<|po [0,1,2,3,4,5,6,9] 7 (pl (.s 5)<|.s 6) (pQ [pR [(8,pM (.bb (.az (.s 9) (.s 5) 5) 0 5) 5)],pi 10 (.m 8 3)<|.exit 1,pR [pV 11<|pI 0,pV 12<|.m 8 2]]<|.block 2<|.loop [0,1,2,3,4,5,6,7,8,9,10,11,12]<|pQ [pR [pV 13<|pl (.s 11)<|.s 12],.cond (.s 13) .skip<|.exit 2,.block 3<|pQ [pR [pV 14<|.s 11],pR [pV 15<|pa (pa (.m 8 0)<|pI 1)<|.s 14],pC [.call 18 [] (.e<|.s 2) xw xw [.s 15,.ae (.az (.s 4) (.s 15) 1) 0]] [pV 16<|.un .not<|.s 18]]<|pw (.s 16)<|px [pV 3 pF]]<|pc 11)<|pc 5]<|px [pV 3 pT],[(3,.v)]⟩
def c88:ZN xP fresh sig [.fz,.fz,.fz] [] Tryz.f88=J NL:=Z2
def NM:Fn:=⟨4,[0,1,2,5],pQ [pR [pV 3 pF],pC [pK 4 87 [.ae (.au<|.s 2) 0,.s 1,pI 1,pI 2]] [pV 3<|.s 4]] .ret,[(3,.v)]⟩
def c89:ZN xP fresh sig [.fz,.fz,.fz] [] Tryz.f89=J NM:=Z2
def Cw:Fn:=⟨4,[0,1,2,5],pQ [pR [pV 3 pF],pC [.lt 4 []<|pg (.s 0)<|.ae (.au<|.ae (.au<|.s 2) 0) 4,.call 5 [(4,xw)] (.id 87) xw xw [.ae (.au<|.s 2) 0,.s 1,pI 1,pI 2]] [pV 3<|.ite (.s 4) pT<|.s 5]] .ret,[(3,.v)]⟩
def c90:ZN xP fresh sig [.fz,.fz,.fz] [] Tryz.f90=J Cw:=Z2
def Cy:Fn:=⟨4,[0,1,2,5],pQ [pR [pV 3 pF],pC [.lt 4 []<|pl (.s 0)<|.ae (.au<|.ae (.au<|.s 2) 0) 4,.call 5 [(4,xw)] (.id 87) xw xw [.ae (.au<|.s 2) 0,.s 1,pI 1,pI 4]] [pV 3<|.ite (.s 4) pT<|.s 5]] .ret,[(3,.v)]⟩
def c91:ZN xP fresh sig [.fz,.fz,.fz] [] Tryz.f91=J Cy:=Z2
def NN:Fn:=⟨4,[0,1,2,5],pQ [pR [pV 3 pF],pC [pK 4 87 [.ae (.au<|.s 2) 0,.s 1,pI 3,pI 4]] [pV 3<|.s 4]] .ret,[(3,.v)]⟩
def c92:ZN xP fresh sig [.fz,.fz,.fz] [] Tryz.f92=J NN:=Z2
end Vm
end
section
namespace Vm
open Go Go.Proofs
def XY{α:Type}(l:List<|Int×α)(k:Int)(v:α):List<|Int×α:=match l.findIdx? (·.1==k)with
 |some i=>l.set i (k,v)
 |none=>l++[(k,v)]
def Yb{α:Type}(l:List<|Int×α)(k:Int):Option α:=(l.find? (·.1==k)).map (·.2)
def Ye{α:Type}(f:α->V)(l:List<|Int×α):V:=.mp 0 (l.map λx=>vu x.1) (l.map λx=>f x.2)
def AL{α:Type}{k}:∀ {l:List (Int×α)},TM (vu k) (l.map λx=>vu x.1)=J (l.findIdx? (·.1==k))
 | []=>rfl
 |y::l=>by
  simp only[Zii,TM,L5,Zle];by_cases h:k=y.1;simp[h];have a:(k==y.1)=xw:=Zhv;have d:(y.1==k)=xw:=by simpa using Zju h
  simp[a,d,AL]
def KI{α:Type}{p}:∀ {l:List α},l.find? p=(l.findIdx? p).bind λi=>l[i]?
 | []=>rfl
 |x::l=>by
  rw[List.find?_cons,Zle];cases h:p x;simp;rw[KI (l:=l)];cases l.findIdx? p<;>simp;simp
theorem Qk{α f}{l:List (Int×α)}{k z ok}:UN (.i .u64) (Ye f l) (vu k) z ok=match Yb l k with
  |some x=>J (if ok then .al [f x,.bool xk]else f x)
  |none=>J (if ok then .al [z,.bool xw]else z):=by
 unfold UN Ye Yb;simp[Vl,AL,KI];grind [List.findIdx?_eq_some_iff_getElem]
def La{α f l k}{x:α}:Tk (.i .u64) (Ye f l) (vu k) (f x)=J (Ye f<|XY l k x):=by
 unfold Tk Ye XY;simp[Vl,AL];cases h:l.findIdx? (·.1==k)with
 |none=>simp
 |some i=>
  let⟨d,g,_⟩:=ZiE.1 h;have a:(l[i]).1=k:=ZhC;simp only[ZhF,V.mp.injEq,true_and];constructor;rw[Zkw];apply Zk0;intro j;rw[List.getElem?_set];split;rename_i e;subst e;simp[d,a];rfl;rw[Zkw]
@[simp]theorem Zfh{α}f(l:List<|Int×α):YP (Ye f l)=J (Ye f l):=rfl
@[simp]theorem Zdk{α}f(l:List<|Int×α):(Ye f l).cells=[Ye f l]:=rfl
@[simp]theorem Zfs{α}f(l:List<|Int×α):(Ye f l).one=xk:=rfl
@[simp]theorem Zf6{α}f(l:List<|Int×α):Ri (Ye f l)=J (vi<|I l):=by simp[Ye]
def Jc{α l k j}{x:α}:Yb (XY l k x) j=if k=j then J x else Yb l j:=by
 unfold Yb XY;cases h:l.findIdx? (·.1==k)with
 |none=>
  grind
 |some i=>
  let⟨d,o,a⟩:=ZiE.1 h;by_cases e:k=j;subst e;rw[ZhS rfl,KI];grind [List.findIdx?_eq_some_iff_getElem,List.getElem_set_ne];rw[ZhP e,KI,KI];have:(l.set i (k,x)).findIdx? (·.1==j)=l.findIdx? (·.1==j):=by
   apply Option.ext;intro q;rw[ZiE,ZiE];constructor;grind;grind
  rw[this];cases f:l.findIdx? (·.1==j)with
  |none=>rfl
  |some q=>
   let⟨g,n,_⟩:=ZiE.1 f;grind
structure Ck where
 h:Hp
 o1:List Ob
 o2:List Ob
 o3:List Ob
 o4:List Ob
 pm:List<|Int×Int
 lm:List<|Int×(Int×Int)
def Ck.dn(s:Ck)(k:Int):List Ob:=if k=1 then s.o1 else if k=2 then s.o2 else if k=3 then s.o3 else s.o4
def ZW(s:Ck):List V:=[vu s.h.base,vi s.h.cap,vi s.h.to,.bool s.h.M,vi s.h.Z,.sl<|s.h.H.map vu,.sl<|s.h.aa.map vu,.sl<|s.h.ah.map vu,.sl<|s.h.ak.map vu,.sl<|s.h.E.map vu,
 vu s.h.base,vi s.h.cap,vi s.h.to,vi<|I s.h.H,vi<|I s.h.aa,vi<|I s.h.ah,vi<|I s.h.ak,
 .sl (s.o1.map ZO),.sl<|s.o2.map ZO,.sl<|s.o3.map ZO,.sl<|s.o4.map ZO,Ye vi s.pm,Ye Wf s.lm]
def X7(s:Ck):V:=.ptr<|ZW s
def RH:IntKind.i64.wrap 0=0:=ZgV
def Ty:IntKind.i64.wrap 1=1:=ZgV
def Ub:IntKind.i64.wrap 2=2:=ZgV
def UA:IntKind.i64.wrap 3=3:=ZgV
def Z0u{s:Ck}{k:Int}(a:1<=k/\k<=4):VC xP 83 xw [X7 s,vi k]<|.sl<|(Zz s.h k).map vu:=by
 refine ZT Z25 follows Z2 c83 rfl ?_;have:k=1\/k=2\/k=3\/k=4:=Z0;obtain rfl|rfl|rfl|rfl:=this<;>simp[NJ,X7,ZW,Zz,Y8,RH,Ty,Ub,UA]
def YO(s:Ck)(w first last:Int):Bool:=decide (w=0)||(decide ((adr w).2=0)&&match Yb s.pm (adr w).1 with
 |some k=>decide (first<=k)&&decide (k<=last)
 |none=>xw)
def LE{s:Ck}{w first last:Int}(f:ZB w):VC xP 87 xw [X7 s,vu w,vi first,vi last]<|.bool<|YO s w first last:=by
 refine ZT Z29 follows Z2 c87 rfl ?_;unfold YO;by_cases a:w=0;simp[Cv,a];simp[Cv,a,X7,ZW];refine Zy (RR f) Z1 ?_;by_cases d:(adr w).2=0;case neg=>simp[d]
 simp[d,Qk];cases g:Yb s.pm (adr w).1 with
 |none=>simp
 |some k=>
  simp_all
def WF(h:Hp)(k:Int):List (Int×Int)->List Ob->List (Int×Int)
 |m,[]=>m
 |m,o::l=>WF h k (XY m (Y3 (Zv h) k o.ab).1 k) l
def XC(h:Hp)(k:Int):List (Int×(Int×Int))->List Ob->List (Int×(Int×Int))
 |m,[]=>m
 |m,o::l=>XC h k (if k=1 then XY m (Y3 (Zv h) k o.ab).1 (o.size,o.Y)else m) l
def Ck.put(s:Ck)(k:Int)(l:List Ob):Ck:=if k=1 then {s with o1:=l}else if k=2 then {s with o2:=l}else if k=3 then {s with o3:=l}else {s with o4:=l}
def XX(s:Ck)(k:Int)(l:List Ob):Ck:= {s.put k l with pm:=WF s.h k s.pm l,lm:=XC s.h k s.lm l}
def Lj{h k}:∀ {l:List Ob} {i:Nat} {o:Ob} {m:List (Int×Int)},l[i]?=J o->WF h k m (l.take<|i+1)=XY (WF h k m<|l.take i) (Y3 (Zv h) k o.ab).1 k
 | [],_,_,_,h=>Zhk
 |x::l,0,o,m,h=>by simp_all[WF]
 |x::l,i+1,o,m,h=>by
  simp_all[Zl5,WF,Lj]
def Lh{h k}:∀ {l:List Ob} {i:Nat} {o:Ob} {m:List (Int×(Int×Int))},l[i]?=J o->XC h k m (l.take<|i+1)=if k=1 then XY (XC h k m<|l.take i) (Y3 (Zv h) k o.ab).1 (o.size,o.Y)else XC h k m (l.take i)
 | [],_,_,_,h=>Zhk
 |x::l,0,o,m,h=>by simp_all[XC]
 |x::l,i+1,o,m,h=>by
  simp_all[Zl5,XC,Lh]
abbrev zY:List CK:=[.fz,.fz,.fz,.fz,.fz,.fz,.fz,.fz,.fz,.fz,.fz,.fz,.fz,.fz,.fz,.fz,.fz,.fz,.fz,.fz,.fz,.own 106,.own 107]
@[simp]theorem Z8K(s:Ck)k l:(s.put k l).h=s.h:=by
 unfold Ck.put;split;rfl;split;rfl;split<;>rfl
def qf{l k x}:Tk (.i .u64) (Ye vi l) (vu k) (vi x)=J (Ye vi<|XY l k x):=La
def qg{l k a b}:Tk (.i .u64) (Ye Wf l) (vu k) (.agg [vi a,vi b])=J (Ye Wf<|XY l k (a,b)):=La (f:=Wf) (x:=(a,b))
def ql{s:Ck}(r:s.h.ok){k:Int}(w:1<=k/\k<=4){l:List Ob}(x:I l<=1000000):Vv xP 86 [.mem zY,.fz,.fz] [.agg<|ZW s,vi k,.sl<|l.map ZO]<|.al [.al [],.agg<|ZW<|XX s k l]:=by
 refine JV Z28 follows Z2 c86 Z2 ?_;have t:k=1\/k=2\/k=3\/k=4:=Z0;have q:I l<=Y4:=by unfold Y4;omega
 have u:∀k,({s.put k l with pm:=s.pm,lm:=s.lm}:Ck)=s.put k l:=by
  intro k;unfold Ck.put;split;rfl;split;rfl;split<;>rfl
 have o:=λ(k at_:Int)=>Fs r.bc (part:=k) (at_:=at_);unfold Zv X2 at o;obtain rfl|rfl|rfl|rfl:=t
 .simp[Lv,ZW,Y8,T7,RH,Ty,Ub,UA,setCells];refine Uf 3 (I l) (λi=>[(0,.m<|ZW {s.put 1 l with pm:=WF s.h 1 s.pm<|l.take i,lm:=XC s.h 1 s.lm (l.take i)}),(3,.v<|vi i)]) (λ_=>True) (by simp[ZW,Ck.put,WF,XC]) Z1 trivial ?_;intro i p _;have d:=Zx ((i:Int)+1) Z0 Z0;by_cases a:i<I l
  .have f:l[i]?=J l[i]:=ZhG a;have g:=Lj (h:=s.h) (k:=1) (m:=s.pm) f;have j:=Lh (h:=s.h) (k:=1) (m:=s.lm) f;have n:=o 1 (l[i]).ab;simp[a,f,d,ZW,X8];refine Zy n Z1 ?_;simp[qf,qg,g,j,d,a];first|done|rfl|exact⟨rfl,rfl⟩
  have:i=I l:=Z0;subst this;simp[ZW,XX,ZiT]
 .simp[Lv,ZW,Y8,T7,RH,Ty,Ub,UA,setCells];refine Uf 3 (I l) (λi=>[(0,.m<|ZW {s.put 2 l with pm:=WF s.h 2 s.pm<|l.take i,lm:=XC s.h 2 s.lm (l.take i)}),(3,.v<|vi i)]) (λ_=>True) (by simp[ZW,Ck.put,WF,XC]) Z1 trivial ?_;intro i p _;have d:=Zx ((i:Int)+1) Z0 Z0;by_cases a:i<I l
  .have f:l[i]?=J l[i]:=ZhG a;have g:=Lj (h:=s.h) (k:=2) (m:=s.pm) f;have j:=Lh (h:=s.h) (k:=2) (m:=s.lm) f;have n:=o 2 (l[i]).ab;simp[a,f,d,ZW,X8];refine Zy n Z1 ?_;simp[qf,qg,g,j,d,a];first|done|rfl|exact⟨rfl,rfl⟩
  have:i=I l:=Z0;subst this;simp[ZW,XX,ZiT]
 .simp[Lv,ZW,Y8,T7,RH,Ty,Ub,UA,setCells];refine Uf 3 (I l) (λi=>[(0,.m<|ZW {s.put 3 l with pm:=WF s.h 3 s.pm<|l.take i,lm:=XC s.h 3 s.lm (l.take i)}),(3,.v<|vi i)]) (λ_=>True) (by simp[ZW,Ck.put,WF,XC]) Z1 trivial ?_;intro i p _;have d:=Zx ((i:Int)+1) Z0 Z0;by_cases a:i<I l
  .have f:l[i]?=J l[i]:=ZhG a;have g:=Lj (h:=s.h) (k:=3) (m:=s.pm) f;have j:=Lh (h:=s.h) (k:=3) (m:=s.lm) f;have n:=o 3 (l[i]).ab;simp[a,f,d,ZW,X8];refine Zy n Z1 ?_;simp[qf,qg,g,j,d,a];first|done|rfl|exact⟨rfl,rfl⟩
  have:i=I l:=Z0;subst this;simp[ZW,XX,ZiT]
 .simp[Lv,ZW,Y8,T7,RH,Ty,Ub,UA,setCells];refine Uf 3 (I l) (λi=>[(0,.m<|ZW {s.put 4 l with pm:=WF s.h 4 s.pm<|l.take i,lm:=XC s.h 4 s.lm (l.take i)}),(3,.v<|vi i)]) (λ_=>True) (by simp[ZW,Ck.put,WF,XC]) Z1 trivial ?_;intro i p _;have d:=Zx ((i:Int)+1) Z0 Z0;by_cases a:i<I l
  .have f:l[i]?=J l[i]:=ZhG a;have g:=Lj (h:=s.h) (k:=4) (m:=s.pm) f;have j:=Lh (h:=s.h) (k:=4) (m:=s.lm) f;have n:=o 4 (l[i]).ab;simp[a,f,d,ZW,X8];refine Zy n Z1 ?_;simp[qf,qg,g,j,d,a];first|done|rfl|exact⟨rfl,rfl⟩
  have:i=I l:=Z0;subst this;simp[ZW,XX,ZiT]
end Vm
namespace Vm
open Go Go.Proofs
def Vg(s:Ck):V:=.ptr [X7 s]
def Zan{s:Ck}{a w:Int}(d:ZB w):VC xP 89 xw [vi a,vu w,Vg s]<|.bool<|YO s w 1 2:=by
 refine ZT Z2b follows Z2 c89 rfl ?_;have k:=LE (s:=s) (first:=1) (last:=2) d;unfold Vg X7 at*;simp[NM,YP,V.one];refine Zy k Z1 ?_;simp
def Zao{s:Ck}{a w:Int}(d:ZB w):VC xP 90 xw [vi a,vu w,Vg s]<|.bool<|decide (s.h.Z<=a)||YO s w 1 2:=by
 refine ZT Z2c follows Z2 c90 rfl ?_;have k:=LE (s:=s) (first:=1) (last:=2) d;unfold Vg X7 at*;by_cases h:s.h.Z<=a;simp[Cw,YP,V.one,ZW,h];simp[Cw,YP,V.one,ZW,h];refine Zy k (by simp[ZW]) ?_;simp[h]
def Zbv{s:Ck}{a w:Int}(d:ZB w):VC xP 91 xw [vi a,vu w,Vg s]<|.bool<|decide (a<s.h.Z)||YO s w 1 4:=by
 refine ZT Z2d follows Z2 c91 rfl ?_;have k:=LE (s:=s) (first:=1) (last:=4) d;unfold Vg X7 at*;by_cases h:a<s.h.Z;simp[Cy,YP,V.one,ZW,h];simp[Cy,YP,V.one,ZW,h];refine Zy k (by simp[ZW]) ?_;simp[h]
def IN{s:Ck}{a w:Int}(d:ZB w):VC xP 92 xw [vi a,vu w,Vg s]<|.bool<|YO s w 3 4:=by
 refine ZT Z2e follows Z2 c92 rfl ?_;have k:=LE (s:=s) (first:=3) (last:=4) d;unfold Vg X7 at*;simp[NN,YP,V.one];refine Zy k Z1 ?_;simp
structure Ck.ok (s:Ck):Prop where
 h:s.h.ok
 ob:∀k,∀o∈s.dn k,Kg (I<|Zz s.h k) o/\ZB o.target
 len:∀k,I (s.dn k)<=1000000
def Ud(ws:List Int)(k:Nat):Int:=(ws[k]?).getD 0
def obQ(s:Ck)(k:Int)(q:Int->Int->Bool)(o:Ob):Bool:=o.gone||(List.range o.Y.toNat).all λj=>q ((o.ab.toNat+1+j:Nat):Int)<|Ud (Zz s.h k)<|o.ab.toNat+1+j
def V1(s:Ck)(k:Int)(q:Int->Int->Bool):Bool:=(s.dn k).all<|obQ s k q
def LD{s:Ck}(u:s.ok){k:Int}(W:1<=k/\k<=4){f:FuncId}{cs:List V}{q:Int->Int->Bool}(hq:∀a w,ZB w->VC xP f xw ([vi a,vu w]++cs) (.bool<|q a w)):
  VC xP 88 xw [X7 s,vi k,.cn f cs] (.bool<|V1 s k q):=by
 refine ZT Z2a follows Z2 c88 rfl ?_;simp[-List.all_eq_true,-List.all_eq_false,NL];refine Zy (Z0u W) Z1 ?_;have Z:Y0 (.agg [.sl<|s.o1.map ZO,.sl<|s.o2.map ZO,.sl<|s.o3.map ZO,.sl<|s.o4.map ZO]) 0=J (.sl<|s.o1.map ZO):=rfl;have Q:=u.len k;have D:=u.ob k;have hw:=(XQ u.h k).1;have Y:=(XQ u.h k).2;have x:Y8 (.agg [.sl<|s.o1.map ZO,.sl<|s.o2.map ZO,.sl<|s.o3.map ZO,.sl<|s.o4.map ZO]) (.int .i64<|IntKind.i64.wrap<|k-1) 4 1 xk=J (.agg [.sl<|(s.dn k).map ZO]):=by
  have:k=1\/k=2\/k=3\/k=4:=Z0;obtain rfl|rfl|rfl|rfl:=this<;>simp[Y8,Ck.dn,RH,Ty,Ub,UA]
 unfold V1;generalize hL:s.dn k=L at*;generalize S:Zz s.h k=r at*;simp[-List.all_eq_true,-List.all_eq_false,X7,ZW,x];refine zq 5 (I L) (λi=>(L.take i).all (obQ s k q)=xk) Z1 Z1 Z1 ?_;intro i hi O;have a0:=Zx ((i:Int)+1) Z0 Z0;by_cases l:i<I L;have M:L[i]?=J L[i]:=ZhG l;obtain⟨⟨⟨a,N,P⟩,F⟩,_⟩:=D _<|Zi5 l;generalize L[i]=o at*;obtain⟨s1,s2,s3,s4⟩:=Yz.1 F;obtain⟨m,R⟩:=ZhW s3;have G:=Zx ((a:Int)+1) Z0 Z0;have C:obQ s k q o=xk->(L.take<|i+1).all (obQ s k q)=xk:=λh=>by simp_all[Fx]
 have y:obQ s k q o=xw->L.all (obQ s k q)=xw:=λg=>Fw M g;cases z:o.gone;have t:obQ s k q o=(List.range m).all λj=>q ((a+1+j:Nat):Int)<|Ud r<|a+1+j:=by
  unfold obQ;rw[R,N,S,z];rfl
 simp[-List.all_eq_true,-List.all_eq_false,l,M,Yl M,X8,z,N,R];refine zq 11 m (λj=>((List.range j).all λj=>q ((a+1+j:Nat):Int)<|Ud r<|a+1+j)=xk) Z1 Z1 Z1 ?_;intro j hj T;have a1:=Zx ((j:Int)+1) Z0 Z0;by_cases A:j<m;obtain⟨w,d,hu⟩:∃w,r[a+1+j]?=J w/\ZB w:=⟨_,ZhG Z0,hw _<|Zi5 _⟩;have K:Ud r (a+1+j)=w:=by unfold Ud;rw[d];rfl
 have p:((List.range<|j+1).all λj=>q ((a+1+j:Nat):Int)<|Ud r<|a+1+j)=(((List.range j).all λj=>q ((a+1+j:Nat):Int)<|Ud r<|a+1+j)&&q ((a+1+j:Nat):Int) w):=by
  rw[Zk2,List.all_append];simp[K]
 have g:q ((a+1+j:Nat):Int) w=xw->L.all (obQ s k q)=xw:=λg=>y (by
  grind)
 obtain⟨n,X⟩:∃n,a+1+j=n:=⟨_,rfl⟩;have B:(a:Int)+1+(j:Int)=(n:Int):=Z0;have H:=Zx (n:Int) Z0 Z0;rw[X]at d p g;have kq:=hq (n:Int) w hu;simp[-List.all_eq_true,-List.all_eq_false,A,G,B,H,d,Yl d,X8];refine Zy kq Z1 ?_;simp_all;have:j=m:=Z0;simp_all;have t:obQ s k q o=xk:=by unfold obQ;rw[z];rfl
 simp_all;have:i=I L:=Z0;simp_all
@[simp]theorem ZfA l:(V.ptr l).one=xk:=rfl
@[simp]theorem Zfp l:YP (.ptr l)=J (.ptr l):=rfl
@[simp]theorem Zfw f l:(V.cn f l).one=xk:=rfl
@[simp]theorem Zfl f l:YP (.cn f l)=J (.cn f l):=rfl
@[simp]theorem Zfk s:YP (X7 s)=J (X7 s):=rfl
@[simp]theorem Zfv s:(X7 s).one=xk:=rfl
@[simp]theorem Zg2 s:Tw (X7 s)=J (.agg<|ZW s):=rfl
@[simp]theorem ZdB s:(ZW s)[4]?=J (vi s.h.Z):=rfl
@[simp]theorem Zdu s:(ZW s)[3]?=J (.bool s.h.M):=rfl
@[simp]theorem ZdA s:(ZW s)[9]?=J (.sl<|s.h.E.map vu):=rfl
@[simp]theorem Zdy s:(ZW s)[5]?=J (.sl<|s.h.H.map vu):=rfl
@[simp]theorem Zdw s:(ZW s)[6]?=J (.sl<|s.h.aa.map vu):=rfl
@[simp]theorem Zdz s:(ZW s)[7]?=J (.sl<|s.h.ah.map vu):=rfl
@[simp]theorem Zdv s:(ZW s)[8]?=J (.sl<|s.h.ak.map vu):=rfl
@[simp]theorem Zdt s:(ZW s)[1]?=J (vi s.h.cap):=rfl
def QD(s:Ck):Bool:=s.h.E.all (λw=>YO s w 1 2)&&(V1 s 2 (λ_ w=>YO s w 1 2)&&V1 s 1 (λa w=>decide (s.h.Z<=a)||YO s w 1 2))
def Zap{s:Ck}(n:s.ok):VC xP 70 xw [X7 s]<|.bool<|QD s:=by
 refine ZT Z1W follows Z2 c70 rfl ?_;have k1:=LD n (k:=2) Z0 (f:=89) (cs:=[Vg s]) (q:=λ_ w=>YO s w 1 2) (λa w l=>Zan l);have y:=LD n (k:=1) Z0 (f:=90) (cs:=[Vg s]) (q:=λa w=>decide (s.h.Z<=a)||YO s w 1 2) (λa w l=>Zao l);have C:=λw (l:ZB w)=>LE (s:=s) (first:=1) (last:=2) l;have A:=n.h.E;have t:=n.h.df;unfold QD;unfold Vg at k1 y;generalize V1 s 2 (λ_ w=>YO s w 1 2)=z at*;generalize V1 s 1 (λa w=>decide (s.h.Z<=a)||YO s w 1 2)=D at*;simp[-List.all_eq_true,-List.all_eq_false,NA];refine zq 3 (I s.h.E) (λi=>(s.h.E.take i).all (λw=>YO s w 1 2)=xk) Z1 Z1 Z1 ?_;intro i F g;have u:=Zx ((i:Int)+1) Z0 Z0;by_cases j:i<I s.h.E;have o:s.h.E[i]?=J s.h.E[i]:=ZhG j;have B:=t _<|Zi5 j;generalize s.h.E[i]=w at*;have p:YO s w 1 2=xw->s.h.E.all (λw=>YO s w 1 2)=xw:=λr=>Fw o r;have d:=Fx (q:=λw=>YO s w 1 2) o;rw[g]at d;simp[-List.all_eq_true,-List.all_eq_false,j,o,Yl o,X8];refine Zy (C w B) Z1 ?_;cases x:YO s w 1 2;simp[-List.all_eq_true,-List.all_eq_false,p x];rw[x]at d;simp[-List.all_eq_true,-List.all_eq_false,u,j,d];have:i=I s.h.E:=Z0;subst this;rw[Zjm]at g;simp[-List.all_eq_true,-List.all_eq_false,g];refine Zy k1 (by simp[WD,V.bf]) ?_;cases z;simp;simp;refine Zy y (by simp[WD,V.bf]) ?_;simp
def QK(s:Ck):Bool:=V1 s 1 (λa w=>decide (a<s.h.Z)||YO s w 1 4)
def Zbw{s:Ck}(d:s.ok):VC xP 71 xw [X7 s]<|.bool<|QK s:=by
 refine ZT Z1X follows Z2 c71 rfl ?_;have k1:=LD d (k:=1) Z0 (f:=91) (cs:=[Vg s]) (q:=λa w=>decide (a<s.h.Z)||YO s w 1 4) (λa w g=>Zbv g);unfold QK;unfold Vg at k1;simp[NB];refine Zy k1 (by simp[WD,V.bf]) ?_;simp
def Qh(s:Ck):Bool:=V1 s 3 (λ_ w=>YO s w 3 4)&&V1 s 4 (λ_ w=>YO s w 3 4)
def Z60{s:Ck}(g:s.ok):VC xP 72 xw [X7 s]<|.bool<|Qh s:=by
 refine ZT Z1Y follows Z2 c72 rfl ?_;have k1:=LD g (k:=3) Z0 (f:=92) (cs:=[Vg s]) (q:=λ_ w=>YO s w 3 4) (λa w d=>IN d);have h:=LD g (k:=4) Z0 (f:=92) (cs:=[Vg s]) (q:=λ_ w=>YO s w 3 4) (λa w d=>IN d);unfold Qh;unfold Vg at k1 h;generalize V1 s 3 (λ_ w=>YO s w 3 4)=j at*;generalize V1 s 4 (λ_ w=>YO s w 3 4)=l at*;simp[NC];refine Zy k1 (by simp[WD,V.bf]) ?_;cases j;simp;simp;refine Zy h (by simp[WD,V.bf]) ?_;simp
end Vm
namespace Vm
open Go Go.Proofs
def R4(s:Ck):Bool:=ZI (Zv s.h)&&(decide (I s.h.E<=16)&&(decide (0<=s.h.Z)&&decide (s.h.Z<=I s.h.H)))
def Z2X{s:Ck}(f:s.h.ok):VC xP 66 xw [X7 s]<|.bool<|R4 s:=by
 refine ZT Z1S follows Z2 c66 rfl ?_;have k:=LV f.bc;unfold R4;unfold Zv X2 at k;simp[Ny];simp[ZW];refine Zy k Z1 ?_;have e:ZI {base:=s.h.base,cap:=s.h.cap,to:=s.h.to,H:=(I s.h.H:Int),aa:=(I s.h.aa:Int),ah:=(I s.h.ah:Int),ak:=(I s.h.ak:Int)}=ZI (Zv s.h):=rfl;rw[e];cases ZI (Zv s.h);simp;by_cases d:I s.h.E<=16;have a:(I s.h.E:Int)<=16:=Z0;simp_all;have a:¬(I s.h.E:Int)<=16:=Z0;simp[d,a]
def Qy(s:Ck):Bool:=if s.h.M then decide (s.h.Z<I s.h.H)else decide (I s.h.ah=0)&&(decide (I s.h.ak=0)&&decide (s.h.Z=I s.h.H))
def Z9u{s:Ck}:VC xP 67 xw [X7 s]<|.bool<|Qy s:=by
 refine ZT Z1T follows Z2 c67 rfl ?_;unfold Qy;cases f:s.h.M;by_cases g:I s.h.ah=0;have a:s.h.ah=[]:=ZjA.1 g;by_cases j:I s.h.ak=0;have d:s.h.ak=[]:=ZjA.1 j;simp[Lu,f,a,d];have d:¬s.h.ak=[]:=λe=>j (by simp[e]);simp[Lu,f,a,j,d];have a:¬s.h.ah=[]:=λe=>g (by simp[e]);simp[Lu,f,g,a];simp[Lu,f]
def SR(s:Ck):Nat:=Y2 s.o3+Y2 s.o4
@[simp]theorem Zfb s:((ZW s).drop 17).take 4=[.sl<|s.o1.map ZO,.sl<|s.o2.map ZO,.sl<|s.o3.map ZO,.sl<|s.o4.map ZO]:=rfl
@[simp]theorem Zdx s:I (ZW s)=23:=rfl
def Z0e{s:Ck}(t:s.ok):VC xP 55 xw [X7 s]<|vi<|SR s:=by
 refine ZT Z1O follows Z2 c55 rfl ?_;have p:∀k,∀o∈s.dn k,Yv o.size o.Y=xk:=λk o n=>(t.ob k o n).1.2;have K:I s.o3<=1000000:=t.len 3;have L:I s.o4<=1000000:=t.len 4;have a:∀o∈s.o3,Yv o.size o.Y=xk:=p 3;have d:∀o∈s.o4,Yv o.size o.Y=xk:=p 4;have F:=JY a;have G:=JY d;have A:Y8 (.agg [.sl<|s.o1.map ZO,.sl<|s.o2.map ZO,.sl<|s.o3.map ZO,.sl<|s.o4.map ZO]) (.int .i64 2) 4 1 xk=J (.agg [.sl<|s.o3.map ZO]):=by simp[Y8]
 have B:Y8 (.agg [.sl<|s.o1.map ZO,.sl<|s.o2.map ZO,.sl<|s.o3.map ZO,.sl<|s.o4.map ZO]) (.int .i64 3) 4 1 xk=J (.agg [.sl<|s.o4.map ZO]):=by simp[Y8]
 simp[Nt];refine SX (λ(i:Nat)=>[(2,.v<|vi ((if 0<i then Y2 s.o3 else 0)+(if 1<i then Y2 s.o4 else 0):Nat)),(3,.v<|vi ((i+3:Nat):Int))]) (λi=>i<=2) (Xi 3 5) 0 Z1 Z1 ?_;rintro i M;have q:i=0\/i=1\/i=2:=Z0;obtain rfl|rfl|rfl:=q;simp[Ub,A];refine Uf 5 (I s.o3) (λj=>[(2,.v<|vi<|Y2<|s.o3.take j),(5,.v<|vi j)]) (λ_=>True) (by simp[Y2]) (λi=>Z1) trivial ?_;rintro j H-;have w:=Zx ((j:Int)+1) Z0 Z0;by_cases h:j<I s.o3;have x:s.o3[j]?=J s.o3[j]:=ZhG h;have f:=a _<|Zi5 h;have u:=Z0D x;generalize s.o3[j]=o at*;have r:Y2 (s.o3.take j)<=256*I s.o3:=by
  refine Zif (JY λo n=>a o<|ZiH n) ?_;simp;omega
 obtain⟨g1,g2,C,D⟩:=Yz.1 f;obtain⟨z,y⟩:=ZhW g1;have w1:=Zx (1+(z:Int)) Z0 Z0;have w2:=Zx ((Y2 (s.o3.take j):Int)+(1+z)) Z0 Z0;cases l:o.gone;have g:Wh o=1+z:=by simp[Wh,l,y]
 simp_all;have g:Wh o=0:=by simp[Wh,l]
 simp_all;have:j=I s.o3:=Z0;subst this;rw[Zjm];simp[X8,Zx];exact⟨1,Z0,Z1,ZhA⟩;simp[UA,B];refine Uf 5 (I s.o4) (λj=>[(2,.v<|vi (Y2 s.o3+Y2 (s.o4.take j):Nat)),(5,.v<|vi j)]) (λ_=>True) (by simp[Y2]) (λi=>Z1) trivial ?_;rintro j H-;have w:=Zx ((j:Int)+1) Z0 Z0;by_cases h:j<I s.o4;have x:s.o4[j]?=J s.o4[j]:=ZhG h;have f:=d _<|Zi5 h;have u:=Z0D x;generalize s.o4[j]=o at*;have r:Y2 (s.o4.take j)<=256*I s.o4:=by
  refine Zif (JY λo n=>d o<|ZiH n) ?_;simp;omega
 obtain⟨g1,g2,C,D⟩:=Yz.1 f;obtain⟨z,y⟩:=ZhW g1;have w1:=Zx (1+(z:Int)) Z0 Z0;have w2:=Zx ((Y2 s.o3:Int)+Y2 (s.o4.take j)+(1+z)) Z0 Z0;cases l:o.gone;have g:Wh o=1+z:=by simp[Wh,l,y]
 simp_all;omega;have g:Wh o=0:=by simp[Wh,l]
 simp_all;have:j=I s.o4:=Z0;subst this;rw[Zjm];simp[X8,Zx];exact⟨2,Z0,Z1,ZhA⟩;simp[SR]
def Qz(s:Ck):Bool:=decide ((I s.h.H:Int)+I s.h.aa+SR s<=s.h.cap)
def ZbE{s}(a:s.ok):SR s<=512*1000000:=by
 have f:=JY (l:=s.o3) λo d=>(a.ob 3 o d).1.2;have g:=JY (l:=s.o4) λo d=>(a.ob 4 o d).1.2;have h:I s.o3<=1000000:=a.len 3;have j:I s.o4<=1000000:=a.len 4;grind [SR]
def Z9B{s:Ck}(a:s.ok):VC xP 73 xw [X7 s]<|.bool<|Qz s:=by
 refine ZT Z1Z follows Z2 c73 rfl ?_;have d:=ZbE a;have f:=a.h.H;have g:=a.h.aa;have w1:=Zx ((I s.h.H:Int)+I s.h.aa) Z0 Z0;have w2:=Zx ((I s.h.H:Int)+I s.h.aa+SR s) Z0 Z0;simp[ND];refine Zy (Z0e a) Z1 ?_;simp[w1,w2,Qz]
end Vm
namespace Vm
open Go Go.Proofs
def WT(lm:List<|Int×(Int×Int))(ws:List Int):Nat->Nat->List (Int×Int)->List (Int×Int)
 |0,_,a=>a
 |f+1,i,a=>
  match ws[i]? with
  |none=>a
  |some w=>if(adr w).2=0 then(match Yb lm (adr w).1 with|none=>a|some sh=>WT lm ws f (i+1+sh.1.toNat)<|a++[sh])
   else if(ZR w).2.2=0 then WT lm ws f (i+1+(ZR w).1.toNat) a else a
def Ua(lm:List<|Int×(Int×Int))(ws:List Int):List<|Int×Int:=WT lm ws (I ws+1) 0 []
def Hm{α l k}{x:α}(h:Yb l k=J x):(k,x)∈l:=by
 obtain⟨y,a,rfl⟩:=ZhI.1 h;grind
def Zaq{s:Ck}(D:∀x∈s.lm,Yv x.2.1 x.2.2=xk){ws:List Int}(M:I ws<=1000000)(L:∀w∈ws,ZB w):
  VC xP 85 xw [X7 s,.sl<|ws.map vu] (.sl<|(Ua s.lm ws).map Wf):=by
 refine ZT Z27 follows Z2 c85 rfl ?_;have C:∀k,UN (.i .u64) (Ye Wf s.lm) (vu k) (.agg [vi 0,vi 0]) xk=match Yb s.lm k with
  |some x=>J<|.al [Wf x,.bool xk]
  |none=>J<|.al [.agg [vi 0,vi 0],.bool xw]:=λk=>by grind [Qk,Yb]
 have B:(ZW s)[22]?=J (Ye Wf s.lm):=rfl;simp[NK]
 refine SX (λ(p:Nat×List (Int×Int))=>[(3,.v<|.sl<|p.2.map Wf),(4,.v<|vi p.1)])
  (λp=>p.1<=I ws+256/\I p.2<=p.1/\∃f,I ws<f+p.1/\0<f/\Ua s.lm ws=WT s.lm ws f p.1 p.2) (Xi 4<|I ws) (0,[]) Z1 ⟨Z1,Z1,I ws+1,Z1,Z0,rfl⟩ ?_
 rintro⟨i,g⟩ ⟨K,r,f,G,H,a⟩;simp only at K r G a;cases f with
 |zero=>omega
 |succ f=>
 by_cases d:i<I ws;have y:ws[i]?=J ws[i]:=ZhG d;have F:=L _<|Zi5 d;generalize ws[i]=w at*;simp only[WT,y]at a;have u:I g+1<=Y4:=Zha;simp[d,y,Yl y,X8];refine Zy (RR F) Z1 ?_;by_cases A:(adr w).2=0;rw[ZhS A]at a;simp[A,B,C];cases t:Yb s.lm (adr w).1 with
 |none=>
  simp_all
 |some q=>
  rw[t]at a;simp only at a;have h:0<=q.1/\q.1<=255/\0<=q.2/\q.2<=q.1:=Yz.1<|D _<|Hm t;obtain⟨z,o⟩:=ZhW h.1;have l:=Zx (1+(z:Int)) Z0 Z0;have n:=Zx ((i:Int)+(1+z)) Z0 Z0;rw[o,Zi1]at a;simp[u,o,l,n];refine⟨i+1+z,g++[q],⟨Z0,ZgJ,f,Z0,?_,a⟩,⟨by simp[Wf,o],Z0⟩,Zhy⟩;omega
 rw[ZhP A]at a;simp[A,y,Yl y,d,X8];refine Zy (DX F) Z1 ?_;by_cases j:(ZR w).2.2=0;rw[ZhS j]at a;have h:=Yz.1<|DW j;obtain⟨z,o⟩:=ZhW h.1;have l:=Zx (1+(z:Int)) Z0 Z0;have n:=Zx ((i:Int)+(1+z)) Z0 Z0;rw[o,Zi1]at a;simp[j,o,l,n];refine⟨i+1+z,g,⟨Z0,Z0,f,Z0,?_,a⟩,⟨rfl,Z0⟩,Zhy⟩;omega;simp_all;simp_all[ZiM,WT]
end Vm
namespace Vm
open Go Go.Proofs
def WB(pm:List<|Int×Int):List Ob->List (Int×Bool)->Option (List<|Int×Bool)
 | [],m=>J m
 |o::l,m=>if o.gone=xk then(if(Yb pm o.target).getD 0=1/\(Yb m o.target).getD xw=xw then WB pm l (XY m o.target xk)else U)else WB pm l m
def RX(s:Ck):Bool:= !s.h.M||match(WB s.pm s.o3 []).bind (WB s.pm s.o4)with
 |none=>xw
 |some m=>decide (I m=I s.o1)
def Mk{l k x}:Tk (.i .u64) (Ye .bool l) (vu k) (.bool x)=J (Ye .bool<|XY l k x):=La
def Jm{l k}:UN (.i .u64) (Ye .bool l) (vu k) (.bool xw) xw=J (.bool<|(Yb l k).getD xw):=by
 grind [Qk]
def Jn{l k}:UN (.i .u64) (Ye vi l) (vu k) (vi 0) xw=J (vi<|(Yb l k).getD 0):=by
 grind [Qk]
def Z6Q{α}(f:α->V):Ye f []=.mp 0 [] []:=rfl
def Z3w{s:Ck}(t:s.ok):VC xP 69 xw [X7 s]<|.bool<|RX s:=by
 refine ZT Z1V follows Z2 c69 rfl ?_;have K:I s.o3<=1000000:=t.len 3;have L:I s.o4<=1000000:=t.len 4;have A:∀o∈s.o3,ZB o.target:=λo z=>(t.ob 3 o z).2;have B:∀o∈s.o4,ZB o.target:=λo z=>(t.ob 4 o z).2;have G:Y8 (.agg [.sl<|s.o1.map ZO,.sl<|s.o2.map ZO,.sl<|s.o3.map ZO,.sl<|s.o4.map ZO]) (.int .i64 2) 4 1 xk=J (.agg [.sl<|s.o3.map ZO]):=by simp[Y8]
 have H:Y8 (.agg [.sl<|s.o1.map ZO,.sl<|s.o2.map ZO,.sl<|s.o3.map ZO,.sl<|s.o4.map ZO]) (.int .i64 3) 4 1 xk=J (.agg [.sl<|s.o4.map ZO]):=by simp[Y8]
 have F:Y8 (.agg [.sl<|s.o1.map ZO,.sl<|s.o2.map ZO,.sl<|s.o3.map ZO,.sl<|s.o4.map ZO]) (.int .i64 0) 4 1 xk=J (.agg [.sl<|s.o1.map ZO]):=by simp[Y8]
 have k:(ZW s)[21]?=J (Ye vi s.pm):=rfl;have y:=(Z6Q V.bool).symm;unfold RX;cases D:s.h.M;simp[Ct,D];simp[Ct,D,y]
 refine SX (λ(p:Nat×List (Int×Bool))=>[(3,.v<|Ye .bool p.2),(4,.v<|vi ((p.1+3:Nat):Int))])
  (λp=>(p.1=0/\p.2=[])\/(p.1=1/\WB s.pm s.o3 []=J p.2)\/(p.1=2/\(WB s.pm s.o3 []).bind (WB s.pm s.o4)=J p.2)) (Xi 4 5) (0,[]) Z1 Z1 ?_
 rintro⟨i,m⟩ (⟨rfl,rfl⟩|⟨rfl,x⟩|⟨rfl,x⟩);simp[Ub,G];refine SX (λ(p:Nat×List (Int×Bool))=>[(3,.v<|Ye .bool p.2),(6,.v<|vi p.1)]) (λp=>p.1<=I s.o3/\WB s.pm s.o3 []=WB s.pm (s.o3.drop p.1) p.2) (Xi 6<|I s.o3) (0,[]) Z1 Z1 ?_;rintro⟨j,r⟩ ⟨w,a⟩;simp only at w a;have d:=Zx ((j:Int)+1) Z0 Z0;by_cases g:j<I s.o3;have f:s.o3[j]?=J s.o3[j]:=ZhG g;have u:=ZiD g;have C:=A _<|Zi5 g;generalize s.o3[j]=o at*;rw[u,WB]at a;cases l:o.gone;rw[l]at a;rw[ZhP Z1]at a;simp[X8,g,f,Yl f,l,d];exact⟨j+1,r,⟨Z0,a⟩,⟨rfl,Z0⟩,Zhy⟩;rw[l]at a;rw[ZhS rfl]at a;by_cases n:(Yb s.pm o.target).getD 0=1;cases q:(Yb r o.target).getD xw;rw[ZhS ⟨n,q⟩]at a;simp[X8,g,f,Yl f,l,d,k,Jn,Jm,WD,V.bf,n,q,Mk];exact⟨j+1,XY r o.target xk,⟨Z0,a⟩,⟨rfl,Z0⟩,Zhy⟩;rw[ZhP (by simp[q])]at a;simp[X8,g,f,Yl f,l,d,k,Jn,Jm,WD,V.bf,n,q,a];rw[ZhP (by simp[n])]at a;simp[X8,g,f,Yl f,l,d,k,Jn,Jm,WD,V.bf,n,a];have:j=I s.o3:=Z0;subst this;rw[List.drop_length,WB]at a;simp[Zx];exact⟨1,r,by simp[a],Z1,ZhA⟩;simp[UA,H];refine SX (λ(p:Nat×List (Int×Bool))=>[(3,.v<|Ye .bool p.2),(6,.v<|vi p.1)]) (λp=>p.1<=I s.o4/\WB s.pm s.o4 m=WB s.pm (s.o4.drop p.1) p.2) (Xi 6<|I s.o4) (0,m) Z1 Z1 ?_;rintro⟨j,r⟩ ⟨w,a⟩;simp only at w a;have d:=Zx ((j:Int)+1) Z0 Z0;by_cases g:j<I s.o4;have f:s.o4[j]?=J s.o4[j]:=ZhG g;have u:=ZiD g;have C:=B _<|Zi5 g;generalize s.o4[j]=o at*;rw[u,WB]at a;cases l:o.gone;rw[l]at a;rw[ZhP Z1]at a;simp[X8,g,f,Yl f,l,d];exact⟨j+1,r,⟨Z0,a⟩,⟨rfl,Z0⟩,Zhy⟩;rw[l]at a;rw[ZhS rfl]at a;by_cases n:(Yb s.pm o.target).getD 0=1;cases q:(Yb r o.target).getD xw;rw[ZhS ⟨n,q⟩]at a;simp[X8,g,f,Yl f,l,d,k,Jn,Jm,WD,V.bf,n,q,Mk];exact⟨j+1,XY r o.target xk,⟨Z0,a⟩,⟨rfl,Z0⟩,Zhy⟩;rw[ZhP (by simp[q])]at a;simp[X8,g,f,Yl f,l,d,k,Jn,Jm,WD,V.bf,n,q,x,a];rw[ZhP (by simp[n])]at a;simp[X8,g,f,Yl f,l,d,k,Jn,Jm,WD,V.bf,n,x,a];have:j=I s.o4:=Z0;subst this;rw[List.drop_length,WB]at a;simp[Zx];exact⟨2,r,ZgH,Z1,ZhA⟩;simp[RH,Ub,F];grind
end Vm
namespace Vm
open Go Go.Proofs
def RP:Prop:=∀a:List Int,I a<=1000000->(∀w∈a,ZB w)->VC xP 82 xk [.sl<|a.map vu] (.al [.sl<|(ZP a [] xw).1.map ZO,vi (ZP a [] xw).2])
def RQ:Prop:=∀(d:List Int) (a:List<|Int×Int),I d<=1000000->I a<=1000000->(∀w∈d,ZB w)->(∀x∈a,Yv x.1 x.2=xk)->
 VC xP 84 xk [.sl<|d.map vu,.sl<|a.map Wf] (.al [.sl<|(ZP d a xk).1.map ZO,vi (ZP d a xk).2])
def Xt(s:Ck)(k:Int):List Ob×Int:=if k<=2 then ZP (Zz s.h k) [] xw else ZP (Zz s.h k) (Ua s.lm<|Zz s.h k) xk
def V7:List Int->Ck->Bool×Ck
 | [],s=>(xk,s)
 |k::l,s=>if(Xt s k).2=0 then V7 l (XX s k (Xt s k).1)else(xw,s)
def Wg(s:Ck):Bool×Ck:=V7 [1,2,3,4] s
def Qp s k l:(XX s k l).h=s.h:=Z8K s k l
def Z8H{α l k x}{y:Int×α}(h:y∈XY l k x):y=(k,x)\/y∈l:=by
 grind [XY]
def Jr{h k}:∀ {l} {m:List (Int×(Int×Int))},(∀o∈l,Yv o.size o.Y=xk)->(∀x∈m,Yv x.2.1 x.2.2=xk)->∀x∈XC h k m l,Yv x.2.1 x.2.2=xk
 | [],m,_,a=>a
 |o::l,m,f,a=>by
  rw[XC];refine Jr ZgI ?_;split;intro x d;obtain rfl|d:=Z8H d;simp_all;grind;exact a
def zn{s}(a:s.h.ok){k}:(∀o∈(Xt s k).1,Kg (I<|Zz s.h k) o/\ZB o.target)/\(Xt s k).1.length<=I (Zz s.h k):=by
 unfold Xt;split;exact⟨Z0j (XQ a k).1,Z0k⟩;exact⟨Z0j (XQ a k).1,Z0k⟩
def Dv{lm ws}:∀ {f i} {a:List (Int×Int)},I a<=i->I a<=I ws->I (WT lm ws f i a)<=I ws
 |0,i,a,_,h=>h
 |f+1,i,a,j,h=>by
  rw[WT];cases g:ws[i]? with
  |none=>exact h
  |some w=>
   have d:=(ZhH.1 g).1;simp only;split;split;exact h;exact Dv ZgJ ZgJ;split;exact Dv Z0 h;exact h
def Py{lm ws}:I (Ua lm ws)<=I ws:=Dv Z1 Z1
def jx{lm ws}(d:∀x∈lm,Yv x.2.1 x.2.2=xk):∀ {f i} {a:List (Int×Int)},(∀x∈a,Yv x.1 x.2=xk)->∀x∈WT lm ws f i a,Yv x.1 x.2=xk
 |0,i,a,h=>h
 |f+1,i,a,h=>by
  rw[WT];cases g:ws[i]? with
  |none=>exact h
  |some w=>
   simp only;split;split;exact h;rename_i k j;refine jx d ?_;intro x g;obtain g|g:=Zib.1 g;grind;simp at g;subst g;exact d _<|Hm j;split;exact jx d h;exact h
def jM:IntKind.i64.wrap 4=4:=ZgV
def ZbK(F:RP)(B:RQ){s:Ck}(G:s.h.ok)(D:∀x∈s.lm,Yv x.2.1 x.2.2=xk):Vv xP 68 [.mem zY] [.agg<|ZW s]<|.al [.bool (Wg s).1,.agg<|ZW (Wg s).2]:=by
 refine JV Z1U follows Z2 c68 Z2 ?_;simp[Nz];refine SX (λ(p:Nat×Ck)=>[(0,.m<|ZW p.2),(3,.v<|vi p.1)]) (λp=>p.1<=4/\p.2.h=s.h/\(∀x∈p.2.lm,Yv x.2.1 x.2.2=xk)/\Wg s=V7 ([1,2,3,4].drop p.1) p.2) (Xi 3 4) (0,s) Z1 ⟨Z1,rfl,D,rfl⟩ ?_;rintro⟨i,q⟩ ⟨H,A,n,f⟩;simp only at H A n f;have d:q.h.ok:=A▸G;have C:i=0\/i=1\/i=2\/i=3\/i=4:=Z0;have j:=λk K=>Z0u (s:=q) (k:=k) K;have w:=λk=>Zaq (s:=q) n (XQ d k).2 (XQ d k).1;obtain rfl|rfl|rfl|rfl|rfl:=C;replace j:=j 1 Z0;have st:=zn d (k:=1);have t:=ql (s:=q) d (k:=1) Z0 (l:=(Xt q 1).1)<|Zif st.2 (XQ d 1).2;have k1:=F _ (XQ d 1).2 (XQ d 1).1;have g:=Jr (h:=q.h) (k:=1) (l:=(Xt q 1).1) (m:=q.lm) (λo y=>(st.1 o y).1.2) n;replace f:Wg s=V7 (1:: [2,3,4]) q:=f;rw[V7]at f;have r:Xt q 1=ZP (Zz q.h 1) [] xw:=rfl;rw[<-r]at k1;generalize Xt q 1=z at*;obtain⟨l,e⟩:=z;simp only at k1 t f g st;unfold X7 ZW at j;unfold ZW at t;simp[ZW,Ty,Ub,UA,jM];refine Zy j Z1 ?_;simp;refine Zy k1 Z1 ?_;simp;by_cases u:e=0;rw[ZhS u]at f;simp[u];refine Ug t ?_;simp[Zx];exact⟨1,XX q 1 l,⟨Z0,by rw[Qp,A],λa b c h=>g (a,b,c) h,f⟩,⟨Z1,rfl⟩,ZhA⟩;simp_all;replace j:=j 2 Z0;have st:=zn d (k:=2);have t:=ql (s:=q) d (k:=2) Z0 (l:=(Xt q 2).1)<|Zif st.2 (XQ d 2).2;have k1:=F _ (XQ d 2).2 (XQ d 2).1;have g:=Jr (h:=q.h) (k:=2) (l:=(Xt q 2).1) (m:=q.lm) (λo y=>(st.1 o y).1.2) n;replace f:Wg s=V7 (2:: [3,4]) q:=f;rw[V7]at f;have r:Xt q 2=ZP (Zz q.h 2) [] xw:=rfl;rw[<-r]at k1;generalize Xt q 2=z at*;obtain⟨l,e⟩:=z;simp only at k1 t f g st;unfold X7 ZW at j;unfold ZW at t;simp[ZW,Ty,Ub,UA,jM];refine Zy j Z1 ?_;simp;refine Zy k1 Z1 ?_;simp;by_cases u:e=0;rw[ZhS u]at f;simp[u];refine Ug t ?_;simp[Zx];exact⟨2,XX q 2 l,⟨Z0,by rw[Qp,A],λa b c h=>g (a,b,c) h,f⟩,⟨Z1,rfl⟩,ZhA⟩;simp_all;replace j:=j 3 Z0;have st:=zn d (k:=3);have t:=ql (s:=q) d (k:=3) Z0 (l:=(Xt q 3).1)<|Zif st.2 (XQ d 3).2;have k1:=B _ (Ua q.lm<|Zz q.h 3) (XQ d 3).2 (Zif Py (XQ d 3).2) (XQ d 3).1<|jx n Z1;replace w:=w 3;have g:=Jr (h:=q.h) (k:=3) (l:=(Xt q 3).1) (m:=q.lm) (λo y=>(st.1 o y).1.2) n;replace f:Wg s=V7 (3:: [4]) q:=f;rw[V7]at f;have r:Xt q 3=ZP (Zz q.h 3) (Ua q.lm<|Zz q.h 3) xk:=rfl;rw[<-r]at k1;generalize Xt q 3=z at*;obtain⟨l,e⟩:=z;simp only at k1 t f g st;unfold X7 ZW at j w;unfold ZW at t;simp[ZW,Ty,Ub,UA,jM];refine Zy j Z1 ?_;simp;refine Zy j Z1 ?_;simp;refine Zy w Z1 ?_;simp;refine Zy k1 Z1 ?_;simp;by_cases u:e=0;rw[ZhS u]at f;simp[u];refine Ug t ?_;simp[Zx];exact⟨3,XX q 3 l,⟨Z0,by rw[Qp,A],λa b c h=>g (a,b,c) h,f⟩,⟨Z1,rfl⟩,ZhA⟩;simp_all;replace j:=j 4 Z0;have st:=zn d (k:=4);have t:=ql (s:=q) d (k:=4) Z0 (l:=(Xt q 4).1)<|Zif st.2 (XQ d 4).2;have k1:=B _ (Ua q.lm<|Zz q.h 4) (XQ d 4).2 (Zif Py (XQ d 4).2) (XQ d 4).1<|jx n Z1;replace w:=w 4;have g:=Jr (h:=q.h) (k:=4) (l:=(Xt q 4).1) (m:=q.lm) (λo y=>(st.1 o y).1.2) n;replace f:Wg s=V7 (4:: []) q:=f;rw[V7]at f;have r:Xt q 4=ZP (Zz q.h 4) (Ua q.lm<|Zz q.h 4) xk:=rfl;rw[<-r]at k1;generalize Xt q 4=z at*;obtain⟨l,e⟩:=z;simp only at k1 t f g st;unfold X7 ZW at j w;unfold ZW at t;simp[ZW,Ty,Ub,UA,jM];refine Zy j Z1 ?_;simp;refine Zy j Z1 ?_;simp;refine Zy w Z1 ?_;simp;refine Zy k1 Z1 ?_;simp;by_cases u:e=0;rw[ZhS u]at f;simp[u];refine Ug t ?_;simp[Zx];exact⟨4,XX q 4 l,⟨Z0,by rw[Qp,A],λa b c h=>g (a,b,c) h,f⟩,⟨Z1,rfl⟩,ZhA⟩;simp_all;replace f:Wg s=(xk,q):=f;simp[f,ZW]
end Vm
namespace Vm
open Go Go.Proofs
def ZbC{P f ks cs r}(hv:VC P f xw [.ptr cs] r)(G:r.bf=xk)(l:I cs=I ks)(u:cs.all V.one=xk)(D:ks.all (λk=> !(k==.fm))=xk):
  Vv P f [.mem ks] [.agg cs] (.al [r,.agg cs]):=by
 let⟨Q,R⟩:=hv;refine⟨Q,λB w h vs a S=> ?_⟩;let⟨a3,a2,C⟩:=S;let⟨tk,j,z⟩:=C 0 _ _ rfl rfl;simp only[Ws]at j;rw[ZhS l]at j;simp at j;subst j;let⟨b,O,T,q,M,hh,o⟩:=z;have n:∀(ks:List CK) cs,I cs=I ks->YB [] (((ks.zip cs).map λy=>(y.1,E.c y.2)).map (·.2))=J cs:=by
  intro ks;induction ks with
  |nil=>simp
  |cons k ks ih=>
   intro cs hl;obtain _|⟨c,cs⟩:=cs;simp at hl;simp_all
 have hz:eval [] (.pt U (((ks.zip cs).map λy=>(y.1,E.c y.2)).map (·.2)))=J (.ptr cs):=by
  simp only[eval,n ks cs l,ZhT,LF,u,ZiC]
 have Y:Wz ((ks.zip cs).map λy=>(y.1,E.c y.2))=xw:=by
  rw[Wz,ZkL];intro x N;obtain⟨y,A,rfl⟩:=Zi4.1 N;have:=ZhV.1 D y.1 (List.of_mem_zip A).1;simpa using this
 have a1:=L8 (G':=λb=>h.F b\/∃t i,h.bl t i=J b) q hh o Y hz (λb d=>.inl d) λi b d=>.inr ⟨0,i,d⟩;refine ZjL (R w (λb=>h.F b\/∃t i,h.bl t i=J b) vs (λb d=> ?_) Z0 λi x N=> ?_) λe w' Z=> ?_;obtain d|⟨t,i,d⟩:=d;exact a.bm b d;exact(a.aq t i b d).2.1;grind;obtain⟨v,rfl,g,L⟩:=Z;have p:=g.size;have X:=λb d=>g.block b<|a.bm b d;have W:=λt i b d=>g.block b (a.aq t i b d).2.1;have K:O.size=I cs:=by
  have:=o.1;simp at this;omega
 refine⟨v,r,[.agg cs],h,rfl,g.mono a.base,λb d=>g.block b<|a.cm b d,⟨Zif a.base p,λb d=>ZhO (a.bm b d) p,a.co,a.eh,λt i b d=> ?_,a.inj,λb d=>ZhO (a.cm b d) p,a.cg,a.ei⟩,rfl,L.fw G,⟨rfl,λi k y H a0 A=> ?_⟩,rfl⟩;let⟨q1,q2,q3⟩:=a.aq t i b d;grind;cases i with
 |zero=>
  simp at H A;subst H;subst A;refine⟨.mem _,by rw[Ws,ZhS l],b,O,T,q,M,?_,o.keep X Z1 Z1 λi b d=>W 0 _ b d⟩;grind
 |succ i=>simp at H
end Vm
namespace Vm
open Go Go.Proofs
def Tt:List FuncId:=[66,67,68,69,70,71,72,73]
def AT(f:FuncId):V:=.agg [.fn f]
def Z9H:VC xP 43 xw []<|.sl<|Tt.map AT:=by
 refine ZT Z1C follows Z2 c43 rfl ?_;simp[Nn,Tt,AT]
def SJ(f:FuncId)(s:Ck):Bool×Ck:=
 if f=66 then(R4 s,s)else if f=67 then(Qy s,s)else if f=68 then Wg s
 else if f=69 then(RX s,s)else if f=70 then(QD s,s)else if f=71 then(QK s,s)else if f=72 then(Qh s,s)else(Qz s,s)
structure Ck.okk (s:Ck):Prop where
 ok:s.ok
 lm:∀x∈s.lm,Yv x.2.1 x.2.2=xk
def Ck.lr(s:Ck)k l(a:1<=k/\k<=4)j:(s.put k l).dn j=if j=k\/(k=4/\¬(j=1\/j=2\/j=3))then l else s.dn j:=by
 have:k=1\/k=2\/k=3\/k=4:=Z0;obtain rfl|rfl|rfl|rfl:=this<;>simp[Ck.put,Ck.dn]<;>(split<;>simp_all)<;>(grind)<;>(grind)
def Z7b{s}(d:s.okk){k}(g:1<=k/\k<=4):(XX s k (Xt s k).1).okk:=by
 have st:=zn d.ok.h (k:=k);have l:=(XQ d.ok.h k).2;have a:∀j,(XX s k (Xt s k).1).dn j=((s.put k (Xt s k).1).dn j):=λj=>rfl;refine⟨⟨by rw[Qp];exact d.ok.h,λj o f=> ?_,λj=> ?_⟩,Jr (λo f=>(st.1 o f).1.2) d.lm⟩;rw[Qp];rw[a,Ck.lr _ _ _ g]at f;split at f;rename_i h;have:Zz s.h j=Zz s.h k:=by
  obtain rfl|⟨rfl,h⟩:=h;rfl;simp_all[Zm5,Zz]
 simp_all;exact d.ok.ob j o f;rw[a,Ck.lr _ _ _ g];split;omega;exact d.ok.len j
def Z0m:∀ {l} {s:Ck},(∀k∈l,1<=k/\k<=4)->s.okk->(V7 l s).2.okk/\(V7 l s).2.h=s.h
 | [],s,_,a=>⟨a,rfl⟩
 |k::l,s,d,a=>by
  rw[V7];split;simp_all[Z0m,Z7b,Qp];simp_all
def ZbI{s}(a:s.okk):(Wg s).2.okk/\(Wg s).2.h=s.h:=Z0m Z1 a
def P4{s}(a:s.okk){f}:(SJ f s).2.okk/\(SJ f s).2.h=s.h:=by
 unfold SJ;repeat' split
 all_goals first|exact⟨a,rfl⟩|exact ZbI a
def Z9G(j:RP)(d:RQ){s}(a:s.okk){f}(g:f∈Tt):Vv xP f [.mem zY] [.agg<|ZW s]<|.al [.bool (SJ f s).1,.agg<|ZW (SJ f s).2]:=by
 have go:∀ {f b},VC xP f xw [X7 s] _->Vv xP f [.mem zY] [.agg _] (.al [.bool b,.agg _]):=λh=>ZbC h rfl rfl rfl rfl;simp[Tt,ZkH]at g;obtain rfl|rfl|rfl|rfl|rfl|rfl|rfl|rfl:=g;exact go<|Z2X a.ok.h;exact go Z9u;exact ZbK j d a.ok.h a.lm;exact go<|Z3w a.ok;exact go<|Zap a.ok;exact go<|Zbw a.ok;exact go<|Z60 a.ok;exact go<|Z9B a.ok
def Ql:List FuncId->Ck->Option Ck
 | [],s=>J s
 |f::l,s=>if(SJ f s).1=xk then Ql l (SJ f s).2 else U
def XB(h:Hp):Ck:= {h:=h,o1:=[],o2:=[],o3:=[],o4:=[],pm:=[],lm:=[]}
def VF(h:Hp):Option Ck:=Ql Tt<|XB h
def Iv{h}(a:h.ok):(XB h).okk:=by
 have f:∀k,(XB h).dn k=[]:=λk=>by simp[XB,Ck.dn]
 refine⟨⟨a,λk o g=> ?_,λk=> ?_⟩,λx d=>(by simp[XB]at d)⟩;simp_all;simp_all
def BL(w:RP)(k:RQ){h:Hp}(y:h.ok):VC xP 22 xw [ZE h]<|.al [match VF h with|some s=>X7 s|none=>.ln 0,.bool (VF h).isSome]:=by
 refine ZT Z1o follows Z2 c22 rfl ?_;have k1:=jT (h:=h);have B:=Z9H;have a:I Tt=8:=rfl;unfold ZE at k1;simp[Nf];refine Zy k1 Z1 ?_;simp[X2,Zv];refine Zy B Z1 ?_;simp;refine SX (λ(p:Nat×Ck)=>[(5,.m<|ZW p.2),(6,.v<|vi p.1)]) (λp=>p.1<=8/\p.2.okk/\VF h=Ql (Tt.drop p.1) p.2) (Xi 6 8) (0,XB h) Zhw ⟨Z1,Iv y,rfl⟩ ?_;rintro⟨i,q⟩ ⟨z,n,g⟩;simp only at z n g;have o:=Zx ((i:Int)+1) Z0 Z0;by_cases d:i<I Tt;have t:Tt[i]?=J Tt[i]:=ZhG d;have x:=ZiD d;have A:=Zi5 d;generalize Tt[i]=f at*;rw[x,Ql]at g;have u:=Z9G w k n A;have l:=(P4 n (f:=f)).1;rw[a]at d;have j:(i:Int)<8:=Z0;simp[X8,d,j,t,Yl t,a,AT,ZW];unfold ZW at u;refine Ug u ?_;cases r:(SJ f q).1;rw[ZhP (by simp[r])]at g;simp[g];rw[ZhS r]at g;simp[o];exact⟨i+1,(SJ f q).2,⟨Z0,l,g⟩,⟨Z1,Z0⟩,Zhy⟩;have:i=8:=Z0;subst this;replace g:VF h=J q:=g;simp[a,g,ZW,X7]
def IW:∀ {l} {s q:Ck},s.okk->Ql l s=J q->q.okk/\q.h=s.h
 | [],s,q,a,h=>by simp[Ql]at h;subst h;exact⟨a,rfl⟩
 |f::l,s,q,a,h=>by
  rw[Ql]at h;split at h;have d:=P4 a (f:=f);have g:=IW d.1 h;exact⟨g.1,ZgI⟩;cases h
def Z67{h}(a:h.ok){q}(d:VF h=J q):q.okk/\q.h=h:=IW (Iv a) d
def Z0Q(d:RP)(a:RQ){h:Hp}(f:h.ok):VC xP 8 xw [ZE h]<|.bool (VF h).isSome:=by
 refine ZT Fh follows Z2 c8 rfl ?_;simp[p8];refine Zy (BL d a f) Z1 ?_;simp
def Lm(h:Hp)(k:Int):List Ob×Int:=match VF h with
 |some s=>if 1<=k/\k<=4 then(s.dn k,0)else([],1)
 |none=>([],1)
def Z0O(l:RP)(f:RQ){h:Hp}(n:h.ok){k:Int}:VC xP 74 xw [ZE h,vi k]<|.al [.sl<|(Lm h k).1.map ZO,vi (Lm h k).2]:=by
 refine ZT Ff follows Z2 c74 rfl ?_;simp[NE];refine Zy (BL l f n) Z1 ?_;unfold Lm;cases o:VF h with
 |none=>simp
 |some s=>
  by_cases g:1<=k;by_cases j:k<=4;have:k=1\/k=2\/k=3\/k=4:=Z0;obtain rfl|rfl|rfl|rfl:=this<;>simp[Y8,RH,Ty,Ub,UA,Ck.dn];have a:¬k<1:=Z0;have d:4<k:=Z0;simp[g,j,a,d];have a:k<1:=Z0;simp[g,a]
def jN(h:Hp):Nat:=match VF h with
 |some s=>SR s
 |none=>0
def Z0S(f:RP)(a:RQ){h:Hp}(d:h.ok):VC xP 37 xw [ZE h]<|vi<|jN h:=by
 refine ZT Z1y follows Z2 c37 rfl ?_;simp[Nk];refine Zy (BL f a d) Z1 ?_;unfold jN;cases g:VF h with
 |none=>simp
 |some s=>
  simp;refine Zy (Z0e (Z67 d g).1.ok) Z1 ?_;simp
end Vm
end
section
namespace Vm
open Go Go.Proofs
structure Stands (ws:List Int) (old:Bool) (o:Ob):Prop where
 gl:0<=o.ab
 shape:Yv o.size o.Y=xk
 an:o.ab+1+o.size<=I ws
 ff:Xw ((ws.drop<|o.ab.toNat+1).take o.size.toNat) o.gone o.Y 0=xk
 word:∃w,ws[o.ab.toNat]?=J w/\(if o.gone then old=xk/\(adr w).2=0/\o.target=(adr w).1 else(old=xk->¬(adr w).2=0)/\ZR w=(o.size,o.Y,0)/\o.target=0)
def Tiles(ws:List Int)(old:Bool):Nat->List Ob->Prop
 |a,[]=>I ws<=a
 |a,o::l=>o.ab=a/\Stands ws old o/\Tiles ws old (a+1+o.size.toNat) l
def Z7h{ws shs old a g t w o}(k:ws[a]?=J w)(f:Wm shs old a g w=J (o,t))(h:¬(I ws:Int)<a+1+o.size)
  (j:¬Xw ((ws.drop<|a+1).take o.size.toNat) o.gone o.Y 0=xw):o.ab=a/\Stands ws old o:=by
 have d:=qo f;refine⟨d.2,?_,d.1,?_,?_,w,?_,?_⟩;omega;omega;simp_all;simp_all;unfold Wm at f;grind
def Z0i{ws shs old}:∀f a j d l,Xs ws shs old f a j d=(l,0)->∃r,l=d++r/\Tiles ws old a r
 |0,_,_,_,_,h=>by simp[Xs]at h
 |f+1,a,j,d,l,h=>by
  unfold Xs at h;split at h;rename_i p;split at h;grind;simp[and_true]at h;subst h;exact⟨[],Z1,ZjV.1 p⟩;rename_i w x;split at h;grind;rename_i o t q;split at h;grind;rename_i k;split at h;grind;rename_i n;obtain⟨r,rfl,u⟩:=Z0i f _ _ _ _ h;have g:=Z7h x q k n;exact⟨o::r,Z1,g.1,g.2,u⟩
def SU{ws shs old l}(h:ZP ws shs old=(l,0)):Tiles ws old 0 l:=by
 let⟨r,a,d⟩:=Z0i _ _ _ _ _ h;simp_all
def Tiles.ba{ws old}:∀ {a} {l:List Ob},Tiles ws old a l->∀o∈l,Stands ws old o/\a<=o.ab
 |_,[],_,_,h=>Zhk
 |a,o::l,h,x,d=>by
  obtain rfl|d:=Zi6.1 d;exact⟨h.2.1,by rw[h.1];omega⟩;have:=Tiles.ba h.2.2 x d;grind
def Tiles.apart{ws old}:∀ {a} {l:List Ob},Tiles ws old a l->∀o∈l,∀q∈l,o=q\/o.ab+1+o.size<=q.ab\/q.ab+1+q.size<=o.ab
 |_,[],_,_,h,_,_=>Zhk
 |a,x::l,h,o,f,q,d=>by
  have e:=h.1;obtain rfl|f:=Zi6.1 f;obtain rfl|d:=Zi6.1 d;simp;have:=(Tiles.ba h.2.2 q d).2;omega;obtain d|d:=Zi6.1 d;have:=(Tiles.ba h.2.2 o f).2;grind;exact Tiles.apart h.2.2 o f q d
structure RightH (h:Hp) (p:Pts):Prop where
 fa:XF h=J p
 num:TS h=xk
 ok:SI h p=xk
 H:Tiles h.H xw 0 p.H
 aa:Tiles h.aa xw 0 p.aa
 ah:Tiles h.ah xk 0 p.ah
 ak:Tiles h.ak xk 0 p.ak
def Z9v{h}(k:Yk h=xk):∃p,RightH h p:=by
 let⟨p,a,g,j⟩:=Z9x k;refine⟨p,a,j,g,?_,?_,?_,?_⟩;all_goals
  unfold XF at a;dsimp only at a;split at a;cases a;split at a;cases a;rename_i c2;cases a;have c3:(ZP h.H [] xw).2=0/\(ZP h.aa [] xw).2=0:=by
   refine⟨Z0,Z0⟩
  have c4:∀x:Int,¬x≠0->x=0:=Z0;have f:=c4 _ (λd=>c2<|.inr<|.inr<|.inr d);first|exact SU (Zkn rfl c3.1)|exact SU (Zkn rfl c3.2)|exact SU (Zkn rfl<|c4 _ (λd=>c2<|.inr<|.inr<|.inl d))|exact SU<|Zkn rfl f
def RightH.am{h p}(r:RightH h p){k}(a:1<=k/\k<=4):Tiles (Zz h k) (decide (2<k)) 0<|p.at k:=by
 have:k=1\/k=2\/k=3\/k=4:=Z0;obtain rfl|rfl|rfl|rfl:=this;exact r.H;exact r.aa;exact r.ah;exact r.ak
def RightH.bc{h p}(r:RightH h p):ZI (Zv h)=xk:=by
 have:=r.num;simp_all[TS,ZhJ]
def ZX(l:Ly)(k a:Int):Int:=2*(ZC l k+a)+1
theorem UB{l}(d:ZI l=xk){k a}(f:0<=a):adr (ZX l k a)=(ZC l k+a,0):=by
 have:=Va d k;unfold adr ZX;grind
theorem R0{l}(g:ZI l=xk){k a}(f:1<=k/\k<=4)(d:0<=a/\a<YI l k):Y3 l k a=(ZC l k+a,0):=by
 simp_all[Y3,ZhP]
theorem Rb{l}(g:ZI l=xk){k a}(j:1<=k/\k<=4)(d:0<=a/\a<YI l k):Yg l (ZC l k+a)=(k,a,0):=by
 have h:=XH.1 g;have n:=jJ g;unfold Yg X1;have f:k=1\/k=2\/k=3\/k=4:=Z0;obtain rfl|rfl|rfl|rfl:=f;grind;simp[ZC,YI]at d⊢;grind;simp[ZC,YI]at d⊢;grind;simp[ZC,YI]at d⊢;grind
end Vm
namespace Vm
open Go Go.Proofs
def Hj{g}(a:ZI (Zv g)=xk):fwd g 0=(0,g,0):=by simp[fwd,a]
def De{l}(f:ZI l=xk){k a}(d:0<=a):¬ZX l k a=0:=by
 grind [ZX]
def fwd_here{g}(h:ZI (Zv g)=xk){k a:Int}(f:1<=k/\k<=2)(d:0<=a/\a< I (Zz g k)):fwd g (ZX (Zv g) k a)=(ZX (Zv g) k a,g,0):=by
 grind [UB,Rb,Tv,fwd]
def fwd_gone{g}(d:ZI (Zv g)=xk){k}{a:Nat}(p:3<=k/\k<=4){u}(o:(Zz g k)[a]?=J u)(f:(adr u).2=0):fwd g (ZX (Zv g) k a)=(u,g,0):=by
 have q:a< I (Zz g k):=ZgH;have h:=De d (k:=k) (a:=a) Z0;have j:=UB d (k:=k) (a:=a) Z0;have l:=Rb d (k:=k) (a:=a) Z0 (by rw[Tv Z0];omega);have n:(Zz g k).getD a 0=u:=by simp[o]
 unfold fwd;simp[-List.getD_eq_getElem?_getD,d,h,j,l,show ¬k<3 by omega,n,f]
def X3(g:Hp)(k:Int)(a n:Nat):Hp:=Xp (Xu g k a n) k<|(zr (Zz g k) a n).set a<|ZX (Zv g) 1<|I g.H
def Jp{g k a n}(d:a+n<=I (Zz g k)):Zv (Xu g k a n)= {Zv g with H:=(I g.H+n:Nat)}:=by
 simp_all[Zv,Xu,Ly.mk.injEq,true_and,and_true]
theorem Mi{g}(f:ZI (Zv g)=xk){k a n}(d:a+n<=I (Zz g k))(j:n<=Wa (Zv g)):ZI (Zv<|Xu g k a n)=xk:=by
 rw[Jp d];have e:Wa (Zv g)=(Zv g).cap- (Zv g).H- (Zv g).aa:=by unfold Wa;rw[f];rfl
 have h:(Zv g).H=I g.H:=rfl;grind [XH]
def C1{g k}(f:3<=k/\k<=4){a n}(d:a+n<=I (Zz g k)):Zv (X3 g k a n)= {Zv g with H:=(I g.H+n:Nat)}:=by
 rw[<-Jp d];apply Ee;rw[Zjs,jQ];have:k=3\/k=4:=Z0;obtain rfl|rfl:=this<;>rfl
def Z6O{g}(j:ZI (Zv g)=xk){k}(f:3<=k/\k<=4){a n}(d:a+n<=I (Zz g k))(h:n<=Wa (Zv g)):ZI (Zv<|X3 g k a n)=xk:=by
 rw[C1 f d,<-Jp d];grind [Mi]
def Z9f{g k}(d:3<=k/\k<=4){a n}(f:a+n<=I (Zz g k))j b:ZX (Zv<|X3 g k a n) j b=ZX (Zv g) j b:=by
 rw[C1 d f];rfl
def fwd_wait{g}(h:ZI (Zv g)=xk){k a}(C:3<=k/\k<=4){u}(B:(Zz g k)[a]?=J u)(q:¬(adr u).2=0){n:Nat}{pt}(p:ZR u=((n:Int),pt,0))
  (j:a+(n+1)<=I (Zz g k)) (A:((n+1:Nat):Int)<=Wa (Zv g)):fwd g (ZX (Zv g) k a)=(ZX (Zv g) 1<|I g.H,X3 g k a<|n+1,0):=by
 have r:=De h (k:=k) (a:=a) Z0;have t:=UB h (k:=k) (a:=a) Z0;have w:=Rb h (k:=k) (a:=a) Z0 (by grind [Tv]);have x:(Zz g k).getD a 0=u:=by simp[List.getD,B]
 have f:=Mi h j A;have y:Y3 (Zv<|Xu g k a<|n+1) 1 (I g.H)=(ZC (Zv g) 1+I g.H,0):=by
  have:=R0 f (k:=1) (a:=(I g.H:Int)) Z0 (by rw[Jp j];simp[YI,ZiC];omega);rw[this,Jp j];rfl
 have d:=Va f 1;rw[Jp j]at d;simp only[YI,ZiC]at d;have l:ZC {Zv g with H:=(I g.H+(n+1):Nat)} 1=ZC (Zv g) 1:=rfl;rw[l]at d;have z:Xr (ZC (Zv g) 1+I g.H)=(ZX (Zv g) 1<|I g.H,0):=by
  unfold Xr ZX;rw[ZhP Z0]
 unfold fwd;have o:¬k<3:=Z0;simp only[h,r,t,w,ZhP o,Zla,ZiF,Zm1,Zls,Zi1,x,q,p];unfold Re;rw[ZhP Z0,ZhP Z0];simp[y,z];rfl
theorem Ep{ws a}:∀n j,j<a\/a+n<=j->(zr ws a n)[j]?=ws[j]?
 |0,_,_=>rfl
 |n+1,j,h=>by
  unfold zr;rw[ZiO Z0];exact Ep n j Z0
def Mg{g k}(o:3<=k/\k<=4){a n}(p:0<n){j}(l:3<=j/\j<=4){b}(h:j≠k\/b<a\/a+n<=b):(Zz (X3 g k a n) j)[b]?=(Zz g j)[b]? :=by
 have f:k=3\/k=4:=Z0;have d:j=3\/j=4:=Z0;obtain rfl|rfl:=f<;>obtain rfl|rfl:=d<;>simp[X3,Xu,qL]
 grind [Ep];grind [Ep]
def C2{g k}(l:3<=k/\k<=4){a n j}(h:3<=j/\j<=4):I (Zz (X3 g k a n) j)=I (Zz g j):=by
 have f:k=3\/k=4:=Z0;have d:j=3\/j=4:=Z0;obtain rfl|rfl:=f<;>obtain rfl|rfl:=d<;>simp[X3,Xu]
def Z6N{g k}(h:3<=k/\k<=4){a n}(f:a+n<=I (Zz g k)):(X3 g k a n).H.length=I g.H+n/\(X3 g k a n).aa=g.aa:=by
 have d:k=3\/k=4:=Z0;obtain rfl|rfl:=d<;>simp[qL]at f<;>simp[X3,Xu]<;>omega
end Vm
namespace Vm
open Go Go.Proofs
def Dx{h ws low}:∀f i d l,Ve h ws low f i d=J l->∃r,l=d++r
 |0,_,_,_,a=>by simp[Ve]at a
 |f+1,i,d,l,a=>by
  unfold Ve at a;split at a;cases a;exact⟨[],Z1⟩;split at a;split at a;cases a;let⟨r,g⟩:=Dx f _ _ _ a;exact⟨_,by rw[g,Ziw]⟩;split at a;exact Dx f _ _ _ a;cases a
def jz{h ws low}:∀f i d k,Ve h ws low f i d=J k->∀p g l,Xs ws k xk p i (I d) g=(l,0)->
  ∃r,l=g++r/\∀o∈r,o.gone=xk->∃q,YA h 1 low o.target=J q/\q.size=o.size/\q.Y=o.Y
 |0,_,_,_,j=>by simp[Ve]at j
 |f+1,i,d,k,j=>by
  intro p g l a;cases p with
  |zero=>simp[Xs]at a
  |succ p=>
   unfold Ve at j;unfold Xs at a;cases x:ws[i]? with
   |none=>
    simp_all
   |some w=>
    simp[x]at j a;by_cases t:(adr w).2=0;simp[t,ZiC]at j;cases C:YA h 1 low (adr w).1 with
    |none=>simp_all
    |some q=>
     simp[C]at j;let⟨r,D⟩:=Dx _ _ _ _ j;have F:k[I d]?=J (q.size,q.Y):=by rw[D];simp
     unfold Wm at a;rw[ZhS ⟨rfl,t⟩]at a;simp[F]at a;by_cases u:Yv q.size q.Y=xk;rw[ZhS u]at a;simp only at a;split at a;simp at a;split at a;simp at a;have n:I d+1=I (d++[(q.size,q.Y)]):=Z1;rw[n]at a;let⟨G,z,A⟩:=jz f _ _ _ j _ _ _ a;grind;simp_all
    simp[t,ZiF]at j;by_cases y:(ZR w).2.2=0;simp[y,ZiC]at j;unfold Wm at a;rw[ZhP (λB=>t B.2),ZhS y]at a;simp only at a;split at a;simp at a;split at a;simp at a;let⟨G,z,A⟩:=jz f _ _ _ j _ _ _ a;simp_all;simp_all
def RightH.ni{h p}(r:RightH h p){k}(D:3<=k/\k<=4){o}(d:o∈p.at k)(A:o.gone=xk):∃q∈p.H,YW h 1 q.ab=o.target/\q.size=o.size/\q.Y=o.Y:=by
 have a:=r.fa;unfold XF at a;dsimp only at a;split at a;cases a;split at a;cases a
 have f:∀g x,x=VI h g (ZP h.H [] xw).1->¬x=U->(ZP g (x.getD []) xk).2=0->o∈(ZP g (x.getD []) xk).1->
   ∃q∈(ZP h.H [] xw).1,YW h 1 q.ab=o.target/\q.size=o.size/\q.Y=o.Y:=by
  intro g x C F n d;obtain _|j:=x;simp_all;simp[Zih]at n d;let⟨H,l,t⟩:=jz _ _ _ _ C.symm _ [] (ZP g j xk).1<|Zkn rfl n;simp[ZiB]at l;rw[l]at d;let⟨q,B,G⟩:=t o d A;have:=Zl3 B;grind [FR]
 have u:¬VI h h.ah (ZP h.H [] xw).1=U:=ZgI;have w:¬VI h h.ak (ZP h.H [] xw).1=U:=ZgI;have y:(ZP h.ah ((VI h h.ah (ZP h.H [] xw).1).getD []) xk).2=0:=Z0;have z:(ZP h.ak ((VI h h.ak (ZP h.H [] xw).1).getD []) xk).2=0:=Z0;cases a;have:k=3\/k=4:=Z0;obtain rfl|rfl:=this;exact f _ _ rfl u y ZgW;exact f _ _ rfl w z ZgW
def Z0C{l o}(h:o∈l):Wh o<=Y2 l:=by
 unfold Y2;induction l with
 |nil=>simp at h
 |cons x l a=>
  grind
def ZbF{p k}(a:3<=k/\k<=4){o}(h:o∈p.at k):Wh o<=YK p:=by
 have:k=3\/k=4:=Z0;unfold YK;obtain rfl|rfl:=this;have:=Z0C (l:=p.ah) h;omega;have:=Z0C (l:=p.ak) h;omega
def Z9e{l}(d:ZI l=xk){k j a b}(o:1<=k/\k<=4)(n:1<=j/\j<=4)(f:0<=a/\a<YI l k)(g:0<=b/\b<YI l j)(h:ZX l k a=ZX l j b):k=j/\a=b:=by
 have p:=Rb d o f;have q:=Rb d n g;have:ZC l k+a=ZC l j+b:=by unfold ZX at h;omega
 simp_all
def Z0s{u a}(d:(adr u).2=0)(h:(adr u).1=a):u=2*a+1:=by
 unfold adr at d h;grind
def Ft{u}(h:(ZR u).2.2=0):¬(adr u).2=0:=by
 unfold ZR at h;split at h;rename_i a;unfold adr;grind;grind
end Vm
namespace Vm
open Go Go.Proofs
end Vm
end
section
namespace Vm
open Go Go.Proofs
def Tiles.order{ws old}:∀ {a} {l:List Ob},Tiles ws old a l->l.Pairwise λx y=>x.ab<y.ab
 |_,[],_=>.nil
 |a,o::l,h=>by
  refine .cons (λx d=> ?_)<|Tiles.order h.2.2;have:=(Tiles.ba h.2.2 x d).2;have:=h.1;omega
def DI{h}(f:ZI (Zv h)=xk){k}(d:1<=k/\k<=4){old o}(a:Stands (Zz h k) old o):YW h k o.ab=ZC (Zv h) k+o.ab:=by
 have:=Yz.1 a.shape;have:=a.an;have:=a.gl;grind [YW,R0,Tv]
def Zb1{h}(f:ZI (Zv h)=xk){k}(d:1<=k/\k<=4){old o}(a:Stands (Zz h k) old o):Yg (Zv h) (YW h k o.ab)=(k,o.ab,0):=by
 have:=Yz.1 a.shape;have:=a.an;have:=a.gl;rw[DI f d a];grind [Rb,Tv]
def Tiles.nd{h}(f:ZI (Zv h)=xk){k}(d:1<=k/\k<=4){old l}(a:Tiles (Zz h k) old 0 l):l.Pairwise λx y=>YW h k x.ab≠YW h k y.ab:=by
 refine List.Pairwise.imp_of_mem ?_ a.order;intro x y j n g;rw[DI f d (a.ba x j).1,DI f d (a.ba y n).1];omega
def Ms{h a}:∀ {l} {m:List (Int×(Int×Int))},(l.Pairwise λx y=>YW h 1 x.ab≠YW h 1 y.ab)->Yb (XC h 1 m l) a=match YA h 1 l a with
  |some o=>J (o.size,o.Y)
  |none=>Yb m a
 | [],m,_=>rfl
 |o::l,m,f=>by
  let⟨g,d⟩:=Zlf.1 f;rw[XC,Ms d];unfold YA;cases j:l.find? (λo=>YW h 1 o.ab==a)with
  |some q=>
   grind
  |none=>
   simp[Jc];grind [YW,Zv]
def Ca{h k}(a:¬k=1):∀ {l} {m:List (Int×(Int×Int))},XC h k m l=m
 | [],m=>rfl
 |o::l,m=>by simp_all[XC,Ca]
def Li{h k a}:∀ {l} {m:List (Int×Int)},Yb (WF h k m l) a=if(YA h k l a).isSome=xk then J k else Yb m a
 | [],m=>rfl
 |o::l,m=>by
  rw[WF,Li];unfold YA;rw[Jc];by_cases f:YW h k o.ab=a;have d:(Y3 _ k o.ab).1=a:=f;have:(YW h k o.ab==a)=xk:=ZgZ;simp[this,d];have d:¬(Y3 _ k o.ab).1=a:=f;have:(YW h k o.ab==a)=xw:=ZgZ;simp[this,d]
def Dw{lm ws}:∀f i a,∃r,WT lm ws f i a=a++r
 |0,_,a=>⟨[],by simp[WT]⟩
 |f+1,i,a=>by
  rw[WT];cases ws[i]? with
  |none=>simp
  |some w=>
   simp only;split;split;simp;obtain⟨r,d⟩:=Dw (lm:=lm) (ws:=ws) f _ _;exact⟨_,by rw[d,Ziw]⟩;split;exact Dw f _ _;simp
def jv{lm h low}(j:∀a,Yb lm a=(YA h 1 low a).map λo=>(o.size,o.Y)){ws}:∀f i g k,Ve h ws low f i g=J k->WT lm ws f i g=k
 |0,_,_,_,d=>by simp[Ve]at d
 |f+1,i,g,k,d=>by
  rw[Ve]at d;rw[WT];cases q:ws[i]? with
  |none=>rw[q]at d;simpa using d
  |some w=>
   rw[q]at d;simp only at d⊢;by_cases l:(adr w).2=0;rw[ZhS l]at d⊢;rw[j];cases n:YA h 1 low (adr w).1 with
   |none=>rw[n]at d;cases d
   |some o=>rw[n]at d;exact jv j _ _ _ _ d
   rw[ZhP l]at d⊢;by_cases p:(ZR w).2.2=0;rw[ZhS p]at d⊢;exact jv j _ _ _ _ d;rw[ZhP p]at d;cases d
def jw{lm h low}(k:∀a,Yb lm a=(YA h 1 low a).map λo=>(o.size,o.Y)){ws}:∀f i d,0<f->I ws<f+i->Ve h ws low f i d=U->
  ∀l j,(Xs ws (WT lm ws f i d) xk l i (I d) j).2≠0
 |0,_,_,u,_,_=>Z0
 |f+1,i,d,u,D,g=>by
  intro l j;cases l with
  |zero=>simp[Xs]
  |succ l=>
   rw[Ve]at g;rw[WT,Xs];cases t:ws[i]? with
   |none=>simp_all
   |some w=>
    have x:=(ZhH.1 t).1;rw[t]at g;simp only at g⊢;by_cases p:(adr w).2=0;rw[ZhS p]at g⊢;rw[k];cases y:YA h 1 low (adr w).1 with
    |none=>
     simp[Option.map_none];have:Wm d xk i (I d) w=U:=by
      unfold Wm;rw[ZhS ⟨rfl,p⟩];simp
     rw[this];simp
    |some o=>
     rw[y]at g;simp[Zic]at g⊢;let⟨r,z⟩:=Dw (lm:=lm) (ws:=ws) f (i+1+o.size.toNat)<|d++[(o.size,o.Y)];have C:=jw k f _ _ Z0 Z0 g l;generalize WT lm ws f _ _=n at*;have A:n[I d]?=J (o.size,o.Y):=by rw[z];simp
     unfold Wm;rw[ZhS ⟨rfl,p⟩,A];simp only;by_cases q:Yv o.size o.Y=xk;rw[ZhS q];simp only;split;simp;split;simp;simp_all;simp_all
    rw[ZhP p]at g⊢;by_cases B:(ZR w).2.2=0;rw[ZhS B]at g⊢;have C:=jw k f _ d Z0 Z0 g l;generalize WT lm ws f _ d=n at*;unfold Wm;grind;simp_all[Wm]
structure Found (h:Hp) (s:Ck) (p:Pts):Prop where
 hp:s.h=h
 o1:s.o1=p.H
 o2:s.o2=p.aa
 o3:s.o3=p.ah
 o4:s.o4=p.ak
 pm:s.pm=WF h 4 (WF h 3 (WF h 2 (WF h 1 [] p.H) p.aa) p.ah) p.ak
def ZbJ{h}(C:ZI (Zv h)=xk):match XF h with
  |some p=>(Wg<|XB h).1=xk/\Found h (Wg<|XB h).2 p
  |none=>(Wg<|XB h).1=xw:=by
 unfold Wg XF;dsimp only;have D:Xt (XB h) 1=ZP h.H [] xw:=rfl;rw[V7,D];by_cases z:(ZP h.H [] xw).2=0;case neg=>simp_all
 rw[ZhS z];have B:Tiles h.H xw 0 (ZP h.H [] xw).1:=SU (ws:=h.H) (shs:=[]) ZgH;generalize (ZP h.H [] xw).1=d at*;have F:Xt (XX (XB h) 1 d) 2=ZP h.aa [] xw:=rfl;rw[V7,F];by_cases A:(ZP h.aa [] xw).2=0;case neg=>simp_all
 rw[ZhS A,ZhP Z0];generalize (ZP h.aa [] xw).1=n at*;have f:∀a,Yb (XC h 1 [] d) a=(YA h 1 d a).map λo=>(o.size,o.Y):=by
  intro a;rw[Ms<|Tiles.nd C (k:=1) Z0 (by simpa using B)];cases YA h 1 d a<;>rfl
 have g:(XX (XX (XB h) 1 d) 2 n).lm=XC h 1 [] d:=Ca Z0;have G:Xt (XX (XX (XB h) 1 d) 2 n) 3=ZP h.ah (Ua (XC h 1 [] d) h.ah) xk:=by
  rw[<-g];rfl
 rw[V7,G];cases w:VI h h.ah d with
 |none=>
  have:=jw f _ 0 [] Z0 Z0 w (I h.ah+1) [];have q:¬(ZP h.ah (Ua _ h.ah) xk).2=0:=this;rw[ZhP q,ZhS<|.inl rfl]
 |some shs=>
 have t:Ua _ h.ah=shs:=jv f _ _ _ _ w;rw[t];simp[Zih];by_cases q:(ZP h.ah shs xk).2=0;case neg=>simp_all
 rw[ZhS q];generalize (ZP h.ah shs xk).1=y at*;have l:(XX (XX (XX (XB h) 1 d) 2 n) 3 y).lm=XC h 1 [] d:=by
  rw[<-g];exact Ca Z0
 have H:Xt (XX (XX (XX (XB h) 1 d) 2 n) 3 y) 4=ZP h.ak (Ua (XC h 1 [] d) h.ak) xk:=by
  rw[<-l];rfl
 rw[V7,H];cases x:VI h h.ak d with
 |none=>
  have:=jw f _ 0 [] Z0 Z0 x (I h.ak+1) [];have r:¬(ZP h.ak (Ua _ h.ak) xk).2=0:=this;rw[ZhP r,if_pos Z1]
 |some j=>
 have u:Ua _ h.ak=j:=jv f _ _ _ _ x;rw[u];simp[Zih];by_cases r:(ZP h.ak j xk).2=0;case neg=>simp_all
 rw[ZhS r,ZhP ZgH];exact⟨rfl,rfl,rfl,rfl,rfl,rfl,rfl⟩
end Vm
namespace Vm
open Go Go.Proofs
def CC{h p}(a:XF h=J p){k}(g:1<=k/\k<=4):Tiles (Zz h k) (decide (2<k)) 0<|p.at k:=by
 have:k=1\/k=2\/k=3\/k=4:=Z0;unfold XF at a;dsimp only at a;split at a;cases a;split at a;cases a;rename_i c2;cases a;have c3:(ZP h.H [] xw).2=0/\(ZP h.aa [] xw).2=0:=by
  refine⟨Z0,Z0⟩
 have c4:∀x:Int,¬x≠0->x=0:=Z0;have f:=c4 _ (λd=>c2<|.inr<|.inr<|.inr d);obtain rfl|rfl|rfl|rfl:=this;exact SU<|Zkn rfl c3.1;exact SU<|Zkn rfl c3.2;exact SU<|Zkn rfl<|c4 _ (λd=>c2<|.inr<|.inr<|.inl d);exact SU<|Zkn rfl f
def Z81{h p}(a:XF h=J p){k}(C:3<=k/\k<=4){o}(d:o∈p.at k)(z:o.gone=xk):∃q∈p.H,YW h 1 q.ab=o.target/\q.size=o.size/\q.Y=o.Y:=by
 unfold XF at a;dsimp only at a;split at a;cases a;split at a;cases a
 have f:∀g x,x=VI h g (ZP h.H [] xw).1->¬x=U->(ZP g (x.getD []) xk).2=0->o∈(ZP g (x.getD []) xk).1->
   ∃q∈(ZP h.H [] xw).1,YW h 1 q.ab=o.target/\q.size=o.size/\q.Y=o.Y:=by
  intro g x B D n d;obtain _|j:=x;simp_all;simp[Zih]at n d;let⟨G,l,r⟩:=jz _ _ _ _ B.symm _ [] (ZP g j xk).1<|Zkn rfl n;simp[ZiB]at l;rw[l]at d;let⟨q,A,F⟩:=r o d z;have:=Zl3 A;grind [FR]
 have t:¬VI h h.ah (ZP h.H [] xw).1=U:=ZgI;have u:¬VI h h.ak (ZP h.H [] xw).1=U:=ZgI;have w:(ZP h.ah ((VI h h.ah (ZP h.H [] xw).1).getD []) xk).2=0:=Z0;have y:(ZP h.ak ((VI h h.ak (ZP h.H [] xw).1).getD []) xk).2=0:=Z0;cases a;have:k=3\/k=4:=Z0;obtain rfl|rfl:=this;exact f _ _ rfl t w ZgW;exact f _ _ rfl u y ZgW
theorem Z2C{h}(n:ZI (Zv h)=xk){p}(l:XF h=J p){k}(d:1<=k/\k<=4){a}(j:(YA h k (p.at k) a).isSome=xk):∃b,Yg (Zv h) a=(k,b,0):=by
 let⟨o,f⟩:=ZiK.1 j;have g:YW h k o.ab=a:=by have:=Zl3 f;simpa using this
 rw[<-g];exact⟨_,Zb1 n d ((CC l d).ba o<|Zkp f).1⟩
def FT{h}(o:ZI (Zv h)=xk){p}(n:XF h=J p){k j}(g:1<=k/\k<=4)(f:1<=j/\j<=4)(l:k≠j){a}(d:(YA h k (p.at k) a).isSome=xk):(YA h j (p.at j) a).isSome=xw:=by
 grind [Z2C]
section
variable {h:Hp}{s:Ck}{p:Pts}
def Found.dn(a:Found h s p){k}:s.dn k=p.at k:=by
 unfold Ck.dn Pts.at;rw[a.o1,a.o2,a.o3,a.o4]
def Found.pq(d:Found h s p)a:Yb s.pm a=if(YA h 4 (p.at 4) a).isSome=xk then J 4 else if(YA h 3 (p.at 3) a).isSome=xk then J 3 else if(YA h 2 (p.at 2) a).isSome=xk then J 2 else if(YA h 1 (p.at 1) a).isSome=xk then J 1 else U:=by
 rw[d.pm,Li,Li,Li,Li];rfl
def Found.se(q:Found h s p)(y:ZI (Zv h)=xk)(x:XF h=J p)w:YO s w 1 2=XA h p w 1 2/\YO s w 3 4=XA h p w 3 4/\YO s w 1 4=(XA h p w 1 2||XA h p w 3 4):=by
 unfold YO XA;by_cases n:w=0;simp[n];by_cases D:(adr w).2=0;case neg=>grind
 rw[q.pq];generalize (adr w).1=a;have o:=λk j t r u=>FT (k:=k) (j:=j) y x t r u (a:=a);have C:=o 4 2 Z0 Z0 Z0;have B:=o 4 1 Z0 Z0 Z0;have A:=o 3 2 Z0 Z0 Z0;have z:=o 3 1 Z0 Z0 Z0;clear o;generalize (YA h 1 _ a).isSome=d at*;generalize (YA h 2 _ a).isSome=f at*;generalize (YA h 3 _ a).isSome=g at*;generalize (YA h 4 _ a).isSome=l at*;cases d<;>cases f<;>cases g<;>cases l<;>simp_all
end
end Vm
namespace Vm
open Go Go.Proofs
def XJ(l:List Ob):List Int:=(l.filter (·.gone)).map (·.target)
def Z8I{α l k}{x:α}(h:Yb l k=U):I (XY l k x)=I l+1:=by
 grind [Yb,Option.map_eq_none_iff,XY]
def ye{pm}:∀ {l} {m:List (Int×Bool)} {K:List Int},K.Nodup->(∀a,Yb m a=if a∈K then J xk else U)->I m=I K->
  match WB pm l m with
  |some r=>(∀t∈XJ l,(Yb pm t).getD 0=1)/\(K++XJ l).Nodup/\I r=I (K++XJ l)/\∀a,Yb r a=if a∈K++XJ l then J xk else U
  |none=>¬((∀t∈XJ l,(Yb pm t).getD 0=1)/\(K++XJ l).Nodup)
 | [],m,K,n,d,q=>by simp only[XJ,List.filter_nil,Zj9,Zj4];exact⟨Z1,n,q,d⟩
 |o::l,m,K,n,d,q=>by
  rw[WB];cases w:o.gone with
  |false=>
   have:XJ (o::l)=XJ l:=by simp[XJ,w]
   rw[this];exact ye n d q
  |true=>
   rw[ZhS rfl];have h:XJ (o::l)=o.target::XJ l:=by simp[XJ,w]
   rw[h];by_cases j:(Yb pm o.target).getD 0=1;by_cases k:o.target∈K;rw[ZhP (by rw[d,ZhS k];simp)];rintro⟨_,z⟩;exact(ZkM.1 z).2.2 _ k _ Z1 rfl;have g:Yb m o.target=U:=by rw[d,ZhP k]
   rw[ZhS ⟨j,by rw[g];rfl⟩]
   have f:=ye (pm:=pm) (l:=l) (m:=XY m o.target xk) (K:=K++[o.target]) (by
     rw[ZkM];refine⟨n,Z1,λa y b u=> ?_⟩;simp at u;subst u;intro e;subst e;exact k y) (λa=>by
     rw[Jc,d];by_cases e:o.target=a;simp[e];have x:¬a=o.target:=Z0;simp[e,x]) (by rw[Z8I g,q];simp)
   rw[Ziw]at f;cases p:WB pm l _ with
   |none=>
    rw[p]at f;rintro⟨A,B⟩;exact f ⟨ZgI,B⟩
   |some r=>
    rw[p]at f;refine⟨λt h=> ?_,f.2⟩;obtain rfl|h:=Zi6.1 h;exact j;exact f.1 t h
   rw[ZhP (λp=>j p.1)];rintro⟨A,_⟩;exact j ZgI
def PZ{l a}:XI l a=(XJ l).count a:=by
 unfold XI XJ;induction l with
 |nil=>rfl
 |cons o l d=>
  grind
def Z7w{T S:List Int}(j:S.Nodup)(f:T⊆S):(T.Nodup/\I T=I S)↔ ∀a∈S,T.count a=1:=by
 constructor;rintro⟨d,n⟩ a k;by_cases o:a∈T;grind;have g:T⊆S.erase a:=ZgH;have l:=d.length_le_of_subset g;grind;intro h;have d:T.Nodup:=ZgH;refine⟨d,Nat.le_antisymm (d.length_le_of_subset f)<|j.length_le_of_subset λa k=> ?_⟩;grind
section
variable {h:Hp}{s:Ck}{p:Pts}
def Found.ry(f:Found h s p)(C:ZI (Zv h)=xk)(y:XF h=J p):RX s=(!h.M||p.H.all (RF h p)):=by
 have G:=CC y (k:=1) Z0;have F:(p.H.map λo=>YW h 1 o.ab).Nodup:=by
  have:=Tiles.nd C (k:=1) Z0 G;rw[List.nodup_iff_pairwise_ne,List.pairwise_map];exact this
 have n:∀t∈XJ s.o3++XJ s.o4,t∈p.H.map λo=>YW h 1 o.ab:=by
  intro t d;have:∃k,(3<=k/\k<=4)/\t∈XJ (p.at k):=by
   obtain d|d:=Zib.1 d;exact⟨3,Z0,by rw[f.o3]at d;exact d⟩;exact⟨4,Z0,by rw[f.o4]at d;exact d⟩
  let⟨k,x,d⟩:=this;simp[XJ,Zi4,ZkC]at d;obtain⟨o,⟨r,L⟩,rfl⟩:=d;let⟨q,z,B,_⟩:=Z81 y x r L;exact Zi4.2 ⟨q,z,B⟩
 have N:∀t∈XJ s.o3++XJ s.o4,(Yb s.pm t).getD 0=1:=by
  intro t d;let⟨q,z,B⟩:=Zi4.1<|n t d;have u:(YA h 1 (p.at 1) t).isSome=xk:=by
   unfold YA;rw[List.find?_isSome];exact⟨q,z,ZgH⟩
  have o:=λk x M=>FT (k:=1) (j:=k) C y Z0 x M u;rw[f.pq,o 4 Z0 Z0,o 3 Z0 Z0,o 2 Z0 Z0,u];rfl
 unfold RX;rw[f.hp];cases S:h.M;rfl;simp[Zky,ZkW];have key:=Z7w F (T:=XJ s.o3++XJ s.o4) n;have g:p.H.all (RF h p)=xk↔ ∀a∈(p.H.map λo=>YW h 1 o.ab),(XJ s.o3++XJ s.o4).count a=1:=by
  rw[ZhV];constructor;intro A a H;obtain⟨o,r,rfl⟩:=Zi4.1 H;have:=A o r;simp[RF,Zid,Tx,PZ]at this;rw[List.count_append,f.o3,f.o4];exact this;intro A o r;have:=A _<|Zi4.2 ⟨o,r,rfl⟩;rw[List.count_append,f.o3,f.o4]at this;simp_all[RF,Tx,PZ]
 rw[Zia]at key;have w:=ye (pm:=s.pm) (l:=s.o3) (m:=[]) (K:=[]) Z1 (by simp[Yb]) rfl;simp only[ZiB]at w;rw[ZlD,g,<-key];cases u:WB s.pm s.o3 []with
 |none=>
  grind
 |some m=>
  rw[u]at w;let⟨X,O,P,Q⟩:=w;simp[ZhT];have c2:=ye (pm:=s.pm) (l:=s.o4) (m:=m) (K:=XJ s.o3) O Q P;cases D:WB s.pm s.o4 m with
  |none=>
   simp_all
  |some W=>
   rw[D]at c2;let⟨Y,Z,R,r4⟩:=c2;simp[Zid,R,f.o1];simp_all
end
end Vm
namespace Vm
open Go Go.Proofs
def PH:∀ {l} {a:Int} {i:Nat},Xw l xk a i=xk->∀w∈l,w=0
 | [],_,_,_,w,d=>by simp at d
 |x::l,a,i,h,w,d=>by
  simp[Xw,Zid]at h;obtain rfl|d:=Zi6.1 d;exact h.1.1;exact PH h.2 w d
def LG{s k q}:V1 s k q=xk↔ ∀o∈s.dn k,o.gone=xw->∀j,j<o.Y.toNat->q ((o.ab.toNat+1+j:Nat):Int) (Ud (Zz s.h k)<|o.ab.toNat+1+j)=xk:=by
 unfold V1 obQ;grind
def Z8F{h p}(u:XF h=J p){k}(r:1<=k/\k<=4):WI h p k=xk↔ ∀o∈p.at k,o.gone=xw->∀j,j<o.Y.toNat->Uv h p k (o.ab.toNat+1+j)=xk:=by
 unfold WI qn;rw[ZhV];constructor;simp_all;intro x o t;rw[ZhV];intro j l;have l:=Zkq.1 l;cases q:o.gone;simp_all;have d:=((CC u r).ba o t).1;have w:=Yz.1 d.shape;have f:=d.ff;rw[q]at f;have g:=d.an;have n:=d.gl;have a:o.ab.toNat+1+j< I (Zz h k):=Z0;have y:(Zz h k)[o.ab.toNat+1+j]?=J 0:=by
  rw[ZhG a];refine ZiP J<|(PH f) _ ?_;rw[ZkS];refine⟨j,?_⟩;rw[Zim,ZhS Z0,Zil,ZhG a]
 grind [XA,Uv]
section
variable {h:Hp}{s:Ck}{p:Pts}
def Found.Y(u:Found h s p)(K:ZI (Zv h)=xk)(G:XF h=J p):(QD s&&(QK s&&Qh s))=(h.E.all (λw=>XA h p w 1 2)&&WI h p 1&&WI h p 2&&WI h p 3&&WI h p 4):=by
 have g:=u.se K G;have t:s.h.E.all (λw=>YO s w 1 2)=h.E.all (λw=>XA h p w 1 2):=by
  rw[u.hp];congr 1;funext w;exact(g w).1
 have l:=λk=>u.dn (k:=k);have r:∀k (q:Nat->Int->Bool) (F:1<=k/\k<=4),(∀a,Uv h p k a=q a (Ud (Zz h k) a))->(WI h p k=xk↔ ∀o∈p.at k,o.gone=xw->∀j,j<o.Y.toNat->q (o.ab.toNat+1+j) (Ud (Zz h k)<|o.ab.toNat+1+j)=xk):=by
  intro k q F H;rw[Z8F G F];simp[H]
 have p3:=r 3 (λ_ w=>XA h p w 3 4) Z0 (λa=>by simp[Uv,Ud]);have p4:=r 4 (λ_ w=>XA h p w 3 4) Z0 (λa=>by simp[Uv,Ud]);have L:=r 1 (λa w=>if h.Z<=a then XA h p w 1 2||XA h p w 3 4 else XA h p w 1 2) Z0 (λa=>by simp[Uv,Ud]);have N:V1 s 2 (λ_ w=>YO s w 1 2)=xk↔WI h p 2=xk:=by
  rw[r 2 (λ_ w=>XA h p w 1 2) Z0 (λa=>by simp[Uv,Ud]),LG,l,u.hp];simp[(g _).1]
 have O:V1 s 3 (λ_ w=>YO s w 3 4)=xk↔WI h p 3=xk:=by
  rw[p3,LG,l,u.hp];simp[(g _).2.1]
 have P:V1 s 4 (λ_ w=>YO s w 3 4)=xk↔WI h p 4=xk:=by
  rw[p4,LG,l,u.hp];simp[(g _).2.1]
 have M:(V1 s 1 (λa w=>decide (s.h.Z<=a)||YO s w 1 2)=xk/\V1 s 1 (λa w=>decide (a<s.h.Z)||YO s w 1 4)=xk)↔WI h p 1=xk:=by
  rw[L,LG,LG,l,u.hp];simp only[(g _).1,(g _).2.2];constructor;rintro⟨C,D⟩ o A y j z;have C:=C o A y j z;have D:=D o A y j z;generalize o.ab.toNat+1+j=n at*;by_cases x:h.Z<=n;have:¬n<h.Z:=Z0;simpa[x,this]using D;simpa[x]using C;intro B;refine⟨λo A y j z=> ?_,λo A y j z=> ?_⟩;have B:=B o A y j z;generalize o.ab.toNat+1+j=n at*;by_cases x:h.Z<=n;simp[x];simpa[x]using B;have B:=B o A y j z;generalize o.ab.toNat+1+j=n at*;by_cases x:h.Z<=n;have:¬n<h.Z:=Z0;simpa[x,this]using B;have:n<h.Z:=Z0;simp[this]
 unfold QD QK Qh;rw[t,ZlD];simp[ZhJ];rw[N,O,P,<-M];constructor;rintro⟨⟨a,b,c⟩,d,e,f⟩;exact⟨⟨⟨⟨a,c,d⟩,b⟩,e⟩,f⟩;rintro⟨⟨⟨⟨a,c,d⟩,b⟩,e⟩,f⟩;exact⟨⟨a,b,c⟩,d,e,f⟩
def Found.tz(a:Found h s p):Qz s=decide ((I h.H:Int)+I h.aa+YK p<=h.cap):=by
 unfold Qz SR YK;rw[a.hp,a.o3,a.o4]
end
def Z7e h:TS h=(R4 (XB h)&&Qy (XB h)):=by
 grind [TS,R4,Qy,XB,Zv]
def BJ h:(VF h).isSome=Yk h/\∀s,VF h=J s->∃p,XF h=J p/\Found h s p:=by
 have k:VF h=(if R4 _=xk then if Qy (XB h)=xk then if(Wg<|XB h).1=xk then
   if RX (Wg<|XB h).2=xk then if QD (Wg<|XB h).2=xk then if QK (Wg<|XB h).2=xk then if Qh (Wg<|XB h).2=xk then if Qz (Wg<|XB h).2=xk then
    J (Wg<|XB h).2 else U else U else U else U else U else U else U else U):=rfl
 unfold Yk;rw[Z7e h];cases a:R4 _;simp_all;have g:ZI (Zv h)=xk:=by
  unfold R4 at a;simp[ZhJ]at a;exact a.1
 cases j:Qy _;simp_all;have l:=ZbJ g;cases f:XF h with
 |none=>
  simp_all
 |some p=>
  rw[f]at l;let⟨q,d⟩:=l;rw[a,j,q]at k;simp at k;generalize (Wg _).2=s at*;have n:=d.Y g f;have o:=d.tz;have r:SI h p=(RX s&&((QD s&&(QK s&&Qh s))&&Qz s)):=by
   rw[d.ry g f,n,o];unfold SI;simp[Bool.and_assoc]
  grind
def Z6a h k:Lm h k=UQ h k:=by
 let⟨d,g⟩:=BJ h;unfold Lm UQ;cases f:VF h with
 |none=>
  simp_all
 |some s=>
  rw[f]at d;have a:Yk h=xk:=d.symm;let⟨p,l,j⟩:=g s f;simp[a,l,j.dn]
def Z6e h:(jN h:Int)=Uc h:=by
 let⟨d,j⟩:=BJ h;unfold jN Uc;cases g:VF h with
 |none=>
  simp_all
 |some s=>
  rw[g]at d;have a:Yk h=xk:=d.symm;let⟨p,k,f⟩:=j s g;simp[a,k];unfold SR YK;rw[f.o3,f.o4]
end Vm
end
section
namespace Vm
open Go Go.Proofs Go.RowKit
section
def EM{α:Type}(F:Fence)(n:Nat)(P:Z6)(g:Nat)(lb:Za)(d:α->Array Value)(Kp:World->World->Prop)(S:List α->World->Prop)(k:List PanicEntry->List α->World->Prop)(N:Nat)(bt:Option Nat)(j:World->Prop)(w:Z3):Prop:=
 ∀(l:Nat) (o:List α->World->Prop) (W:Z3),Below (xz<|xj w) w W->(∀pre W,o pre W->j W)->(∀s A B row,o s A->A.grownBy B row->(∀r,row=J r->J r=bt)->o s B)->
  (∀pre x f,o pre f->I pre<N->YieldAt F (n-1) P l (d x) f λe a=>e=.returned (.bool xk)/\o (pre++[x]) a/\Kp f a)->
  o [] W->
  CallsIn F n P g (#[.func (.yield l) #[] #[]]++lb) W λe a=>(∃v h,e=.returned v/\S h a/\o h a)\/(∃chain pre,e=.panicked chain/\k chain pre a/\o pre a)
def Z8y{α:Type}(B:Nat)(Kp:World->World->Prop)(I:List α->World->Prop)(xs:List α)(W:Z3):Exit->Act->World->Prop
 |.normal,_,a=>KeepsFrom B W a/\Kp W a/\I xs a
 |_,_,_=>False
def OwnP{β:Type}(bt:Option Nat)(B:Nat)(I:β->World->Prop):Prop:=
 ∀s X Y row,I s X->X.grownBy Y row->(∀r,row=J r->J r=bt\/(B<=r/\∃o:Obj,X.heap[r]?=J o/\o.isCells=xw))->I s Y
def OwnP.putObj{β:Type}{bt:Option Nat}{B:Nat}{I:β->World->Prop}(h:OwnP bt B I){s:β}{W:Z3}{l:Nat}{o:Obj}(a:Obj)(d:I s W)(f:B<=l)(g:W.heap[l]?=J o)(j:o.isCells=xw):I s<|W.putObj l a:=
 h s W _ (J l) d (ZkA W l a) (λr e=>ZgI)
def OwnP.alloc{β:Type}{bt:Option Nat}{B:Nat}{I:β->World->Prop}(h:OwnP bt B I){s:β}{W:Z3}(o:Obj)(a:I s W):I s<|W.alloc o:=
 h s W _ U a (Zj2 W o U) (λr e=>by cases e)
variable {F:Fence}{n:Nat}{P:Z6}
def ZbS{α:Type}{g:Operand}{ps:Array Tmp}{assign body:Code}{Q:Zh}{a:Act}{w:Z3}
  (d7:F.round=U) (h1:1<=n) {gf:Nat} {lb:Za} (hg:a.eval g=.func (.func gf) #[] lb) (d8:F.fn gf) (eg:∀args w,(callFunc gf args).run P w=.ok (.enter gf args) w)
  {f:α->Array Value} {Kp:World->World->Prop} {S:List α->World->Prop} {Pp:List PanicEntry->List α->World->Prop} {N:Nat} {bt:Option Nat} {Ex:World->Prop} {w0:Z3} (a8:EM F (n-1) P gf lb f Kp S Pp N bt Ex w0)
  (b5:∀r,bt=J r->r<xz (xj w))
  (T:∀ {A B C:Z3},Kp A B->Kp B C->Kp A C) (a1:∀(W:Z3) (l:Nat) (o o':Obj),xz (xj w)<=l->W.heap[l]?=J o->o.isCells=xw->o.isWalk=xw->Kp W (W.putObj l o')) (a2:Below (xz<|xj w0) w0 w) (d9:∀x,(f x).size=ps.size)
  (I:List α->World->Prop) (hI:OwnP bt (xz<|xj w) I) (b0:∀pre W,I pre W->Ex W) (h0:I [] w) (hS:OwnP U (xz<|xj w) S) (Ax:α->Act->World->Prop) (a9:∀x G,OwnP U (xz<|xj w)<|λ(_:Unit) W=>Ax x G W)
  (q:∀(l:Nat) (pre:List α) (x:α) (W:Z3) (K:Zq),I pre W->(∀G W',KeepsFrom (xz<|xj w) W W'->Kp W W'->I pre W'->Ax x G W'->K G W')->
   assign.wpIn (F.inRound l) (n-1-1) P (Exit.then K<|λ_ _ _=>False) {tmps:=(ps.zip<|f x).foldl (λt (p,v)=>t.setIfInBounds p v) a.tmps,defers:=[]} W)
  (X:∀(l:Nat) (pre:List α) (x:α) (G:Act) (W:Z3),I pre W->Ax x G W->xq pre<N->body.wpIn (F.inRound l) (n-1-1) P (Z8y (xz<|xj w) Kp I (pre++[x]) W) G W)
  (Y:∀(D:Nat) (xs:List α) (W:Z3),xz (xj w)<=D->S xs W->I xs W->W.heap[D]?=J (.deferred<|J [])->Q .normal {a with defers:= {target:=.collected D,args:=#[]}::a.defers} W)
  (M:∀(D:Nat) (chain:List PanicEntry) (pre:List α) (W:Z3),xz (xj w)<=D->Pp chain pre W->I pre W->W.heap[D]?=J (.deferred<|J [])->Q (.panic chain) {a with defers:= {target:=.collected D,args:=#[]}::a.defers} W):
  (Code.rangeFunc g ps assign body).wpIn F n P Q a w:=by
 refine wpIn_rangeFunc λfn b7=> ?_;rw[d7];obtain⟨d,z⟩:∃d:LoopState->Option Code->Loop,d=λst pe=> {state:=st,pending:=pe,fn,tmps:=a.tmps,params:=ps,assign,body,defers:=xz (xj w)}:=⟨_,rfl⟩;obtain⟨H,L⟩:∃H,(w.alloc<|.deferred<|J []).alloc (.loop<|d .ready U)=H:=⟨_,rfl⟩;have b2:H.heap[xz (xj w)+1]?=J (.loop<|d .ready U):=by
  have:=ZiU (w.alloc<|.deferred<|J [])<|.loop<|d .ready U;rw[ZjM]at this;rw[<-L];exact this
 have b1:H.heap[xz<|xj w]?=J (.deferred<|J []):=by
  rw[<-L];exact(ZhU _ _ _ Z1).trans (ZiU w _)
 have b4:Below (xz<|xj w0) w0 H:=by
  rw[<-L];exact a2.trans<|(((ZhY _ w).alloc (ZhL _) _).alloc Z1 _).mono a2.size
 refine⟨xz (xj w)+1,[{target:=.collected<|xz<|xj w,args:=#[]}],H,{target:=.fn (.func gf) lb,args:=#[.func (.yield<|xz (xj w)+1) #[] #[]]},H,gf,
  #[.func (.yield<|xz (xj w)+1) #[] #[]]++lb,H,?_,?_,?_,?_,λ_=>h1,?_⟩
 simp_all[run_enterLoop_outer]
 .simp only[resolve,hg];simp[go_sem]
 simp_all[Target.leads];simp_all[invoke];have R:∀ {A B:Z3} {row:Option Nat} {k:Nat} {o:Obj},A.grownBy B row->(∀r,row=J r->J r=bt)->xz (xj w)<=k->A.heap[k]?=J o->B.heap[k]?=J o:=by
  intro A B row k o u hr hk ho;refine(u.block k (ZhN.1 ho).1 λe=> ?_).trans ho;have:=b5 k (hr k e.symm).symm;omega
 refine(a8 (xz (xj w)+1) (λpre W=>I pre W/\W.heap[xz (xj w)+1]?=J (.loop<|d .ready U)/\W.heap[xz<|xj w]?=J (.deferred<|J [])) H b4 (λpre W h=>b0 pre W h.1)
  (λs A B row hs u hr=>⟨hI s A B row hs.1 u (λr e=>.inl<|hr r e),R u hr Z0 hs.2.1,R u hr (ZhL _) hs.2.2⟩) ?_ ⟨by rw[<-L];exact hI.alloc _<|hI.alloc _ h0,b2,b1⟩).mono ?_
 rintro pre x W ⟨hi,Z,hk⟩ a7;have hy:=run_yield (P:=P) (args:=f x) Z ZgI;rw[z]at hy;refine⟨fn,_,assign,body,hy,roundIn_of_wpIn b7<|q _ pre x W _ hi ?_⟩;intro G V a5 c7 b9 b3;have y:=a5.same _ _ Z0 Z rfl;have c1:=a5.same _ _ (ZhL _) hk rfl;have d5:xz (xj w)+1<xz (xj V):=(ZhN.1 y).1;refine⟨_,run_beginRound y (by rw[z]),?_⟩;have d0:(V.putObj (xz (xj w)+1)<|.loop {d .ready U with state:=.busy}).heap[xz (xj w)+1]?=J (.loop {d .ready U with state:=.busy}):=Zkd d5;have c0:(V.putObj (xz (xj w)+1)<|.loop {d .ready U with state:=.busy}).heap[xz<|xj w]?=J (.deferred<|J []):=(Ziq Z0).trans c1;have d6:Kp V<|V.putObj (xz (xj w)+1)<|.loop {d .ready U with state:=.busy}:=a1 _ _ _ _ Z0 y rfl rfl;refine wpIn_mono (X _ pre x G _ (hI.putObj _ b9 Z0 y rfl) ((a9 x G).putObj (s:=()) _ b3 Z0 y rfl) a7) ?_;rintro e a3 W3 O;cases e with
 |normal=>
  obtain⟨a4,a6,b8⟩:=O;have a0:=a4.same _ _ Z0 d0 rfl;have b6:=a4.same _ _ (ZhL _) c0 rfl;have j:=run_endRound (P:=P) U a0;refine⟨_,_,j,rfl,⟨hI.putObj _ b8 Z0 a0 rfl,?_,(Ziq Z0).trans b6⟩,T c7<|T (T d6 a6)<|a1 _ _ _ _ Z0 a0 rfl rfl⟩;grind [World.putObj_heap_same,Array.getElem?_eq_some_iff]
 |ret=>exact O.elim
 |exit id=>exact O.elim
 |goto t=>exact O.elim
 |panic ch=>exact O.elim
 |outgrown=>exact O.elim
 rintro e W2 (⟨v,xs,rfl,hs,hi,Z,hk⟩|⟨chain,pre,rfl,O,hi,Z,hk⟩);have j:=run_endLoop (P:=P) Z ZgI;rw[z]at j;exact⟨U,_,j,Y _ xs _ (ZhL _) (hS.putObj _ hs Z0 Z rfl) (hI.putObj _ hi Z0 Z rfl)<|(Ziq Z0).trans hk⟩;exact M _ chain pre _ (ZhL _) O hi hk
end
end Vm
end
section
namespace Vm
open Go Go.Proofs
def MY:Fn:=⟨4,[0,2,3,4],pQ [pR [pV 1 pF],pC [pK 4 46 [.s 0]] [pV 2<|.ext (.s 4) 0,pV 3<|.ext (.s 4) 1],.ao ⟨[.lt 5 []<|pe (.s 0)<|pU 0],[([(5,xw)],pe (.s 3)<|pI 0)],[pV 1<|.ite (.s 5) pT<|pe (.s 3)<|pI 0]⟩] .ret,[(1,.v)]⟩
def Z2Y:ZN xP fresh sig [.fz] [] Tryz.f103=J MY:=Z2
end Vm
end
section
namespace Vm
open Go Go.Proofs Go.RowKit
section
section
variable {P:Z6}{w:Z3}
def ZbX{o:Oper}{a:Act}{K:Zq}{Q:Zh}(s x:Operand)(t:Zd)
  (G:o.op=.call {callee:=.builtin .append,args:=#[s,x],argTypes:=#[t,t]}) {e:Zd} (M:P.underlying t=J (.slice e)) (p:UD P e=xk)
  {B n:Nat} {v y:Zb} {xs:Zm} (L:a.eval s=v) (hx:a.eval x=y) (k:w.ownsRow B e (P.cellsOf e) v n xs) (D:B<=xz (xj w))
  {Gy:Z4} {l:Zr} (N:Rd w Gy (.sl l) y) (F:Xv (P.cellsOf e) l=xk) (j:n+I l<=Y4)
  (h:∀g f d,f.ownsRow B e (P.cellsOf e) g (n+I l) (xs++d)->w.grownBy f v.ownBlock->(g.ownBlock=v.ownBlock\/(w.grownBy f U/\f.ownsRow (xz<|xj w) e (P.cellsOf e) g (n+I l) (xs++d)))->
   (∀(i:Nat) (q:V),(flat l)[i]?=J q->∃u,d[i]?=J u/\Rd w Gy q u)->K (a.put o.dst g) f):o.wp P a w K Q:=by
 obtain⟨g,f,d,H,r,z,A,_,C⟩:=LW (ty:=o.type) M p k D N F j;unfold Oper.wp execOp;simp only[G,resolve,invoke,builtin,Ziu,Zkk,Zis,List.map_toArray,Zii,Zj9,L,hx,H];exact h g f d r z A C
def Z0x{ops:Zl}{rest:List Oper}{o:Oper}{a:Act}{Q:Zh}(q:o.guard=U)(s x:Operand)(t:Zd)
  (K:o.op=.call {callee:=.builtin .append,args:=#[s,x],argTypes:=#[t,t]}) {e:Zd} (M:P.underlying t=J (.slice e)) (p:UD P e=xk)
  {B n:Nat} {v y:Zb} {xs:Zm} (L:a.eval s=v) (hx:a.eval x=y) (k:w.ownsRow B e (P.cellsOf e) v n xs) (F:B<=xz (xj w))
  {Gy:Z4} {l:Zr} (N:Rd w Gy (.sl l) y) (H:Xv (P.cellsOf e) l=xk) (j:n+I l<=Y4)
  (h:∀g f d,f.ownsRow B e (P.cellsOf e) g (n+I l) (xs++d)->w.grownBy f v.ownBlock->(g.ownBlock=v.ownBlock\/(w.grownBy f U/\f.ownsRow (xz<|xj w) e (P.cellsOf e) g (n+I l) (xs++d)))->
   (∀(i:Nat) (r:V),(flat l)[i]?=J r->∃u,d[i]?=J u/\Rd w Gy r u)->wpList P ops Q rest (a.put o.dst g) f):wpList P ops Q (o::rest) a w:=
 wpList_plain q λ_ G=>ZbX s x t K M p L hx k F N H j λg f d z A C D=>G _ _<|h g f d z A C D
end
def Yd(k:IntKind)(l:Z9):List Value:=l.map<|Value.int k
def qi{w:Z3}{G:Z4}{k:IntKind}{l:Z9}{d:Zm}(h:∀(i:Nat) (g:V),(flat<|l.map<|V.int k)[i]?=J g->∃u,d[i]?=J u/\Rd w G g u)(n:I d=I l):d=Yd k l:=by
 have f:flat (l.map<|V.int k)=l.map (V.int k):=by
  clear h n;induction l with
  |nil=>rfl
  |cons a l q=>rw[Zii,Q4,q];rfl
 apply Zk0;intro i;unfold Yd;by_cases j:i<I l;obtain⟨u,p,o⟩:=h i (.int k l[i]) (by rw[f,Zi8,ZhG j];rfl);rw[p,Zi8,ZhG j];cases o;rfl;rw[ZiM Z0,ZiM ZgJ]
def Xl{w:Z3}{B:Nat}{e:Zd}{z n:Nat}{v:Zb}{xs:Zm}(h:w.ownsRow B e z v n xs):∃a c,v=.slice a n c:=by
 obtain⟨rfl,rfl⟩|⟨g,cap,d,rfl,_⟩:=h.2;exact⟨_,_,rfl⟩;exact⟨_,_,rfl⟩
theorem Xm{w w':Z3}{B:Nat}{e:Zd}{z n:Nat}{v:Zb}{xs:Zm}(h:w.ownsRow B e z v n xs)(l:∀b,v.ownBlock=J b->w'.heap[b]?=w.heap[b]?):w'.ownsRow B e z v n xs:=by
 refine⟨h.1,?_⟩;obtain⟨f,d⟩|⟨g,cap,a,rfl,d,j,k⟩:=h.2;exact .inl ⟨f,d⟩;exact .inr ⟨g,cap,a,rfl,d,by rw[l g rfl];exact j,k⟩
def Yh{w:Z3}{b o:Nat}{cs:Za}{T:Zd}(h:w.heap[b]?=J (.cells cs T (0,0))):w.frozen? ⟨b,o,U⟩=xw:=by
 simp[World.frozen?,h]
def J3:UD xP 24=xk:=Z2
theorem T8:xP.cellsOf 24=1:=Z2
def Y1{w:Z3}{b:Nat}{o:Obj}(h:w.heap[b]?=J o):b<xz (xj w):=(ZhN.1 h).1
def qC{w:Z3}{B B':Nat}{e:Zd}{z n:Nat}{v:Zb}{xs:Zm}(h:w.ownsRow B e z v n xs)(j:B'<=B):w.ownsRow B' e z v n xs:=by
 refine⟨h.1,?_⟩;obtain d|⟨g,cap,a,l,k,f⟩:=h.2;exact .inl d;exact .inr ⟨g,cap,a,l,Zif j k,f⟩
def Js(k:IntKind)(l:Z9)(i:Nat)(x:Int):Yd k (l.set i x)=(Yd k l).set i (.int k x):=by unfold Yd;rw[Zkw]
def Z5J:(xP.info? 24).map (λi=>(i.zero,i.size,i.bytes))=J (J<|.int .u64 0,1,8):=Z2
section
variable {w:Z3}{B:Nat}{G:Z4}
def yq{k:IntKind}(l:Z9):flat (l.map<|V.int k)=l.map (V.int k):=by
 induction l with
 |nil=>rfl
 |cons a l d=>rw[Zii,Q4,d];rfl
def Tn{k:IntKind}{e:Zd}{v:Zb}{l:Z9}(h:w.ownsRow B e 1 v (I l)<|Yd k l)(r:∀c,B<=c->c<xz (xj w)->G c):Rd w G (.sl<|l.map<|V.int k) v:=by
 obtain⟨rfl,q⟩|⟨g,cap,p,rfl,t,u,o,f,_⟩:=h.2;have:l=[]:=ZjA.1 q;subst this;exact .nil _ _ ZgX
 have:=Rd.sl (w:=w) (G:=G) (l.map<|V.int k) g 0 cap 1 (λi=>(Yd k l).getD i xy) (by simpa using o) f (r g t<|Y1 u) (λx y=>by
  obtain⟨n,_,rfl⟩:=Zi4.1 y
  exact⟨rfl,λc d=>by simp[V.cells]at d;subst d;rfl⟩) (λi j=>by
   have a:i<I l:=by simpa using j
   rw[Zit,h.cellAt i Z0];simp[Yd,a]) (λi c d=>by
   rw[yq]at d;obtain⟨j,rfl⟩:=ZhH.1 d;have a:i<I l:=by simpa using j
   simp[Yd,a];exact .int _ _)
 simpa using this
end
def Z7Z(w:Z3)(b k:Nat)(a:k=1\/k=2\/k=3\/k=4):
  Calls xP 36 #[.pointer<|J ⟨b,0,U⟩,.int .i64 k] w λe d=>e=.returned (.pointer<|J ⟨b,4+k,U⟩)/\Below (xz<|xj w) w d:=by
 go_enter F2,Tryz.ntmps36;obtain rfl|rfl|rfl|rfl:=a;all_goals
  go_wp2;go_region;go_wp2;go_ret
  exact⟨rfl,((ZhY _ _).alloc (ZhL _) _).drew⟩
def ZL:Array Value:=#[.int .u64 0,.int .i64 0,.int .i64 0,.bool xw,.int .i64 0,.slice U 0 0,.slice U 0 0,.slice U 0 0,.slice U 0 0,.slice U 0 0]
abbrev Tr(w:Z3)(b:Nat)(v0 v1 v2 v3 v4 v5 v6 v7 v8 v9:Zb):World:=(((((((((w.setCell ⟨b,0,U⟩ v0).setCell ⟨b,1,U⟩ v1).setCell ⟨b,2,U⟩ v2).setCell ⟨b,3,U⟩ v3).setCell ⟨b,4,U⟩ v4).setCell ⟨b,5,U⟩ v5).setCell ⟨b,6,U⟩ v6).setCell ⟨b,7,U⟩ v7).setCell ⟨b,8,U⟩ v8).setCell ⟨b,9,U⟩ v9
def LH{w2:Z3}{b:Nat}{T:Zd}(a:w2.heap[b]?=J (.cells ZL T (0,0))){v0 v1 d f v4 g v6 h j k:Zb}:(Tr w2 b v0 v1 d f v4 g v6 h j k).heap[b]?=J (.cells #[v0,v1,d,f,v4,g,v6,h,j,k] T (0,0)):=by
 unfold ZL at a;simp[World.setCell,Zij,a]
def U4{w2:Z3}{b:Nat}{T:Zd}(l:w2.heap[b]?=J (.cells ZL T (0,0)))(v0 v1 a d v4 f v6 g h k:Zb)(j:Nat):(Tr w2 b v0 v1 a d v4 f v6 g h k).cell? ⟨b,j,U⟩=(#[v0,v1,a,d,v4,f,v6,g,h,k]:Array Value)[j]? :=
 ZhQ _ _ _ _ _ _ (LH l)
def WP{B:Nat}{w0 w2:Z3}{b:Nat}(h:Below B w0 w2)(a:B<=b){v0 v1 d f v4 g v6 j k l:Zb}:Below B w0<|Tr w2 b v0 v1 d f v4 g v6 j k l:=
 (((((((((h.setCell a _).setCell a _).setCell a _).setCell a _).setCell a _).setCell a _).setCell a _).setCell a _).setCell a _).setCell a _
def Vq{w2:Z3}{b c:Nat}(hc:c≠b){v0 v1 a d v4 f v6 g h j:Zb}:(Tr w2 b v0 v1 a d v4 f v6 g h j).heap[c]?=w2.heap[c]? :=by
 have:¬b=c:=λe=>hc e.symm;simp[World.setCell,Zij,this]
end
def Zu(h:Hp)(j:Nat):List Int:=if j=0 then h.H else if j=1 then h.aa else if j=2 then h.ah else if j=3 then h.ak else h.E
structure OwSt (w:World) (b:Nat) (el:Nat->Option Obj) (T:TypeId) (hd src:Nat->Value) (L:Nat->List Int) (k:Nat) (xs:Nat->Value) (wr:World):Prop where
 below:Below (xz<|xj w) w wr
 new:xz (xj w)<=b
 blk:wr.heap[b]?=J (.cells #[hd 0,hd 1,hd 2,hd 3,hd 4,xs 0,xs 1,xs 2,xs 3,src 4] T (0,0))
 oo:∀c,xz (xj w)<=c->c<b->wr.heap[c]?=el c
 rest:∀j,k<=j->xs j=src j
 own:∀j,j<k->wr.ownsRow (xz<|xj w) 24 1 (xs j) (I<|L j) (Yd .u64<|L j)
 oz:∀j,j<k->∀c,(xs j).ownBlock=J c->b<c
 apart:∀i j,i<j->j<k->∀c,(xs i).ownBlock=J c->(xs j).ownBlock≠J c
def OwSt.next{w wr w1 o b z T g l L k xs}(h:OwSt w b z T g l L k xs wr)(G:k<4)
  (p:Below (xz<|xj wr) wr w1) (r:w1.grownBy o U) {v} (H:o.ownsRow (xz<|xj w) 24 1 v (I<|L k)<|Yd .u64<|L k) (D:∀c,v.ownBlock=J c->xz (xj w1)<=c):
  OwSt w b z T g l L (k+1) (λj=>if j=k then v else xs j) (o.setCell ⟨b,5+k,U⟩ v):=by
 have q:=Y1 h.blk;have F:=p.size;have y:=h.below.size;have f:∀c,c<xz (xj wr)->c≠b->(o.setCell ⟨b,5+k,U⟩ v).heap[c]?=wr.heap[c]? :=λc d x=>by
  rw[Zi0 _ _ _ _ x,r.block c Z0 Z1,p.block c d]
 have C:o.heap[b]?=J (.cells #[g 0,g 1,g 2,g 3,g 4,xs 0,xs 1,xs 2,xs 3,l 4] T (0,0)):=by
  rw[r.block b Z0 Z1,p.block b q,h.blk]
 refine⟨((h.below.trans<|p.mono y).grown r Z0 Z1).setCell h.new _,h.new,?_,?_,?_,?_,?_,?_⟩;have:k=0\/k=1\/k=2\/k=3:=Z0;obtain rfl|rfl|rfl|rfl:=this<;>simp[World.setCell,Zij,C];intro c A B;rw[f c Z0 Z0];exact h.oo c A B;intro j u;rw[ZhP Z0];exact h.rest j Z0;intro j u;by_cases a:j=k;subst a;grind [Xm,Below.heap_setCell];rw[ZhP a];have n:=h.own j Z0;exact Xm n λc d=>f c (n.lt c d).2 (by have:=h.oz j Z0 c d;omega);intro j u c d;by_cases a:j=k;grind;rw[ZhP a]at d;exact h.oz j Z0 c d;intro i j t u c d;rw[ZhP Z0]at d;by_cases a:j=k;rw[ZhS a];intro e;have:=D c e;have:=((h.own i Z0).lt c d).2;omega;rw[ZhP a];exact h.apart i j t Z0 c d
structure HOwn (B:Nat) (w:World) (h:Hp) (x:Nat->Value):Prop where
 own:∀j,j<5->w.ownsRow B 24 1 (x j) (I<|Zu h j) (Yd .u64<|Zu h j)
 apart:∀i j,i<j->j<5->∀c,(x i).ownBlock=J c->(x j).ownBlock≠J c
abbrev Z5:=Nat->Value
def ZA(h:Hp)(x:Z5):Value:=.agg #[.int .u64 h.base,.int .i64 h.cap,.int .i64 h.to,.bool h.M,.int .i64 h.Z,x 0,x 1,x 2,x 3,x 4]
abbrev RM(W:Z3)(b:Nat)(h:Hp)(x:Z5):World:=Tr W b (.int .u64 h.base) (.int .i64 h.cap) (.int .i64 h.to) (.bool h.M) (.int .i64 h.Z) (x 0) (x 1) (x 2) (x 3)<|x 4
def Z15(w:Z3)(h:Hp)(e:Ending)(w':Z3):Prop:=∃x,e=.returned (ZA h x)/\Below (xz<|xj w) w w'/\HOwn (xz<|xj w) w' h x
def Su{h}(a:h.ok)k:I (Zu h k)<=1000000:=by
 unfold Zu;split;exact a.H;split;exact a.aa;split;exact a.ah;split;exact a.ak;exact a.E
def Z80(w:Z3)(b k:Nat)(d:k<4):
  Calls xP 36 #[.pointer<|J ⟨b,0,U⟩,.int .i64 ((k+1:Nat):Int)] w λe a=>e=.returned (.pointer<|J ⟨b,5+k,U⟩)/\Below (xz<|xj w) w a:=by
 have:=Z7Z w b (k+1) Z0;grind
def zB(w:Z3)(G:Z4)(hG:∀b,G b->b<xz (xj w))(h:Hp)(hh:h.ok)(d:Z5)(hs:∀j,j<5->Rd w G (.sl<|(Zu h j).map vu) (d j)):
  Calls xP 15 #[ZA h d] w (Z15 w h):=by
 have HS:=ZhK hs;have HH:=ZhK hh;clear hs hh;unfold ZA;go_enter EU,Tryz.ntmps15;go_wp2
 go_loopw [4] (λi wr=>∃(k:Nat) (xs:Z5),i=.int .i64 ((k+1:Nat):Int)/\k<=4/\Hid (OwSt w (xz (xj w)+2) (λc=>if c=(xz<|xj w) then J (.cells #[.int .u64 h.base,.int .i64 h.cap,.int .i64 h.to,.bool h.M,.int .i64 h.Z,d 0,d 1,d 2,d 3,d 4] 30 (0,0))else J<|.cells #[.int .u64 0,.int .i64 0,.int .i64 0,.bool xw,.int .i64 0,.slice U 0 0,.slice U 0 0,.slice U 0 0,.slice U 0 0,.slice U 0 0] 30 (0,0)) 96 (λj=>if j=0 then .int .u64 h.base else if j=1 then .int .i64 h.cap else if j=2 then .int .i64 h.to else if j=3 then .bool h.M else .int .i64 h.Z) d (Zu h) k xs wr))
  (λi _=>5- (intOf i).toNat)
 case atStart=>
  refine⟨0,d,rfl,Z0,ZhK ⟨(((ZhY _ _).alloc (ZhL _) _).alloc Z1 _).alloc ZgJ _,Z0,?_,?_,λ_ _=>rfl,λj hj=>Z0,λj hj=>Z0,λi j _ hj=>Z0⟩⟩;have:=Zi7 ((w.alloc<|.cells #[.int .u64 h.base,.int .i64 h.cap,.int .i64 h.to,.bool h.M,.int .i64 h.Z,d 0,d 1,d 2,d 3,d 4] 30).alloc<|.cells #[.int .u64 0,.int .i64 0,.int .i64 0,.bool xw,.int .i64 0,.slice U 0 0,.slice U 0 0,.slice U 0 0,.slice U 0 0,.slice U 0 0] 30)<|.cells #[.int .u64 h.base,.int .i64 h.cap,.int .i64 h.to,.bool h.M,.int .i64 h.Z,d 0,d 1,d 2,d 3,d 4] 96;simp_all;intro c h1 h2;have:c=(xz<|xj w)\/c=xz (xj w)+1:=Z0;obtain rfl|rfl:=this;rw[ZhS rfl,ZhU _ _ _ ZgJ,ZhU _ _ _ Z1];exact Zi7 _ _;rw[ZhP Z0,ZhU _ _ _ Z1];have:=Zi7 (w.alloc<|.cells #[.int .u64 h.base,.int .i64 h.cap,.int .i64 h.to,.bool h.M,.int .i64 h.Z,d 0,d 1,d 2,d 3,d 4] 30)<|.cells #[.int .u64 0,.int .i64 0,.int .i64 0,.bool xw,.int .i64 0,.slice U 0 0,.slice U 0 0,.slice U 0 0,.slice U 0 0,.slice U 0 0] 30;simp_all
 case round=>
  obtain⟨k,xs,rfl,hk,g⟩:=hrel;have a4:=Y1 g.out.blk;by_cases a2:k<4
  .have b4:((k+1:Nat):Int)<=4:=Z0;have c0:wr.cell? ⟨xz (xj w)+2,5+k,U⟩=J (d k):=by
    rw[ZhQ _ _ _ _ _ _ g.out.blk];have h3:k=0\/k=1\/k=2\/k=3:=Z0;have hr:=g.out.rest k<|ZhL _;obtain rfl|rfl|rfl|rfl:=h3<;>simp[<-hr]
   have f0:wr.frozen? ⟨xz (xj w)+2,5+k,U⟩=xw:=Yh g.out.blk;have b2:I (Zu h k)<=1000000:=Su HH.out k
   go_wp2_with (first
    |(go_at_call 36;refine(Z80 _ _ _ a2).mono ?_;rintro e w1 ⟨rfl,C⟩;have c1:=(C.cell (p:=⟨xz (xj w)+2,5+k,U⟩)<|by exact a4).trans c0;have f1:=(C.frozen (p:=⟨xz (xj w)+2,5+k,U⟩)<|by exact a4).trans f0;have S:=ZhK<|(HS.out k<|by omega).keep (w':=w1) (λb hb=>by rw[C.block b (by have:=hG b hb;omega)];exact g.out.below.block b<|hG b hb) (λ_ h=>h);have a5:=ZhK C;have b5:=C.size;have a3:=g.out.below.size;clear C)
    |(at_builtin;refine Z0x (B:=xz<|xj w) (n:=0) (xs:=[]) rfl _ _ _ rfl SZ J3 rfl rfl (Zj6 _ _ _ _) (by omega) (l:=(Zu h k).map vu) (Gy:=G) S.out (by grind [T8,zd]) (by grind [Y4]) ?_))
   intro v6 w6 x a f A Q;simp only[T8]at a;have W:I x=I (Zu h k):=by have:=a.1;simp_all
   rw[qi Q W]at a;try simp only[Zia,Zit,ZiB]at a
   obtain⟨P,R,X⟩:=Xl a;subst X;have u:(Value.slice U 0 0).ownBlock=U:=rfl;rw[u]at f;have c6:=(f.cell_far ⟨xz (xj w)+2,5+k,U⟩ ZgH Z1).trans c1;have f6:=(f.frozen_far ⟨xz (xj w)+2,5+k,U⟩ ZgH Z1).trans f1;have q:∀c,(Value.slice P (I<|Zu h k) R).ownBlock=J c->xz (xj w1)<=c:=by
    intro c t;obtain e|⟨_,e⟩:=A;simp_all;exact(e.lt c t).1
   have HN:=ZhK<|g.out.next a2 a5.out f a q;clear a f A Q q;go_wp2;go_roundw
   case rel=>grind
   case measure=>grind [intOf]
  .have a9:k=4:=Z0;subst a9;have b0:=g.out.oo (xz<|xj w) Z0 Z0;rw[ZhS rfl]at b0;have b1:=g.out.oo (xz (xj w)+1) Z0 Z0;rw[ZhP Z0]at b1;have c9:wr.cell? ⟨xz<|xj w,9,U⟩=J (d 4):=by rw[ZhQ _ _ _ _ _ _ b0];rfl
   have b2:I (Zu h 4)<=1000000:=Su HH.out 4;have S:=ZhK<|(HS.out 4 Z0).keep (w':=wr) (λb hb=>g.out.below.block b<|hG b hb) (λ_ h=>h);have a3:=g.out.below.size;go_wp2_with (at_builtin;refine Z0x (B:=xz<|xj w) (n:=0) (xs:=[]) rfl _ _ _ rfl SZ J3 rfl rfl (Zj6 _ _ _ _) Z0 (l:=(Zu h 4).map vu) (Gy:=G) S.out (by grind [T8,zd]) (by grind [Y4]) ?_)
   intro v6 w6 x a f A Q;simp only[T8]at a;have W:I x=I (Zu h 4):=by have:=a.1;simp_all
   rw[qi Q W]at a;try simp only[Zia,Zit,ZiB]at a
   obtain⟨P,R,X⟩:=Xl a;subst X;have u:(Value.slice U 0 0).ownBlock=U:=rfl;rw[u]at f;obtain⟨D,L,e0⟩:=Xl<|g.out.own 0 Z0;obtain⟨F,M,e1⟩:=Xl<|g.out.own 1 Z0;obtain⟨H,N,e2⟩:=Xl<|g.out.own 2 Z0;obtain⟨K,O,e3⟩:=Xl<|g.out.own 3 Z0;have blk:wr.heap[xz (xj w)+2]?=J (.cells #[.int .u64 h.base,.int .i64 h.cap,.int .i64 h.to,.bool h.M,.int .i64 h.Z,.slice D (I<|Zu h 0) L,.slice F (I<|Zu h 1) M,.slice H (I<|Zu h 2) N,.slice K (I<|Zu h 3) O,d 4] 96 (0,0)):=by rw[<-e0,<-e1,<-e2,<-e3];exact g.out.blk
   have y:=(f.block (xz (xj w)+2) Z0 Z1).trans blk;have Z:=(f.block (xz (xj w)+1) Z0 Z1).trans b1;have x9:w6.cell? ⟨xz (xj w)+2,9,U⟩=J (d 4):=by rw[ZhQ _ _ _ _ _ _ y];rfl
   have y9:w6.frozen? ⟨xz (xj w)+2,9,U⟩=xw:=Yh y;obtain⟨Y,h7⟩:∃Y,w6.setCell ⟨xz (xj w)+2,9,U⟩ (.slice P (I<|Zu h 4) R)=Y:=⟨_,rfl⟩;have a0:Y.heap[xz (xj w)+2]?=J (.cells #[.int .u64 h.base,.int .i64 h.cap,.int .i64 h.to,.bool h.M,.int .i64 h.Z,.slice D (I<|Zu h 0) L,.slice F (I<|Zu h 1) M,.slice H (I<|Zu h 2) N,.slice K (I<|Zu h 3) O,.slice P (I<|Zu h 4) R] 96 (0,0)):=by
    rw[<-h7];simp[World.setCell,Zij,y]
   have T:Y.heap[xz (xj w)+1]?=J (.cells ZL 30 (0,0)):=by
    rw[<-h7,Zi0 _ _ _ _ Z1];exact Z
   have l:=λj=>ZhQ _ _ j _ _ _ a0;have m:=λj=>ZhQ _ _ j _ _ _ T;unfold ZL at m;have r:=λj=>Yh (o:=j) T;have z:=U4 T (.int .u64 h.base) (.int .i64 h.cap) (.int .i64 h.to) (.bool h.M) (.int .i64 h.Z) (.slice D (I<|Zu h 0) L) (.slice F (I<|Zu h 1) M) (.slice H (I<|Zu h 2) N) (.slice K (I<|Zu h 3) O)<|.slice P (I<|Zu h 4) R;have a7:Below (xz<|xj w) w Y:=by rw[<-h7];exact(g.out.below.grown f a3 Z1).setCell Z1 _
   have b3:∀c,c≠xz (xj w)+2->Y.heap[c]?=w6.heap[c]? :=λc t=>by rw[<-h7];exact Zi0 _ _ _ _ t
   have q:∀c,(Value.slice P (I<|Zu h 4) R).ownBlock=J c->xz (xj wr)<=c:=by
    intro c t;obtain e|⟨_,e⟩:=A;simp_all;exact(e.lt c t).1
   clear y Z blk b0 b1 c9;go_wp2;refine Zie (v:=.agg #[.int .u64 h.base,.int .i64 h.cap,.int .i64 h.to,.bool h.M,.int .i64 h.Z,.slice D (I<|Zu h 0) L,.slice F (I<|Zu h 1) M,.slice H (I<|Zu h 2) N,.slice K (I<|Zu h 3) O,.slice P (I<|Zu h 4) R]) (by simp[results,Tryz.results15,go_sem,z]) rfl ⟨λj=>if j=4 then .slice P (I<|Zu h 4) R else xs j,by simp[ZA,e0,e1,e2,e3],WP a7 Z1,?_⟩;have a1:=λc h1 h2=>(@Vq Y (xz (xj w)+1) c h1 (.int .u64 h.base) (.int .i64 h.cap) (.int .i64 h.to) (.bool h.M) (.int .i64 h.Z) (.slice D (I<|Zu h 0) L) (.slice F (I<|Zu h 1) M) (.slice H (I<|Zu h 2) N) (.slice K (I<|Zu h 3) O)<|.slice P (I<|Zu h 4) R).trans<|b3 c h2;refine⟨λj hj=> ?_,λi j a8 hj c t=> ?_⟩;by_cases h4:j=4;subst h4;rw[ZhS rfl];exact Xm a λc t=>a1 c (by have:=q c t;omega) (by have:=q c t;omega);rw[ZhP h4];have ho:=g.out.own j Z0;exact Xm ho λc t=>by
    have h1:=g.out.oz j Z0 c t;have h2:=(ho.lt c t).2;rw[a1 c Z0 Z0,f.block c h2 Z1]
   rw[ZhP Z0]at t;by_cases h4:j=4;subst h4;rw[ZhS rfl];intro e;have h1:=q c e;have h2:=((g.out.own i Z0).lt c t).2;omega;rw[ZhP h4];exact g.out.apart i j a8 Z0 c t
def Zc5(z:Zb)(n:Nat):(Builtin.zeroCells #[z] n).toList=List.replicate n z:=by
 simp[Builtin.zeroCells];apply List.ext_getElem;simp;intro i a d;simp[Nat.mod_one]
def Z9M{P:Z6}{w:Z3}{T tI ty e:Zd}{i:TypeInfo}{z:Zb}{kn:IntKind}(Z:P.underlying T=J (.slice e))(R:P.underlying tI=J (.int kn))(Y:P.info? e=J i)(hz:i.zero=J z)
  (H:z.cells=#[z]) (h1:z.oneCell'=xk) (hs:i.size=1) (M:i.bytes=8) {B n m:Nat} {v:Zb} {xs:Zm} (l:w.ownsRow B e 1 v n xs) (hB:B<=xz (xj w)) (hm:0<m) (a1:n+m<=4294967296) (N:IntKind):
  ∃O K,(Builtin.append_ #[T,tI] ty #[v,.int N m]).run P w=.ok O K/\K.ownsRow B e 1 O (n+m) (xs++List.replicate m z)/\w.grownBy K v.ownBlock/\
   (O.ownBlock=v.ownBlock\/(w.grownBy K U/\K.ownsRow (xz<|xj w) e 1 O (n+m) (xs++List.replicate m z))):=by
 have q:I xs=n:=by have:=l.1;simpa using this
 have f:I (xs++List.replicate m z)=n+m:=by simp[q]
 have Q:n+m<=maxLen:=by simp only[maxLen];omega
 have d:∀(a:Nat),a<n+m->∀(row:Option Nat) (L:Za),L=xs.toArray++(List.replicate m z).toArray->
   (w.drew.alloc<|.cells (L++Builtin.zeroCells z.cells (grownCap w (n+m) a e- (n+m))) e).ownsRow (xz<|xj w) e 1
    (.slice (J ⟨xz<|xj w,0,U⟩) (n+m)<|grownCap w (n+m) a e) (n+m) (xs++List.replicate m z)/\
   w.grownBy (w.drew.alloc<|.cells (L++Builtin.zeroCells z.cells (grownCap w (n+m) a e- (n+m))) e) row:=by
  rintro a ho row L rfl;have X:=grownCap_ge w (n+m) a e;have x:grownCap w (n+m) a e<=maxLen:=grownCap_le_maxLen w (n+m) a e Q;refine⟨⟨ZgZ,.inr ⟨xz<|xj w,_,_,rfl,ZhL _,Zi7 w.drew _,X,x,?_,?_⟩⟩,⟨rfl,rfl,rfl,Z1,λk F _=>ZhU w.drew _ k F⟩⟩;simp only[Array.size_append,Zja,size_zeroCells,H];simp[q];omega;simp only[Array.toList_append,Ziw];rw[<-Ziw,ZlV,<-f];exact Zlm
 have A:Builtin.zeroCells z.cells m=(List.replicate m z).toArray:=by
  rw[H];apply Array.ext';rw[Zc5]
 obtain⟨rfl,rfl⟩|⟨g,cap,h,rfl,S,hg,a2,x,a0,p⟩:=l.2;have hx:xs=[]:=Zjw q;subst hx;have t:=Lib.run_append_nil_zeros (P:=P) w T tI ty e i z N kn Z R Y hz m hm Z0 Z0 (by rw[M];omega);have D:=d 0 Z0;simp only[Zit,ZiB,Array.empty_append]at D t⊢;rw[A]at t;obtain⟨g1,g2⟩:=D U _ rfl;exact⟨_,_,t,qC g1 hB,g2,.inr ⟨g2,g1⟩⟩;by_cases o:n+m<=cap;have r:n+I (List.replicate m z)<=h.size:=ZgJ;have y:=run_storeCells_at P g n e (List.replicate m z) 0 h w hg (by simpa using r) (by intro v hv;rw[List.eq_of_mem_replicate hv];exact h1);simp only[Zjn]at y;have hw:IntKind.i64.wrap (m:Int)=m:=by rw[IntKind.wrap_i64];omega
 have G:¬((m:Int)<0):=Z0;have C:¬(281474976710656< (m:Int)*8):=Z0;have F:m≠0:=Z0
 have t:(Builtin.append_ #[T,tI] ty #[.slice (J ⟨g,0,U⟩) n cap,.int N m]).run P w=
   .ok (.slice (J ⟨g,0,U⟩) (n+m) cap) (w.setRow g (h.toList.take n++List.replicate m z++h.toList.drop (n+I (List.replicate m z))).toArray):=by
  simp[Builtin.append_,Zip Z,Zip R,Go.sizeOf,typeInfo,zeroValue,Y,hz,asInt,asIntOf,hw,G,hs,M,C,F,o,A,Zjk];simp at y;rw[y];simp
 refine⟨_,_,t,⟨ZgZ,.inr ⟨g,cap,_,rfl,S,ZlU w g h _ e _ hg,o,x,?_,?_⟩⟩,⟨rfl,rfl,rfl,Z1,λk _ F=>ZjC w g k _<|λe=>F (by simp[Value.ownBlock,e])⟩,.inl rfl⟩;simp only[Zja,Zin,ZiX,ZjN,Zk5];simp at r⊢;omega;rw[ZlV]at p⊢;rw[p,<-f];exact Zlm;have holds:∀j u,xs[j]?=J u->w.cell? ((⟨g,0,U⟩:Addr).add j)=J u:=l.cells (g:=g) rfl;have W:=run_firstCells_some (P:=P) w.drew i.size n ⟨g,0,U⟩ n cap xs (by rw[hs,ZlV];exact q) (by simpa using holds);have t:=Lib.run_append_grow_zeros (P:=P) w T tI ty e i z N kn Z R Y hz (J ⟨g,0,U⟩) n cap xs W m hm Z0 Z0 Z0 (by rw[M];omega)<|ZlS Z0 (by rw[M];omega);rw[A]at t;obtain⟨g1,g2⟩:=d cap Z0 U _ rfl;obtain⟨_,g3⟩:=d cap Z0 (Value.ownBlock<|.slice (J ⟨g,0,U⟩) n cap) _ rfl;exact⟨_,_,t,qC g1 hB,g3,.inr ⟨g2,g1⟩⟩
section
def J1:V->Value
 |.int k n=>.int k n
 |.bool b=>.bool b
 |_=>xy
def TN:V->Bool
 |.int _ _=>xk
 |.bool _=>xk
 |_=>xw
def Ta:V->Value
 |.agg a=>.agg (a.map J1).toArray
 |x=>J1 x
def Ul:V->Bool
 |.agg a=>a.all TN
 |x=>TN x
def Av:V->Value
 |.al l=>.tuple (l.map Ta).toArray
 |x=>Ta x
def yp:V->Bool
 |.al l=>l.all Ul
 |x=>Ul x
variable {w:Z3}{G:Z4}
def Z8W{x:V}(h:TN x=xk):Rd w G x<|J1 x:=by
 cases x<;>simp[TN]at h;exact .int _ _;exact .bool _
def D9{x:V}(h:Ul x=xk):Rd w G x<|Ta x:=by
 cases x with
 |agg d=>
  simp only[Ul,ZhV]at h;refine .agg _ _ Z1 (λc a=> ?_) λi c a=> ?_;have:=h c a;cases c<;>simp[TN]at this<;>rfl;have f:=Z8W (w:=w) (G:=G)<|h c<|ZhR a;have:((d.map J1).toArray).getD i xy=J1 c:=by
   obtain⟨g,rfl⟩:=ZhH.1 a;simp[Array.getD,g]
  rw[this];exact f
 |int k n=>exact .int _ _
 |bool b=>exact .bool _
 |_=>simp[Ul,TN]at h
def Z3t{x:V}{v:Zb}(h:TN x=xk)(r:Rd w G x v):v=J1 x:=by
 cases x<;>simp[TN]at h;cases r;rfl;cases r;rfl
def Au{x:V}{v:Zb}(h:Ul x=xk)(r:Rd w G x v):v=Ta x:=by
 cases x with
 |agg a=>
  simp only[Ul,ZhV]at h;cases r with
  |agg _ vs j _ l=>
   simp only[Ta,Value.agg.injEq];apply Zka;simpa using j;intro i f o;have d:i<I a:=Z0;have g:a[i]?=J a[i]:=ZhG d;have:=Z3t (h _<|Zi5 d)<|l i _ g;simp[Array.getD,f]at this;simpa using this
 |int k n=>cases r;rfl
 |bool b=>cases r;rfl
 |_=>simp[Ul,TN]at h
def Gh{x:V}{v:Zb}(h:yp x=xk)(r:Rd w G x v):v=Av x:=by
 cases x with
 |al a=>
  simp only[yp,ZhV]at h;cases r with
  |al _ vs j l=>
   simp only[Av,Value.tuple.injEq];apply Zka;simpa using j;intro i f o;have d:i<I a:=Z0;have g:a[i]?=J a[i]:=ZhG d;have:=Au (h _<|Zi5 d)<|l i _ g;simp[Array.getD,f]at this;simpa using this
 |agg a=>exact Au (x:=.agg a) h r
 |int k n=>cases r;rfl
 |bool b=>cases r;rfl
 |_=>simp[yp,Ul,TN]at h
def TH{P:Z6}{f:Zn}{fr:Bool}{args:Zr}{r:V}(h:VC P f fr args r)(a:args.all Ul=xk)(k:yp r=xk)(w:Z3):
  Calls P f (args.map Ta).toArray w λe g=>e=.returned (Av r)/\Below (xz<|xj w) w g:=by
 simp only[ZhV]at a;refine ZjL (h.2 w (λ_=>False) _ Z1 Z1 ?_) ?_;intro i x n;obtain⟨d,rfl⟩:=ZhH.1 n;have:((args.map Ta).toArray).getD i xy=Ta args[i]:=by simp[Array.getD,d]
 rw[this];exact D9<|a _<|Zi5 d;rintro e g ⟨v,rfl,j,l⟩;exact⟨by rw[Gh k l],j⟩
def Ti(l:Ly):Value:=.agg #[.int .u64 l.base,.int .i64 l.cap,.int .i64 l.to,.int .i64 l.H,.int .i64 l.aa,.int .i64 l.ah,.int .i64 l.ak]
def Z9w{l:Ly}(a:l.an)(w:Z3):Calls xP 41 #[Ti l] w λe d=>e=.returned (.bool<|ZI l)/\Below (xz<|xj w) w d:=
 TH (LV a) rfl rfl w
def Z9y{l:Ly}(a:l.an)(w:Z3):Calls xP 59 #[Ti l] w λe d=>e=.returned (.int .i64<|Wa l)/\Below (xz<|xj w) w d:=
 TH (Z9z a) rfl rfl w
def A5{l:Ly}(a:l.an)(part at_:Int)(w:Z3):Calls xP 19 #[Ti l,.agg #[.int .i64 part,.int .i64 at_]] w λe d=>e=.returned (.tuple #[.int .u64 (Y3 l part at_).1,.int .i64 (Y3 l part at_).2])/\Below (xz<|xj w) w d:=
 TH (Fs a) rfl rfl w
def GO{l:Ly}(f:l.an){a:Int}(d:ZB a)(w:Z3):Calls xP 56 #[Ti l,.int .u64 a] w λe g=>e=.returned (.tuple #[.agg #[.int .i64 (Yg l a).1,.int .i64 (Yg l a).2.1],.int .i64 (Yg l a).2.2])/\Below (xz<|xj w) w g:=
 TH (GP f d) rfl rfl w
def TE{x:Int}(hx:ZB x)(w:Z3):Calls xP 46 #[.int .u64 x] w λe a=>e=.returned (.tuple #[.int .u64 (adr x).1,.int .i64 (adr x).2])/\Below (xz<|xj w) w a:=
 TH (RR hx) rfl rfl w
def Oj{x:Int}(hx:ZB x)(w:Z3):Calls xP 21 #[.int .u64 x] w λe a=>e=.returned (.tuple #[.int .u64 (Xr x).1,.int .i64 (Xr x).2])/\Below (xz<|xj w) w a:=
 TH (Z8D hx) rfl rfl w
def QJ{x:Int}(hx:ZB x)(w:Z3):Calls xP 58 #[.int .u64 x] w λe a=>e=.returned (.tuple #[.agg #[.int .i64 (ZR x).1,.int .i64 (ZR x).2.1],.int .i64 (ZR x).2.2])/\Below (xz<|xj w) w a:=
 TH (DX hx) rfl rfl w
def Ke{h:Hp}{x:Z5}(g:∀b,G b->b<xz (xj w))(d:∀j,j<5->Rd w G (.sl<|(Zu h j).map vu) (x j)):
  Calls xP 20 #[ZA h x] w λe f=>e=.returned (Ti<|Zv h)/\Below (xz<|xj w) w f:=by
 refine ZjL ((jT (h:=h)).2 w G _ g rfl ?_) ?_;intro i y a
 match i,a with
 |0,a=>
  cases a;refine .agg _ _ rfl (by simp[V.one]) ?_;intro i y a
  match i,a with
  |0,a=>cases a;exact .int _ _
  |1,a=>cases a;exact .int _ _
  |2,a=>cases a;exact .int _ _
  |3,a=>cases a;exact .bool _
  |4,a=>cases a;exact .int _ _
  |5,a=>cases a;exact d 0 Z0
  |6,a=>cases a;exact d 1 Z0
  |7,a=>cases a;exact d 2 Z0
  |8,a=>cases a;exact d 3 Z0
  |9,a=>cases a;exact d 4 Z0
 rintro e f ⟨v,rfl,k,l⟩;exact⟨by rw[Gh Zhw l];rfl,k⟩
end
end Vm
end
