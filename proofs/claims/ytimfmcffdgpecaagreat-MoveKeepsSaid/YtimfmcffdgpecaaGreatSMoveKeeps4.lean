import Derived.ProofKit
import Derived.OpenShut
import Derived.WalkSpells
import Derived.WalkLawsBesides
import Derived.StillTailTactics
import Derived.Deep.RegionHeld3
import Derived.Deep.AppendLies
import Derived.Deep.Onto
import Derived.Deep.OwnRows
import Derived.Lib.Hide
import Derived.Lib.AppendZerosOnto
import Derived.Laws.CopyOwn
import Derived.RangeFuncNested
import Derived.RangeFuncBound
import Derived.Test.YtimfmcffdgpecaaGreatSMoveKeeps3
set_option linter.unusedSimpArgs false
set_option linter.unusedVariables false
set_option linter.defProp false
open Option renaming some→J,none→U
open Bool renaming true→xk,false→xw
open Go renaming undef→xy
open List renaming length→I
open Array renaming size→xz
open Go.World renaming heap→xj
open List renaming length→xq
open Array renaming size→xz
open Go.World renaming heap→xj
set_option maxHeartbeats 8000000
set_option maxRecDepth 100000
theorem Zh1{p:Prop}(h:p:=by simp[ZM]):p:=h
theorem Zh3{p:Prop}(h:p:=by simp[Xk]):p:=h
theorem Zgw{p:Prop}(h:p:=by simp[Yc];omega):p:=h
theorem ZgG{p:Prop}(h:p:=by unfold ZL at d;omega):p:=h
theorem Zgm{p:Prop}(h:p:=by decide):p:=h
theorem Zh0{p:Prop}(h:p:=by simp[ZB]):p:=h
theorem Zgn{p:Prop}(h:p:=by rw[cell_of_row _ _ _ _ _ _ d];rfl):p:=h
theorem ZgZ{p:Prop}(h:p:=by simp[Xk];omega):p:=h
def ZiE:=@List.append_nil
def Zia:=@Int.tmod_eq_emod_of_nonneg
def ZkD:=@Int.tdiv_eq_ediv_of_nonneg
def ZkC:=@Int.fdiv_eq_ediv_of_nonneg
def Zi3:=@List.take_add_one
def Zk1:=@Int.emod_nonneg
def ZjH:=@Int.emod_lt_of_pos
def Zlb:=@List.set_append_right
def Zi6:=@List.drop_eq_getElem_cons
def ZhW:=@List.append_assoc
def ZjW:=@List.map_set
def Zjk:=@List.take_append_drop
def Zld:=@List.sum_append
def ZkF:=@Bool.true_eq_false
def ZiQ:=@List.length_eq_zero_iff
def Zhv:=@Go.RowKit.Below.heap_setCell
def Zhf:=@Go.Lib.hid
def Zi0:=@Go.bodyPost_ret
def Zlm:=@Nat.mul_one
def ZkQ:=@List.take_left
def ZjX:=@Array.ext
def Zjt:=@List.length_set
def ZiC:=@Go.World.cell?_alloc_lt
def ZkU:=@not_true_eq_false
def ZiI:=@List.length_nil
def Zk2:=@List.findIdx?_cons
def Zi7:=@List.findIdx?_eq_some_iff_getElem
def ZiA:=@List.getElem?_set
def ZkA:=@List.take_succ_cons
def ZiY:=@List.getElem?_eq_none_iff
def ZkJ:=@List.pairwise_cons
def Zkp:=@Bool.false_or
def Zkv:=@Bool.eq_iff_iff
def Zk0:=@Go.grownBy_putObj'
def Zim:=@Go.World.alloc_heap_new
def ZjA:=@Go.World.size_alloc
def ZjF:=@Go.World.putObj_heap_same
def ZhR:=@Go.World.putObj_heap_other
section
namespace Vm
open Go Go.Proofs
def sig(f:Zq):Option<|List OT:=
 if f=78 then J [.fz,.mem [.own 120],.mem [.own 3]]else
 if f=59 then J [.fz,.mem [.fz,.fz]]else
 if f=60 then J [.fz,.own 120]else
 if f=46 then J [.fz,.own 120]else
 if f=89 then J [.mem [.fz,.fz,.fz,.fz,.fz,.fz,.fz,.fz,.fz,.fz,.fz,.fz,.fz,.fz,.fz,.fz,.fz,.fz,.fz,.fz,.fz,.own 75,.own 113],.fz,.fz]else
 if f=68 then J [.mem [.fz,.fz,.fz,.fz,.fz,.fz,.fz,.fz,.fz,.fz,.fz,.fz,.fz,.fz,.fz,.fz,.fz,.fz,.fz,.fz,.fz,.own 75,.own 113]]else
 if f=1000088 then J [.mem [.fz,.fz,.fz,.fz,.fz,.fz,.fz,.fz,.fz,.fz,.fz,.fz,.fz,.fz,.fz,.fz,.fz,.fz,.fz,.fz,.fz,.own 75,.own 113]]else
 U
@[simp]def pI(n:Int):E:=.c<|.int .i64 n
@[simp]def pU(n:Int):E:=.c<|.int .u64 n
@[simp]def pF:E:=.c<|.bool xw
@[simp]def pT:E:=.c<|.bool xk
@[simp]def pN:E:=.c<|.sl []
@[simp]def pG(e:E):Nat->Nat->List E
 |_,0=>[]
 |i,n+1=>.ac e i::pG e (i+1) n
@[simp]def pS(a n:Nat):OV:=.m<|pG (.sz (.s a) n) 0 n
@[simp]def pM(e:E)(n:Nat):OV:=.m<|pG e 0 n
@[simp]def pY:E:=.ag [pU 0,pI 0,pI 0,pF,pI 0,pN,pN,pN,pN,pN]
@[simp]def pZ:OV:=.m [pU 0,pI 0,pI 0,pF,pI 0,pN,pN,pN,pN,pN]
@[simp]def pR(l:List<|Nat×OV):Stm:=.au ⟨[],[],l⟩
@[simp]def pC(e:List EF)(l:List<|Nat×OV):Stm:=.au ⟨e,[],l⟩
@[simp]def pV(t:Nat)(e:E):Nat×OV:=(t,.v e)
@[simp]def pK(t f:Nat)(l:List E):EF:=.call t [] (.id f) xw xw l
@[simp]def pQ:List Stm->Stm->Stm
 | [],z=>z
 |a::l,z=>.seq a<|pQ l z
def fresh(f:Zq):Bool:=f==61||f==85||f==87||f==9
def follows:xP.follows .mixedOrders=xk:=Z2
noncomputable abbrev xQ (a:List OT) (f:Func):Option Fn:=V2 xP fresh sig a [] f
@[simp]def pl(a b:E):E:=.ce .lss a b
@[simp]def pe(a b:E):E:=.ce .eql a b
@[simp]def pa(a b:E):E:=.ce .add a b
@[simp]def pn(a b:E):E:=.ce .neq a b
@[simp]def pb(a b:E):E:=.ce .sub a b
@[simp]def pg(a b:E):E:=.ce .geq a b
@[simp]def pL(a b:E):E:=.ce .leq a b
@[simp]def pj(a b:E):E:=.ce .gtr a b
@[simp]def pm(a b:E):E:=.ce .mul a b
@[simp]def pw(c:E)(a:Stm):Stm:=.cond c a .skip
@[simp]def px(l:List<|Nat×OV):Stm:=.seq (pR l) .ret
@[simp]def pi(t:Nat)(e:E)(a:Stm):Stm:=.seq (pR [pV t e])<|.cond (.s t) a .skip
@[simp]def pu(t:Nat)(e:E)(a b:Stm):Stm:=.seq (pR [pV t e])<|.cond (.s t) a b
@[simp]def po(k:Zb)(t:Nat)(e:E)(a b:Stm):Stm:=.block 0<|.loop k<|.seq (pR [pV t e])<|.seq (.cond (.s t) .skip<|.exit 0)<|.seq (.block 1 a) b
@[simp]def pc(n:Nat):Stm:=pR [pV n<|.ce .add (.s n)<|pI 1]
section
def AB(x:Option V)(A B:Prop):Prop:=
 match x with
 |some (.bool xk)=>A
 |some (.bool xw)=>B
 |_=>False
@[simp]theorem Zd8 b A B:AB (J<|.bool b) A B↔if b=xk then A else B:=by cases b<;>simp[AB]
def W9{α:Type}(x:Option α)(K:α->Prop):Prop:=
 match x with
 |some x=>K x
 |none=>False
@[simp]theorem ZeM{α}x(K:α->Prop):W9 (J x) K↔K x:=Zj8
@[simp]theorem ZeL{α}(K:α->Prop):W9 U K↔False:=Zj8
@[simp]theorem ZeK{α β}f(x:Option α)(K:β->Prop):W9 (x.map f) K↔W9 x (λy=>K<|f y):=by cases x<;>rfl
@[simp]theorem ZeI{α β}f(x:Option α)(K:β->Prop):W9 (x.bind f) K↔W9 x (λy=>W9 (f y) K):=by cases x<;>rfl
@[simp]theorem ZeJ{α}p [Decidable p]x y(K:α->Prop):W9 (if p then x else y) K↔if p then W9 x K else W9 y K:=by split<;>rfl
def SK P [Lg P](f:Zq)(fr fl:Bool)(xs:Zr)(K:V->Prop):Prop:=∃r,VC P f fr xs r/\(fl=xk->WA r=J r)/\K r
def Zz{P} [Lg P]{f fr fl xs K r}(h:VC P f fr xs r)(d:fl=xk->WA r=J r)(a:K r):SK P f fr fl xs K:=⟨r,h,d,a⟩
def zR P [Lg P](f:Zq)(ks:List OT)(xs:Zr)(K:V->Prop):Prop:=∃R,Vo P f ks xs R/\K R
def U4{P} [Lg P]{f ks xs K R}(h:Vo P f ks xs R)(a:K R):zR P f ks xs K:=⟨R,h,a⟩
def kS P [Lg P](b:Stm)(N:St->Prop)(X:Nat->St->Prop)(R:St->Prop)(s:St):Prop:=Yw P b s N X R
def xB(id:Nat)(N:St->Prop)(X:Nat->St->Prop)(i:Nat)(s:St):Prop:=if i=id then N s else X i s
def kR(a:List<|ZG×E)(outs:List<|Nat×OV)(K:St->Prop)(t:St):Prop:=Sx t a/\U3 outs t t K
def kO(l:List<|Nat×OV)(t u:St)(i:Nat)(K:St->Prop)(x:SV):Prop:=U3 l t (YH u i x) K
def kL P [Lg P](l:List EF)(s:St)(i:Nat)(K:St->Prop)(x:V):Prop:=YR P l (YH s i<|.v x) K
def kA P [Lg P](f:Zq)(fr fl:Bool)(K:V->Prop)(xs:Zr):Prop:=SK P f fr fl xs K
def Q6 P [Lg P](fr fl:Bool)(K:V->Prop)(xs:Zr)(v:V):Prop:=W9 (QW v) λn=>SK P n.1 fr fl (xs++n.2) K
def Bs P [Lg P](x:Option V)(fr fl:Bool)(K:V->Prop)(xs:Zr):Prop:=W9 x<|Q6 P fr fl K xs
def Bu P [Lg P](f:Option FuncId)(ks:List OT)(K:V->Prop)(xs:Zr):Prop:=W9 f λn=>zR P n ks xs K
def kW P [Lg P](l:List EF)(s:St)(i:Nat)(K:St->Prop)(a:Zr):Prop:=if a=[]then YR P l s K else YR P l (YH s i<|.v<|.aq<|.bool xw::a) K
def kT(_:V):Prop:=True
section
variable {P:Z5}[Lg P]{N R:St->Prop}{X:Nat->St->Prop}{K:St->Prop}{s t u:St}
@[simp]theorem Zer b:kS P b N X R s↔Yw P b s N X R:=Zj8
@[simp]theorem Zgb id:xB id N X id s↔N s:=by simp[xB]
def K5 id i:xB id N X i s↔if i=id then N s else X i s:=Zj8
@[simp]theorem Zga{id i}(h:i≠id):xB id N X i s↔X i s:=by simp[xB,h]
@[simp]theorem Zeq a outs:kR a outs K t↔Sx t a/\U3 outs t t K:=Zj8
@[simp]theorem Zep l i x:kO l t u i K x↔U3 l t (YH u i x) K:=Zj8
@[simp]theorem Zeo l i x:kL P l s i K x↔YR P l (YH s i<|.v x) K:=Zj8
@[simp]theorem Zen f fr fl K xs:kA P f fr fl K xs↔SK P f fr fl xs K:=Zj8
@[simp]theorem Zel v fr fl K xs:Bs P (J v) fr fl K xs↔Q6 P fr fl K xs v:=Zj8
@[simp]theorem Zek(f:Zq)(fr fl:Bool)(K:V->Prop)(xs:Zr):Q6 P fr fl K xs (.fn f)↔SK P f fr fl xs K:=by simp[Q6,QW]
@[simp]theorem Zej f cs fr fl K xs:Q6 P fr fl K xs (.cy f cs)↔SK P f fr fl (xs++cs) K:=by simp[Q6,QW]
@[simp]theorem Zem f ks K xs:Bu P (J f) ks K xs↔zR P f ks xs K:=Zj8
@[simp]theorem Zeu(l:List EF)(i:Nat):kW P l s i K []↔YR P l s K:=by simp[kW]
@[simp]theorem Zet l i x a:kW P l s i K (x::a)↔YR P l (YH s i<|.v<|.aq<|.bool xw::x::a) K:=by simp[kW]
@[simp]theorem Zes x:kT x↔True:=Zj8
@[simp]theorem Zg6 r:Yw P (.au r) s N X R↔jR P r s N:=Zj8
@[simp]theorem Zg9:Yw P .skip s N X R↔N s:=Zj8
@[simp]theorem Zg8 a b:Yw P (.seq a b) s N X R↔Yw P a s (kS P b N X R) X R:=Zj8
@[simp]theorem Zg4 c a b:Yw P (.cond c a b) s N X R↔AB (eval s c) (Yw P a s N X R) (Yw P b s N X R):=by
 rfl
@[simp]theorem Zg3 id a:Yw P (.block id a) s N X R↔Yw P a s N (xB id N X) R:=Zj8
@[simp]theorem Zg5 id:Yw P (.exit id) s N X R↔X id s:=Zj8
@[simp]theorem Zg7:Yw P .ret s N X R↔R s:=Zj8
def UM{keep a}(I:St->Prop)(μ:St->Nat)(f:I<|X2 keep s)(g:∀s,I s->Yw P a s (λd=>I (X2 keep d)/\μ (X2 keep d)<μ s) X R):Yw P (.loop keep a) s N X R:=⟨I,μ,f,g⟩
@[simp]theorem Zg2 d a outs:jR P ⟨d,a,outs⟩ s K↔YR P d s (kR a outs K):=Zj8
@[simp]theorem Zg1:U3 [] t u K↔K u:=Zj8
@[simp]theorem Zg0 i o l:U3 ((i,o)::l) t u K↔W9 (WV t o) (kO l t u i K):=by
 simp[U3,kO];cases WV t o<;>rfl
@[simp]theorem ZfU:Sx t []↔True:=Zj8
@[simp]theorem ZfT C e l:Sx t ((C,e)::l)↔(VO t C=xk->W9 (eval t e) kT)/\Sx t l:=by
 simp[Sx,kT];cases eval t e<;>simp
@[simp]theorem ZfZ:YR P [] s K↔K s:=Zj8
@[simp]theorem ZfY i C e l:YR P (.lt i C e::l) s K↔if VO s C=xk then W9 (eval s e) (kL P l s i K)else YR P l s K:=by
 simp[YR,kL];cases eval s e<;>rfl
@[simp]theorem ZfV i C f fr fl es l:YR P (.call i C (.id f) fr fl es::l) s K↔if VO s C=xk then W9 (YG s es) (kA P f fr fl<|kL P l s i K)else YR P l s K:=by
 simp[YR,W9,SK,UX];cases YG s es<;>simp
@[simp]theorem ZfW i C x fr fl es l:YR P (.call i C (.e x) fr fl es::l) s K↔if VO s C=xk then W9 (YG s es) (Bs P (eval s x) fr fl<|kL P l s i K)else YR P l s K:=by
 simp[YR,W9,Bs,Q6,SK,UX];cases YG s es with
 |none=>simp
 |some d=>
  cases eval s x with
  |none=>simp
  |some v=>cases a:QW v<;>simp[a]
@[simp]theorem ZfX i C f ks es l:YR P (.ct i C f ks es::l) s K↔
  if VO s C=xk then W9 (YG s es)<|Bu P (Vu s f) ks<|kL P l s i K
  else W9 (WC s ks es)<|kW P l s i K:=by
 simp[YR,W9,zR,Bu,kW];split;cases YG s es<;>cases Vu s f<;>simp
 cases WC s ks es with
 |none=>simp
 |some a=>cases a<;>simp
@[simp]theorem Zfc e:WV t (.v e)=(eval t e).map .v:=rfl
@[simp]theorem Zfa l:WV t (.m l)=(YG t l).map .m:=rfl
@[simp]theorem Zfb:WV t .no=J .no:=rfl
@[simp]theorem Zee:VO s []=xk:=rfl
def Z4o i b(C:ZG):VO s ((i,b)::C)=((match get s i with|.v (.bool c)=>c==b|_=>xw)&&VO s C):=rfl
end
@[simp]theorem Zec x(s:St):get (x::s) 0=x:=rfl
@[simp]theorem Zeb x(s:St)n:get (x::s) (n+1)=get s n:=by simp[get]
@[simp]theorem Zfh x y(s:St):YH (y::s) 0 x=x::s:=rfl
@[simp]theorem Zfg x y(s:St)n:YH (y::s) (n+1) x=y::YH s n x:=rfl
@[simp]theorem Zff x:YH [] 0 x=[x]:=rfl
@[simp]theorem Zfe x n:YH [] (n+1) x=.no::YH [] n x:=rfl
@[simp]theorem Zf9 s:X2 [] s=[]:=rfl
@[simp]theorem Zf8 i l s:X2 (i::l) s=YH (X2 l s) i (get s i):=rfl
attribute [simp] LE eval YG Z4o Wq Tf VZ RS RR XH Jz SG Tp Vu WC
section
variable {k:IntKind}{a b:Int}{x y:V}{l r:Zr}
@[simp]theorem ZcD:Xi .add (.int k a) (.int k b)=J (.int k<|k.wrap<|a+b):=by simp[Xi]
@[simp]theorem ZcN:Xi .sub (.int k a) (.int k b)=J (.int k<|k.wrap<|a-b):=by simp[Xi]
@[simp]theorem ZcJ:Xi .mul (.int k a) (.int k b)=J (.int k<|k.wrap<|a*b):=by simp[Xi]
@[simp]theorem ZcL:Xi .quo (.int k a) (.int k b)=if b≠0 then J (.int k<|k.wrap<|a.tdiv b)else U:=by simp[Xi]
@[simp]theorem ZcM:Xi .rem (.int k a) (.int k b)=if b≠0 then J (.int k<|a.tmod b)else U:=by simp[Xi]
@[simp]theorem ZcE:Xi .eql (.int k a) (.int k b)=J (.bool<|decide (a=b)):=by simp[Xi];rfl
@[simp]theorem ZcK:Xi .neq (.int k a) (.int k b)=J (.bool<|!decide (a=b)):=by simp[Xi];rfl
@[simp]theorem ZcI:Xi .lss (.int k a) (.int k b)=J (.bool<|decide (a<b)):=by simp[Xi]
@[simp]theorem ZcH:Xi .leq (.int k a) (.int k b)=J (.bool<|decide (a<=b)):=by simp[Xi]
@[simp]theorem ZcG:Xi .gtr (.int k a) (.int k b)=J (.bool<|decide (b<a)):=by simp[Xi]
@[simp]theorem ZcF:Xi .geq (.int k a) (.int k b)=J (.bool<|decide (b<=a)):=by simp[Xi]
@[simp]theorem Zda p q n:SP n (.bool p) (.bool q)=J (.bool<|n ^^ (p==q)):=rfl
@[simp]theorem ZfM:Ss .neg (.int k a)=J (.int k<|k.wrap<|0-a):=rfl
@[simp]theorem ZfN p:Ss .not (.bool p)=J (.bool !p):=rfl
@[simp]theorem Zd9 k':QY k' (.int k a)=J (.int k'<|k'.wrap a):=rfl
@[simp]theorem Zev:Qa (.sl l)=J (.int .i64<|I l):=rfl
@[simp]theorem ZeB id vs:R5 (.mp id l vs)=J (.int .i64<|I l):=rfl
@[simp]theorem Zey id vs:L6 (.mp id l vs)=J (.mp id [] []):=rfl
@[simp]theorem Zez:Qf (.int k a) (.int k b)=J (.int k<|if b<a then b else a):=rfl
@[simp]theorem Zex:Qe (.int k a) (.int k b)=J (.int k<|if b>a then b else a):=rfl
@[simp]theorem Zdb i:TV (.aq l) i=l[i]? :=rfl
@[simp]theorem Zeg(i n:Nat):Xb (.sl l) (.int k i) n=(l[i]?).bind λz=>if I z.cells=n then J z else U:=by simp[Xb]
@[simp]theorem ZcV:(V.int k a).cells=[V.int k a]:=rfl
@[simp]theorem ZcT p:(V.bool p).cells=[V.bool p]:=rfl
@[simp]theorem ZcY s:(V.str s).cells=[V.str s]:=rfl
@[simp]theorem ZcX:(V.sl l).cells=[V.sl l]:=rfl
@[simp]theorem ZcR:(V.agg l).cells=l:=rfl
@[simp]theorem ZcW id:(V.mp id l r).cells=[V.mp id l r]:=rfl
@[simp]theorem ZcU f:(V.fn f).cells=[V.fn f]:=rfl
@[simp]theorem Zf4:(V.int k a).one=xk:=rfl
@[simp]theorem Zf0 p:(V.bool p).one=xk:=rfl
@[simp]theorem Zf7:(V.sl l).one=xk:=rfl
@[simp]theorem Zf5 id:(V.mp id l r).one=xk:=rfl
@[simp]theorem Zf3 f:(V.fn f).one=xk:=rfl
@[simp]theorem ZeZ:(V.agg l).one=xw:=rfl
@[simp]theorem ZeT:YV (.int k a)=J (.int k a):=rfl
@[simp]theorem ZeP p:YV (.bool p)=J (.bool p):=rfl
@[simp]theorem ZeX s:YV (.str s)=J (.str s):=rfl
@[simp]theorem ZeW:YV (.sl l)=J (.sl l):=rfl
@[simp]theorem ZeU id:YV (.mp id l r)=J (.mp id l r):=rfl
@[simp]theorem ZeS f:YV (.fn f)=J (.fn f):=rfl
@[simp]theorem Zde o:Y1 (.agg l) o=(l[o]?).bind YV:=rfl
@[simp]theorem ZdA:Y1 (.int k a) 0=J (.int k a):=rfl
@[simp]theorem Zdf p:Y1 (.bool p) 0=J (.bool p):=rfl
@[simp]theorem Ze0:Y1 (.sl l) 0=J (.sl l):=rfl
@[simp]theorem Ze1 s:Y1 (.str s) 0=J (.str s):=rfl
@[simp]theorem Ze2 o n:Uv (.agg l) o n=if o+n<=(I l) then J (.agg<|(l.drop o).take n)else U:=rfl
@[simp]theorem ZfA n:VD (.agg l) n=if I l=n then J (.agg l)else U:=rfl
@[simp]theorem Zeh:Q5 (.agg l)=J (.agg l):=rfl
@[simp]theorem Zfz:Tj (.ptr l)=J (.agg l):=rfl
@[simp]theorem Zei p A B:Je (.bool p) A B=if p=xk then A else B:=by cases p<;>rfl
@[simp]theorem Zcp:TR l=.agg (flat l):=rfl
@[simp]theorem Zdc:flat (x::l)=x.cells++flat l:=rfl
@[simp]theorem Zdd:flat []=[]:=rfl
@[simp]theorem ZcC n:RH n (.sl l) (.sl r)=if I l+I r<=Yc/\XA n r=xk then J (.sl<|l++r)else U:=rfl
@[simp]theorem Zfs n:XA n []=xk:=rfl
@[simp]theorem Zfp n:XA n (x::l)=(I x.cells==n&&XA n l):=rfl
def JN{α:Type}{f n}{l:List α}(h:∀x,(f x).cells.length=n):XA n (l.map f)=xk:=by
 simp[XA,h]
abbrev Z6:=List Int
@[simp]theorem jF(l:Z6):XA 1 (l.map<|V.int k)=xk:=JN λ_=>rfl
@[simp]theorem ZeA(n:Nat):L9 x (.int k n)=if n<=Yc then J (.sl<|List.replicate n x)else U:=by
 simp only[L9];have:(n<=Yc)↔n<=Yc:=Z0;simp
@[simp]theorem Zam(i j n:Nat):Ro n (.sl l) (.int k i) (.int k j)=if i<=j/\j<=I l/\XA n l=xk then J (.sl<|(l.take j).drop i)else U:=by
 simp[Ro]
@[simp]theorem Zfx(i n:Nat):Qz n (.sl l) (.int k (i:Int))=if i<=I l/\XA n l=xk then J (.sl<|l.drop i)else U:=by
 simp[Qz]
@[simp]theorem ZfO(i o:Nat):Rs (.sl l) (.int k i) o y=(l[i]?).bind λz=>if o+I y.cells<=I z.cells/\y.cells≠[]then J (.sl<|l.set i<|z.put o y.cells)else U:=by
 simp[Rs]
end
abbrev vi(n:Int):V:=.int .i64 n
abbrev vu(n:Int):V:=.int .u64 n
@[simp]theorem ZeD(n:Nat):((n:Int)<0)↔False:=by simp
def ZA n(a: -9223372036854775808<=n)(h2:n<=9223372036854775807):IntKind.i64.wrap n=n:=by
 rw[IntKind.wrap_i64];omega
end
end Vm
end
section
namespace Vm
open Go Go.ChangeShapes Go.WideShapes Go.ChangeAt Go.RowKit
section
def KK(P:Z5)(n:Nat):List Field->Nat->Bool
 | [],o=>o==n
 |f::l,o=>f.offset==o&&KK P n l (o+P.cellsOf f.type)
def Sb(P:Z5):Nat->TypeId->Bool
 |0,_=>xw
 |n+1,t=>match P.underlying t with
  |some .bool|some (.int _)|some .string=>xk
  |some (.slice e)=>Sb P n e&&decide (0<P.cellsOf e)
  |some (.struct a)=>KK P (P.cellsOf t) a.toList 0&&a.toList.all λf=>Sb P n f.type
  |some (.array m e)=>Sb P n e&&m*P.cellsOf e==P.cellsOf t
  |_=>xw
def Xp(P:Z5):Nat->TypeId->V->Prop
 |0,_,_=>False
 |n+1,t,x=>match P.underlying t with
  |some .bool=>∃b,x=.bool b
  |some (.int k)=>∃m,x=.int k m/\(Lit.int k m).wf=xk
  |some .string=>∃s,x=.str s/\s.size<=maxLen
  |some (.slice e)=>∃l,x=.sl l/\I l<=maxLen/\∀y∈l,Xp P n e y
  |some (.struct d)=>∃a,x=.agg (flat a)/\I a=I d.toList/\∀(i:Nat) (f:Field) (y:V),d.toList[i]?=J f->a[i]?=J y->Xp P n f.type y
  |some (.array m e)=>∃a,x=.agg (flat a)/\I a=m/\∀y∈a,Xp P n e y
  |_=>False
def RdC(w:Z3)(G:Z4)(cs:Zr)(vs:Zp):Prop:=
 I vs=I cs/\∀(i:Nat) (c:V),cs[i]?=J c->c.one=xk/\∃u,vs[i]?=J u/\Rd w G c u
def RdC.nil{w G}:RdC w G [] []:=⟨rfl,λi c h=>ZgN⟩
def RdC.append{w G cs d vs f}(h:RdC w G cs vs)(h':RdC w G d f):RdC w G (cs++d)<|vs++f:=by
 refine⟨by simp[h.1,h'.1],λi c g=> ?_⟩;rw[List.getElem?_append]at g⊢;rw[h.1];split at g;rename_i a;rw[Zhi a];exact h.2 i c g;rename_i a;rw[Zhg a];exact h'.2 _ c g
theorem RdC.one{w G c v}(a:c.one=xk)(h:Rd w G c v):RdC w G [c] [v]:=
 ⟨rfl,λi x d=>by
  grind⟩
def zU{α:Type}{Q:Nat->α->Prop}:∀n,(∀i,i<n->∃y,Q i y)->∃l:List α,I l=n/\∀i y,l[i]?=J y->Q i y
 |0,_=>Z1
 |n+1,h=>by
  let⟨l,d,f⟩:=zU n λi o=>h i Z0;let⟨y,j⟩:=h n Z0;refine⟨l++[y],by simp[d],λi z a=> ?_⟩;rw[List.getElem?_append]at a;split at a;exact f i z a;rename_i g;rw[List.getElem?_singleton]at a;split at a;rename_i k;have:i=n:=Z0;subst this;simp[Zh7]at a;subst a;exact j;cases a
def Av{w:Z3}{b a n cs}(h:w.cells? b a n=J cs):I cs=n/\∀i,i<n->w.cell? (a.add i)=cs[i]? :=by
 unfold World.cells? at h;split at h;have d:=mapM_some_length h;rw[List.length_range]at d;refine⟨d,λi f=>mapM_some_get h i i ?_⟩;simp_all;cases h
def Z3f{w:Z3}{a v}(h:w.cell? a=J v):a.block<xz (xj w):=by
 grind [World.cell?]
def Da{w G}:∀ {ys} {a:List (List Value)},I a=I ys->(∀(i:Nat) y vs,ys[i]?=J y->a[i]?=J vs->RdC w G y.cells vs)->RdC w G (flat ys) a.flatten
 | [],[],_,_=>by simpa using RdC.nil
 | [],_::_,h,_=>ZgN
 |_::_,[],h,_=>ZgN
 |y::ys,vs::a,h,d=>by
  exact(d 0 y vs rfl rfl).append (Da Zgc λi z f j g=>d (i+1) z f Zgc Zgc)
def GR{P n}{cs:Zp}:∀ {l} {o:Nat},KK P n l o=xk->o<=n/\(I cs=n->cs.drop o=(l.map λf=>(cs.drop f.offset).take<|P.cellsOf f.type).flatten)
 | [],o,h=>by
   simp_all[KK,Zi2]
 |f::l,o,h=>by
  simp[KK,Zi2]at h;let⟨d,a⟩:=h;let⟨g,j⟩:=GR (cs:=cs) a;refine⟨Z0,λk=> ?_⟩;grind [List.drop_drop,List.take_append_drop]
def Z2t{cs:Zp}{k}:∀ {m},I cs=m*k->cs=((List.range m).map λi=>(cs.drop<|i*k).take k).flatten:=by
 have:∀m (cs:Zp),cs.take (m*k)=((List.range m).map λi=>(cs.drop<|i*k).take k).flatten:=by
  intro m;induction m with
  |zero=>simp
  |succ m d=>
   simp_all[Zjv,Zir,List.flatten_append,Zit,List.take_add]
 intro m h;have a:=this m cs;grind
section
variable {H:Type}{enc:TypeId×Value->H}{P:Z5}{w:Z3}{spare:Nat->Bool}{held:Bool}
def jc:∀ {n} {t:Zh} {C:Nat} {cs:Zp} {d:DataW H×List MemPlace},Sb P n t=xk->DataW.trod enc P w 0 spare held C t cs=J d->
  ∃x,Xp P n t x/\RdC w (λb=>b<xz (xj w)) x.cells cs
 |0,t,C,cs,d,L,h=>by cases L
 |n+1,t,C,cs,d,L,h=>by
  unfold Sb at L;unfold Xp;split at L;rename_i N;obtain⟨b,rfl,_⟩:=DataW.trod_bool N h;exact⟨.bool b,⟨b,rfl⟩,.one rfl<|.bool b⟩;rename_i k N;obtain⟨m,rfl,_,hw⟩:=DataW.trod_int N h;exact⟨.int k m,Zgd,.one rfl<|.int k m⟩;rename_i N;obtain⟨s,rfl,_,hw⟩:=DataW.trod_string N h;exact⟨.str s,Zgd,.one rfl<|.str s⟩;rename_i e N;simp only[Zhb,ZhG]at L;let⟨M,A⟩:=L;obtain⟨rfl,_⟩|⟨a,len,cap,a8,b3,m,_,rfl,_,_,b5,a4,b4,D,_⟩:=DataW.trod_slice N h;exact⟨.sl [],Z1,.one rfl<|.nil _ _ Z0⟩;have F:∀i,i<len->∃y,Xp P n e y/\∃vs,w.cells? 0 (a.add<|i*P.cellsOf e) (P.cellsOf e)=J vs/\RdC w (λb=>b<xz (xj w)) y.cells vs:=by
   intro i g;have p:=D i g;rw[Zh8 Z0]at p;simp only[Zh6]at p;let⟨vs,S,B⟩:=p;let⟨y,r,T⟩:=jc M B;exact⟨y,r,vs,S,T⟩
  let⟨l,b1,a1⟩:=zU len F;have b6:∀y∈l,Xp P n e y:=λy r=>by
   let⟨i,g⟩:=ZhH r;exact(a1 i y g).1
  refine⟨.sl l,Zgc,.one rfl ?_⟩;cases a5:len with
  |zero=>
   have:l=[]:=Zgd;subst this;exact .nil _ _ a4
  |succ b2=>
   let⟨b,o,a0⟩:=a;have a2:a0=U:=by
    let⟨y,_,vs,O,_⟩:=F 0 Z0;let⟨p,S⟩:=Av O;have B:=S 0 A;rw[Zh8 Z0]at B;have h4:=World.cell?_spot B;obtain _|s:=a0;rfl;simp[Addr.add]at h4
   subst a2;have z:∀(i j:Nat) (y:V),l[i]?=J y->j<P.cellsOf e->∃(u:Zg),w.cell? ⟨b,o+(i*P.cellsOf e+j),U⟩=J u/\∃c,y.cells[j]?=J c/\c.one=xk/\Rd w (λb=>b<xz (xj w)) c u:=by
    intro i j y r Z;let⟨_,vs,O,T⟩:=a1 i y r;let⟨p,S⟩:=Av O;have B:=S j Z;rw[ZiZ,ZiZ,Zh8 Z0]at B;have b7:j<I y.cells:=by rw[<-T.1];omega
    let⟨q1,u,q2,q3⟩:=T.2 j y.cells[j] Z1;rw[Zh8 Z0,Zh7]at q2;subst q2;exact⟨_,by rw[<-Zik];exact B,_,Z1,q1,q3⟩
   have K:∀y∈l,y.an<|P.cellsOf e:=λy r=>by
    let⟨i,g⟩:=ZhH r;let⟨_,vs,O,T⟩:=a1 i y g;refine⟨by rw[<-T.1,(Av O).1],λc hc=> ?_⟩;let⟨j,Z⟩:=ZhH hc;exact(T.2 j c Z).1
   have Y:∀i,i<I l*P.cellsOf e->∃y,l[i / P.cellsOf e]?=J y/\i%P.cellsOf e<P.cellsOf e/\i=i / P.cellsOf e*P.cellsOf e+i%P.cellsOf e:=by
    intro i g;have p:=(Zle A).2 g;exact⟨_,Zh8 p,Zks _ A,by rw[Nat.mul_comm];exact(Nat.div_add_mod _ _).symm⟩
   have hb:b<xz (xj w):=by
    obtain⟨y,r⟩:∃y,l[0]?=J y:=⟨_,Zh8 Z0⟩;let⟨u,hu,_⟩:=z 0 0 y r A;exact Z3f hu
   have a6:=Rd.sl (w:=w) (G:=λb=>b<xz (xj w)) l b o cap (P.cellsOf e) (λi=>(w.cell? ⟨b,o+i,U⟩).getD xy) Z0 a4 hb K (λi g=> ?_) (λi c g=> ?_);rw[b1,a5]at a6;exact a6;let⟨y,p,S,B⟩:=Y i g;let⟨u,hu,_⟩:=z _ _ y p S;rw[<-B]at hu;rw[hu];rfl;have b0:i<I l*P.cellsOf e:=by
    rw[<-TW K];exact(Zh9.1 g).1
   let⟨y,p,S,B⟩:=Y i b0;let⟨u,hu,c',a9,_,T⟩:=z _ _ y p S;rw[<-B]at hu;rw[B,Vt K p _ S,a9]at g;cases g;simp only[hu,ZhE];exact T
  rename_i fs N;simp only[Zhb,Zhn]at L;let⟨M,A⟩:=L;let⟨xs,m,_,_,a3,a7,D⟩:=DataW.trod_struct N h
  let⟨ys,R,W⟩:=zU (Q:=λi y=>∀f,fs.toList[i]?=J f->Xp P n f.type y/\RdC w (λb=>b<xz (xj w)) y.cells ((cs.drop f.offset).take<|P.cellsOf f.type)) (I fs.toList) (by
   intro i g;have hf:fs.toList[i]?=J fs.toList[i]:=Z1;have p:=D i fs.toList[i] Z1;rw[Zh8 (by rw[a7];exact g)]at p;let⟨y,r,T⟩:=jc (A _<|Zhx g) p;exact⟨y,Zgc⟩)
  refine⟨.agg<|flat ys,⟨ys,rfl,R,λi f y hf r=>Zgc⟩,?_⟩;have X:=(GR (cs:=cs) M).2 a3;rw[List.drop_zero]at X;rw[X];refine Da (by simp[R]) λi y vs r O=> ?_;rw[Zhz,Zha]at O;obtain⟨f,hf,rfl⟩:=O;exact(W i y r f hf).2;rename_i m e N;simp only[Zhb,Zi2]at L;let⟨M,A⟩:=L;let⟨xs,q,_,_,a3,a7,D⟩:=DataW.trod_array N h
  let⟨ys,R,W⟩:=zU (Q:=λi y=>Xp P n e y/\RdC w (λb=>b<xz (xj w)) y.cells ((cs.drop<|i*P.cellsOf e).take<|P.cellsOf e)) m (by
   intro i g;have p:=D i g;rw[Zh8 Z0]at p;exact jc M p)
  refine⟨.agg<|flat ys,⟨ys,rfl,R,λy r=> ?_⟩,?_⟩;let⟨i,g⟩:=ZhH r;exact(W i y g).1;rw[Z2t (cs:=cs) (k:=P.cellsOf e) (m:=m) Z0];refine Da (by simp[R]) λi y vs r O=> ?_;rw[Zhz,Zha]at O;obtain⟨j,Z,rfl⟩:=O;have:j=i:=by
   rw[Zh9]at Z;let⟨_,Z⟩:=Z;simpa using Z.symm
  subst this;exact(W j y r).2;cases L
def Z8X{n t v d F r D}(j:Sb P n t=xk)(a:Value.okWide P w r D t v)(h:DataW.Trod enc P w 0 spare held t v d F):
  ∃x,Xp P n t x/\Rd w (λb=>b<xz (xj w)) x v:=by
 let⟨B,h⟩:=h;let⟨x,g,l⟩:=jc j h;refine⟨x,g,?_⟩;have o:∀ {c},x=c->c.cells=[c]->v.cells.toList=[v]->Rd w (λb=>b<xz (xj w)) x v:=by
  intro c y q A;subst y;rw[q,A]at l;let⟨_,u,p,C⟩:=l.2 0 x rfl;simp at p;subst p;exact C
 have K:∀ {cs} {vs:Ze},x=.agg cs->v=.agg vs->Rd w (λb=>b<xz (xj w)) x v:=by
  intro cs vs y A;subst y A;refine .agg cs vs (by have:=l.1;simpa[Value.cells]using this) (λc q=> ?_) λi c z=> ?_;let⟨i,z⟩:=ZhH q;exact(l.2 i c z).1;let⟨_,u,p,C⟩:=l.2 i c z;have:vs.getD i xy=u:=by
   have G:vs[i]?=J u:=by simpa[Value.cells]using p
   simp[G]
  grind
 cases n with
 |zero=>cases j
 |succ n=>
  unfold Sb at j;unfold Xp at g;split at j;rename_i f;rw[f]at g;obtain⟨b,rfl⟩:=g;obtain⟨c,rfl⟩:=okWide_bool f a;exact o rfl rfl rfl;rename_i k f;rw[f]at g;obtain⟨b,rfl,_⟩:=g;obtain⟨c,rfl⟩:=okWide_int f a;exact o rfl rfl rfl;rename_i f;rw[f]at g;obtain⟨b,rfl,_⟩:=g;obtain⟨c,rfl⟩:=okWide_string f a;exact o rfl rfl rfl;rename_i e f;rw[f]at g;obtain⟨b,rfl,_⟩:=g;obtain⟨c,_,_,rfl⟩:=okWide_slice f a;exact o rfl rfl rfl;rename_i H f;rw[f]at g;simp[Value.okWide]at a;grind;rename_i m e f;rw[f]at g;simp[Value.okWide]at a;grind;cases j
def OH{n r F}:∀ {ts} {vs:Zp} {l:List (DataW H)} {z:List MemPlace},DataW.TrodAll enc P w 0 spare held ts vs l z->(∀t∈ts,Sb P n t=xk)->
  (∀(j:Nat) t v,ts[j]?=J t->vs[j]?=J v->Value.okWide P w r F t v)->
  ∃k:Zr,I k=I vs/\I vs=I ts/\I l=I ts/\(∀(i:Nat) t x,ts[i]?=J t->k[i]?=J x->Xp P n t x)/\∀(i:Nat) x v,k[i]?=J x->vs[i]?=J v->Rd w (λb=>b<xz (xj w)) x v
 | [],vs,l,z,h,_,_=>by
   obtain⟨rfl,rfl,rfl⟩:=trodAll_nil h;simp
 |t::ts,vs,l,z,h,D,a=>by
  obtain⟨v,S,d,G,p,q,rfl,rfl,rfl,K,L⟩:=trodAll_cons h;let⟨x,u,y⟩:=Z8X (D t Z1) (a 0 t v rfl rfl) K;let⟨k,M,N,R,O,Q⟩:=OH L (λt g=>D t<|by simp[g]) λj A B g o=>a (j+1) A B Zgc Zgc;refine⟨x::k,by simp[M],by simp[N],by simp[R],λi A C g f=> ?_,λi C B f o=> ?_⟩;cases i with
  |zero=>simp at g f;subst g f;exact u
  |succ i=>exact O i A C Zgc Zgs
  cases i with
  |zero=>simp at o f;subst o f;exact y
  |succ i=>exact Q i C B Zgs Zgc
def FI{W g}(l:laidOutB P=xk)(j:Below (xz<|xj W) W g):∀ {ts} {vs:Zp} {f:List (DataW H)} {a:List MemPlace},DataW.TrodAll enc P W 0 (λ_=>xk) xk ts vs f a->
  (∀t∈ts,P.readableRec t=xk/\t<P.types.size)->(∀x∈a,x.block<xz (xj W))->DataW.TrodAll enc P g 0 (λb=>decide (b<xz (xj W))) xk ts vs f a
 | [],vs,f,a,h,_,_=>by
   obtain⟨rfl,rfl,rfl⟩:=trodAll_nil h;rfl
 |t::ts,vs,f,a,h,k,u=>by
  obtain⟨v,y,d,n,p,q,rfl,rfl,rfl,o,r⟩:=trodAll_cons h;exact trodAll_cons_mk (Below.trod l (k t Z1).1 (k t Z1).2 o j λx w=>Zgd) (FI l j r Zgd λx w=>Zgd)
end
def Z5M{P} [Lg P]{f fn}{s:ChangeSpec}{tb}n(S:laidOutB P=xk)(C:(fn.params.toList.all λt=>Sb P n t)=xk)(k:(fn.params.toList.all λt=>P.readableRec t&&decide (t<P.types.size))=xk)
  (a:s.vars=[]) (u:fn.resultTypes=#[tb]) (O:P.underlying tb=J .bool)
  (h:∀H ds,I ds=I fn.params.toList->s.fn H ds= {results:=[.lit<|.bool xk],args:=ds})
  (o:∀y,I y=I fn.params.toList->(∀(i:Nat) t x,fn.params.toList[i]?=J t->y[i]?=J x->Xp P n t x)->VC P f xw y (.bool xk))
  H enc W base args (ds gs:List<|DataW H) d
  (w:∀(j:Nat) t v,fn.params[j]?=J t->args[j]?=J v->Value.okWide P W .any base t v)
  (A:DataW.Whole enc P fn.params.toList s.vars xw W args.toList ds gs d):
  Lg.ln P f args W λe G=>∃v,e=.returned v/\s.post enc P fn xw xk xw xw W args v G:=by
 have r:=λx z=>by simpa using A.lt x z
 have l:=A;obtain⟨p,q,K,L,rfl,_,_⟩:=A;rw[a]at L;obtain⟨rfl,rfl⟩:=trodVars_none L;rw[ZiE]at r l;let⟨y,N,T,q5,X,Y⟩:=OH (n:=n) K (Zhn.1 C) λj t v M Z=>w j t v Zgc Zgc;let⟨_,F⟩:=o y (by rw[N,T]) X;refine Lg.dy (F W (λb=>b<xz (xj W)) args Z0 Zgc λi x z=> ?_) λe G Q=> ?_;have R:i<I args.toList:=by rw[<-N];exact(Zh9.1 z).1
 have:args.getD i xy=args.toList[i]:=by
  have B:i<args.size:=by simpa using R
  simp[Zhd,B]
 rw[this];exact Y i x _ z Z1;obtain⟨v,rfl,g,D⟩:=Q;cases D;refine⟨_,rfl,ds,[],p,[],p,[],l,?_,?_,?_,g.frame _,Z1⟩;rw[h H _ Zgc,u];exact trodAll_mk1<|shut_bool O xk;rw[h H _ Zgc,ZiE];exact FI S g K (λt M=>by simpa using Zhn.1 k t M) r;rw[a,h H _ Zgc];rfl
def ID{α:Type}{enc}{Q:α->Prop}:∀ {l:Zr},(∀y∈l,∃a,y=enc a/\Q a)->∃d:List α,l=d.map enc/\∀a∈d,Q a
 | [],_=>Z1
 |y::l,h=>by
  obtain⟨a,rfl,g⟩:=h y Z1;obtain⟨d,rfl,j⟩:=ID (l:=l) λz f=>h z<|ZhK _ f;exact⟨a::d,rfl,Zgd⟩
def t8{P n t x k}(d:P.underlying t=J (.int k))(h:Xp P (n+1) t x):∃m,x=.int k m/\k.min<=m/\m<=k.max:=by
 unfold Xp at h;rw[d]at h;obtain⟨m,rfl,a⟩:=h;simp[Lit.wf,ZhG]at a;exact⟨m,rfl,a⟩
def DW{P n t e x}{α:Type}{enc}{Q:α->Prop}(g:P.underlying t=J (.slice e))(h:Xp P (n+1) t x)(f:∀y,Xp P n e y->∃a,y=enc a/\Q a):∃l:List α,x=.sl (l.map enc)/\I l<=maxLen/\∀a∈l,Q a:=by
 unfold Xp at h;rw[g]at h;obtain⟨l,rfl,k,d⟩:=h;obtain⟨p,rfl,o⟩:=ID λy j=>f y<|d y j;grind
def t9{P n t x fs}(d:P.underlying t=J (.struct fs))(h:Xp P (n+1) t x):∃a,x=.agg (flat a)/\I a=I fs.toList/\∀(i:Nat) f y,fs.toList[i]?=J f->a[i]?=J y->Xp P n f.type y:=by
 simp_all[Xp]
end
end Vm
end
section
namespace Vm
open Go Go.Proofs
section
def VW(s:St):List (Nat×SV)->St
 | []=>s
 |(i,x)::l=>VW (YH s i x) l
@[simp]theorem Zfj(s:St):VW s []=s:=rfl
@[simp]theorem Zfi(s:St)(i:Nat)(x:SV)(l:List<|Nat×SV):VW s ((i,x)::l)=VW (YH s i x) l:=rfl
section
variable {P:Z5}[Lg P]{K K':St->Prop}
def Z0n(d:∀s,K s->K' s){t:St}:∀ {l:List (Nat×OV)} {u:St},U3 l t u K->U3 l t u K'
 | [],_,h=>d _ h
 | (i,o)::l,u,h=>by
   simp only[U3]at h⊢;split;rename_i x a;rw[a]at h;exact Z0n d h;rename_i a;rw[a]at h;exact h
def Ry(g:∀s,K s->K' s):∀ {l:List EF} {s:St},YR P l s K->YR P l s K'
 | [],_,h=>g _ h
 | .lt i C e::l,s,h=>by
   simp only[YR]at h⊢;split;rename_i a;rw[Zhi a]at h;split;rename_i x d;rw[d]at h;exact Ry g h;rename_i d;rw[d]at h;exact h;rename_i a;rw[Zhg a]at h;exact Ry g h
 | .call i C f u fl t::l,s,h=>by
   simp only[YR]at h⊢;split;rename_i a;rw[Zhi a]at h;split;rename_i x n d k;rw[d,k]at h;obtain⟨r,j,o,p⟩:=h;exact⟨r,j,o,Ry g p⟩;rename_i q;split at h;rename_i x n d k;exact(q x n d k).elim;exact h;rename_i a;rw[Zhg a]at h;exact Ry g h
 | .ct i C f w t::l,s,h=>by
   simp only[YR]at h⊢;split;rename_i a;rw[Zhi a]at h;split;rename_i x n d k;rw[d,k]at h;obtain⟨r,j,p⟩:=h;exact⟨r,j,Ry g p⟩;rename_i d;split at h;rename_i x n j o;exact(d x n j o).elim;exact h;rename_i a;rw[Zhg a]at h;split at h;exact Ry g h;exact Ry g h;exact h.elim
def Rz:∀ {a:Stm} {s:St} {N p R q:St->Prop} {X u:Nat->St->Prop},Yw P a s N X R->(∀s,N s->p s)->(∀i s,X i s->u i s)->(∀s,R s->q s)->Yw P a s p u q
 |.au r,s,_,_,_,_,_,_,h,d,_,_=>Ry (λt j=>⟨j.1,Z0n d j.2⟩) h
 |.skip,s,_,_,_,_,_,_,h,d,_,_=>d _ h
 |.seq a b,s,_,_,_,_,_,_,h,d,g,f=>Rz (a:=a) (s:=s) h (λt j=>Rz (a:=b) (s:=t) j d g f) g f
 | .cond c a b,s,_,_,_,_,_,_,h,d,g,f=>by
   simp only[Yw]at h⊢;split;rename_i k;rw[k]at h;exact Rz h d g f;rename_i k;rw[k]at h;exact Rz h d g f;rename_i l n;split at h;rename_i k;exact(l k).elim;rename_i k;exact(n k).elim;exact h
 | .block id a,s,_,_,_,_,_,_,h,d,g,f=>Rz (a:=a) (s:=s) h d (λi t j=>by
   split;rename_i o;rw[Zhi o]at j;exact d _ j;rename_i o;rw[Zhg o]at j;exact g _ _ j) f
 | .loop w a,s,_,_,_,_,_,_,h,d,g,f=>by
   obtain⟨I,m,l,n⟩:=h;exact⟨I,m,l,λt j=>Rz (a:=a) (s:=t) (n t j) (λ_ h=>h) g f⟩
 |.exit id,s,_,_,_,_,_,_,h,_,g,_=>g _ _ h
 |.ret,s,_,_,_,_,_,_,h,_,_,f=>f _ h
end
def Sy{P:Z5} [Lg P]{keep:Zb}{a:Stm}{s:St}{N R:St->Prop}{X:Nat->St->Prop}{ι:Type}(L:ι->List (Nat×SV))(Inv:ι->Prop)(m:St->Nat)(d:ι)
  (g:X2 keep s=VW (X2 keep s) (L d)) (k:Inv d)
  (j:∀p,Inv p->Yw P a (VW (X2 keep s)<|L p) (λf=>∃q,Inv q/\X2 keep f=VW (X2 keep s) (L q)/\m (VW (X2 keep s)<|L q)<m (VW (X2 keep s)<|L p)) X R):
  Yw P (.loop keep a) s N X R:=by
 refine⟨λt=>∃p,Inv p/\t=VW (X2 keep s) (L p),m,⟨d,k,g⟩,?_⟩;rintro t ⟨p,o,rfl⟩;refine Rz (j p o) (λf u=> ?_) (λ_ _ h=>h) (λ_ h=>h);obtain⟨q,r,l,n⟩:=u;rw[l];exact⟨⟨q,r,rfl⟩,n⟩
def Xk(c:Nat)(n:Nat)(t:St):Nat:=match get t c with|.v (.int _ k)=>n-k.toNat|_=>0
def VF{P:Z5} [Lg P]{keep:Zb}{a:Stm}{s:St}{N R:St->Prop}{X:Nat->St->Prop}(c n:Nat)(L:Nat->List (Nat×SV))(Inv:Z4)
  (g:X2 keep s=VW (X2 keep s) (L 0)) (hc:∀i,get (VW (X2 keep s)<|L i) c=.v (vi i)) (k:Inv 0)
  (j:∀i,i<=n->Inv i->Yw P a (VW (X2 keep s)<|L i) (λf=>i<n/\Inv (i+1)/\X2 keep f=VW (X2 keep s) (L<|i+1)) X R):
  Yw P (.loop keep a) s N X R:=by
 refine Sy L (λi=>i<=n/\Inv i) (Xk c n) 0 g ⟨Z0,k⟩ ?_;rintro i ⟨o,q⟩;refine Rz (j i o q) (λf p=> ?_) (λ_ _ h=>h) (λ_ h=>h);obtain⟨h,d,l⟩:=p;refine⟨i+1,⟨Z0,d⟩,l,?_⟩;simp only[Xk,hc];simp;omega
def zq{P:Z5} [Lg P]{keep:Zb}{a:Stm}{s:St}{N R:St->Prop}{X:Nat->St->Prop}(c n:Nat)(Inv:Z4)
  (d:X2 keep s=YH (X2 keep s) c (.v<|vi 0)) (hc:∀x,get (YH (X2 keep s) c x) c=x) (g:Inv 0)
  (f:∀i,i<=n->Inv i->Yw P a (YH (X2 keep s) c<|.v<|vi i) (λh=>i<n/\Inv (i+1)/\X2 keep h=YH (X2 keep s) c (.v<|vi<|i+1)) X R):
  Yw P (.loop keep a) s N X R:=
 VF c n (λi=>[(c,.v<|vi i)]) Inv d (λi=>hc _) g f
end
def Lu:Fn:=⟨5,[0,2,3,5,12],pQ [pR [pV 1<|pU 0,pV 2<|pI 0],pi 3 (pe (.s 0)<|pU 0)<|px [pV 1<|pU 0,pV 2<|pI 6],pQ [.au ⟨[.lt 5 []<|pe (.ce .rem (.s 0)<|pU 2)<|pU 0],[([(5,xw)],pe (.s 0)<|pU 1)],[pV 4<|.ite (.s 5) pT<|pe (.s 0)<|pU 1]⟩]<|pw (.s 4)<|px [pV 1<|pU 0,pV 2<|pI 3]]<|px [pV 1<|.ce .quo (.s 0)<|pU 2,pV 2<|pI 0],[(1,.v),(2,.v)]⟩
def c24:xQ [.fz] Tryz.f24=J Lu:=Z2
def qJ:Fn:=⟨4,[0,2,3,9],pQ [pR [pV 1<|pU 0,pV 2<|pI 0],pQ [.au ⟨[.lt 4 []<|pl (.s 0)<|pU 1],[([(4,xw)],pj (.s 0)<|pU 9223372036854775807)],[pV 3<|.ite (.s 4) pT<|pj (.s 0)<|pU 9223372036854775807]⟩]<|pw (.s 3)<|px [pV 1<|pU 0,pV 2<|pI 1]]<|px [pV 1<|pa (pm (pU 2)<|.s 0)<|pU 1,pV 2<|pI 0],[(1,.v),(2,.v)]⟩
def c36:xQ [.fz] Tryz.f36=J qJ:=Z2
def Nz:Fn:=⟨6,[0,1,2,3,4,8],pQ [pR [(1,pS 0 2),pV 2<|pU 0,pV 3<|pI 0],pC [pK 6 75 [.mm 1 0 2]] [pV 4<|.s 6],pi 5 (.un .not<|.s 4)<|px [pV 2<|pU 0,pV 3<|pI 1]]<|px [pV 2<|pm (pU 2)<|pa (.conv .u64<|.m 1 0)<|pm (pU 65536)<|.conv .u64<|.m 1 1,pV 3<|pI 0],[(2,.v),(3,.v)]⟩
def c54:xQ [.fz] Tryz.f54=J Nz:=Z2
def qN:Fn:=⟨4,[0,2,3,9],pQ [pR [pV 1<|pU 0,pV 2<|pI 0],pQ [.au ⟨[.lt 4 []<|pl (.s 0)<|pU 1],[([(4,xw)],pj (.s 0)<|pU 9223372036854775807)],[pV 3<|.ite (.s 4) pT<|pj (.s 0)<|pU 9223372036854775807]⟩]<|pw (.s 3)<|px [pV 1<|pU 0,pV 2<|pI 1]]<|px [pV 1<|pa (pm (pU 2)<|.s 0)<|pU 1,pV 2<|pI 0],[(1,.v),(2,.v)]⟩
def c58:xQ [.fz] Tryz.f58=J qN:=Z2
def NK:Fn:=⟨3,[0,1,2],pQ [pR [(1,pS 0 2),pV 2 pF],.au ⟨[.lt 3 []<|pg (.m 1 0)<|pI 0,.lt 4 []<|.ite (.s 3) (pL (.m 1 0)<|pI 255) pF,.lt 5 []<|.ite (.s 4) (pg (.m 1 1)<|pI 0) pF],[([(3,xk)],pL (.m 1 0)<|pI 255),([(4,xk)],pg (.m 1 1)<|pI 0),([(5,xk)],pL (.m 1 1)<|.m 1 0)],[pV 2<|.ite (.s 5) (pL (.m 1 1)<|.m 1 0) pF]⟩] .ret,[(2,.v)]⟩
def c75:xQ [.fz] Tryz.f75=J NK:=Z2
def NN:Fn:=⟨5,[0,2,3,4,20],pQ [pR [(1,.m [pI 0,pI 0]),pV 2<|pI 0],pR [(3,pM (.ag [.conv .i64<|.ce .rem (.ce .shr (.s 0)<|pU 1)<|pU 65536,.conv .i64<|.ce .shr (.s 0)<|pU 17]) 2)],pQ [.au ⟨[.lt 5 []<|pn (.ce .rem (.s 0)<|pU 2)<|pU 0,.call 6 [(5,xw)] (.id 96) xw xw [.mm 3 0 2]],[([(5,xw)],.un .not<|.s 6)],[pV 4<|.ite (.s 5) pT<|.un .not<|.s 6]⟩]<|pw (.s 4)<|px [(1,pM (.ag [pI 0,pI 0]) 2),pV 2<|pI 3]]<|px [(1,pM (.mm 3 0 2) 2),pV 2<|pI 0],[(1,(.ag 2)),(2,.v)]⟩
def c81:xQ [.fz] Tryz.f81=J NN:=Z2
def NV:Fn:=⟨3,[0,1,2],pQ [pR [(1,pS 0 2),pV 2 pF],.au ⟨[.lt 3 []<|pg (.m 1 0)<|pI 0,.lt 4 []<|.ite (.s 3) (pL (.m 1 0)<|pI 255) pF,.lt 5 []<|.ite (.s 4) (pg (.m 1 1)<|pI 0) pF],[([(3,xk)],pL (.m 1 0)<|pI 255),([(4,xk)],pg (.m 1 1)<|pI 0),([(5,xk)],pL (.m 1 1)<|.m 1 0)],[pV 2<|.ite (.s 5) (pL (.m 1 1)<|.m 1 0) pF]⟩] .ret,[(2,.v)]⟩
def c96:xQ [.fz] Tryz.f96=J NV:=Z2
def Y7(n:Int):Prop:= -9223372036854775808<=n/\n<=9223372036854775807
def ZB(n:Int):Prop:=0<=n/\n<18446744073709551616
def ZP(n:Int)(a:0<=n)(h2:n<=18446744073709551615):IntKind.u64.wrap n=n:=by
 rw[IntKind.wrap_u64];omega
def Yp{α:Type}{l:List α}{i:Nat}{x:α}(h:l[i]?=J x):∀a:i<I l,l[i]'a=x:=λa=>by
 rw[Zh8 a]at h;exact ZiJ h
def YE(size ptrs:Int):Bool:=decide (0<=size)&&decide (size<=255)&&decide (0<=ptrs)&&decide (ptrs<=size)
theorem YN{s p:Int}:YE s p=xk↔0<=s/\s<=255/\0<=p/\p<=s:=by simp[YE,and_assoc]
abbrev JM(s p:Int):V:=.agg [vi s,vi p]
def OX{s p:Int}:VC xP 96 xw [JM s p]<|.bool<|YE s p:=by
 refine ZT Fd follows Z2 c96 rfl ?_;by_cases a:0<=s<;>by_cases d:s<=255<;>by_cases f:0<=p<;>by_cases g:p<=s<;>simp[NV,YE,a,d,f,g]
def Z97{s p:Int}:VC xP 75 xw [JM s p]<|.bool<|YE s p:=by
 refine ZT Z21 follows Z2 c75 rfl ?_;by_cases a:0<=s<;>by_cases d:s<=255<;>by_cases f:0<=p<;>by_cases g:p<=s<;>simp[NK,YE,a,d,f,g]
def adr(w:Int):Int×Int:=if w=0 then(0,6)else if w%2=0\/w=1 then(0,3)else(w / 2,0)
def QO{w:Int}(l:ZB w):VC xP 24 xw [vu w]<|.aq [vu (adr w).1,vi (adr w).2]:=by
 refine ZT EZ follows Z2 c24 rfl ?_;obtain⟨f,n⟩:=l;have d:w.tmod 2=w%2:=Zia f;have j:w.tdiv 2=w / 2:=ZkD f;have k:=ZP (w / 2) Z0 Z0;by_cases a:w=0;simp[Lu,adr,a];by_cases g:w%2=0;simp[Lu,adr,a,d,g];by_cases h:w=1;subst h;simp[Lu,adr];simp[Lu,adr,a,d,j,g,h,k]
def Xz(a:Int):Int×Int:=if a<1\/9223372036854775807<a then(0,1)else(2*a+1,0)
def Oi{a:Int}(j:ZB a):VC xP 36 xw [vu a]<|.aq [vu (Xz a).1,vi (Xz a).2]:=by
 refine ZT F3 follows Z2 c36 rfl ?_;obtain⟨k,l⟩:=j;by_cases d:a<1;simp[qJ,Xz,d];by_cases f:9223372036854775807<a;simp[qJ,Xz,d,f];have g:=ZP (2*a) Z0 Z0;have h:=ZP (2*a+1) Z0 Z0;simp[qJ,Xz,d,f,g,h]
def Z95{a:Int}(j:ZB a):VC xP 58 xw [vu a]<|.aq [vu (Xz a).1,vi (Xz a).2]:=by
 refine ZT Z1N follows Z2 c58 rfl ?_;obtain⟨k,l⟩:=j;by_cases d:a<1;simp[qN,Xz,d];by_cases f:9223372036854775807<a;simp[qN,Xz,d,f];have g:=ZP (2*a) Z0 Z0;have h:=ZP (2*a+1) Z0 Z0;simp[qN,Xz,d,f,g,h]
def UD(s p:Int):Int×Int:=if YE s p then(2*(s+65536*p),0)else(0,1)
def Z94{s p:Int}:VC xP 54 xw [JM s p]<|.aq [vu (UD s p).1,vi (UD s p).2]:=by
 refine ZT Z1J follows Z2 c54 rfl ?_;simp[Nz];refine Zz Z97 Z1 ?_;cases h:YE s p;simp[UD,h];obtain⟨k,l,n,o⟩:=YN.1 h;have a:=ZP s Z0 Z0;have d:=ZP p Z0 Z0;have f:=ZP (65536*p) Z0 Z0;have g:=ZP (s+65536*p) Z0 Z0;have j:=ZP (2*(s+65536*p)) Z0 Z0;simp[UD,h,a,d,f,g,j]
def ZS(w:Int):Int×Int×Int:=if w%2=0/\YE (w / 2%65536) (w / 131072)=xk then(w / 2%65536,w / 131072,0)else(0,0,3)
def Z00{w:Int}(l:ZB w):VC xP 81 xw [vu w]<|.aq [JM (ZS w).1 (ZS w).2.1,vi (ZS w).2.2]:=by
 refine ZT F9 follows Z2 c81 rfl ?_;obtain⟨k,r⟩:=l;have p:w.fdiv (2 ^ min 1 IntKind.u64.bits)=w / 2:=by
  rw[show(2:Int) ^ min 1 IntKind.u64.bits=2 by decide];exact ZkC _ Z0
 have q:w.fdiv (2 ^ min 17 IntKind.u64.bits)=w / 131072:=by
  rw[show(2:Int) ^ min 17 IntKind.u64.bits=131072 by decide];exact ZkC _ Z0
 have n:=ZP (w / 2) Z0 Z0;have o:=ZP (w / 131072) Z0 Z0;have f:w.tmod 2=w%2:=Zia k;have g:(w / 2).tmod 65536=w / 2%65536:=Zia Z0;have h:=ZA (w / 2%65536) Z0 Z0;have j:=ZA (w / 131072) Z0 Z0;simp[NN,Xi,p,q,f,g,h,j,n,o];by_cases a:w%2=0;simp[a];refine Zz OX Z1 ?_;cases d:YE (w / 2%65536)<|w / 131072;simp[ZS,a,d];simp[ZS,a,d];simp[a,ZS]
def No:Fn:=⟨4,[0,1,2,25],pQ [pR [(1,pS 0 7),pV 2 pF],pQ [.au ⟨[.lt 4 []<|pl (.m 1 1)<|pI 0,.lt 5 []<|.ite (.s 4) pT<|pj (.m 1 1)<|pI 4096,.lt 6 []<|.ite (.s 5) pT<|pl (.m 1 0)<|pU 1],[([(4,xw)],pj (.m 1 1)<|pI 4096),([(5,xw)],pl (.m 1 0)<|pU 1),([(6,xw)],pj (.m 1 0)<|pb (pU 9223372036854775808)<|pm (pU 2)<|.conv .u64<|.m 1 1)],[pV 3<|.ite (.s 6) pT<|pj (.m 1 0)<|pb (pU 9223372036854775808)<|pm (pU 2)<|.conv .u64<|.m 1 1]⟩]<|pw (.s 3)<|px [pV 2 pF],.au ⟨[.lt 7 []<|pe (.m 1 2)<|pI 0,.lt 8 []<|.ite (.s 7) pT<|pe (.m 1 2)<|pI 1,.call 9 [(8,xk)] (.id 51) xw xw [.m 1 3,.m 1 4,.m 1 1],.lt 10 []<|.ite (.s 8) (.s 9) pF,.call 11 [(10,xk)] (.id 51) xw xw [.m 1 5,.m 1 6,.m 1 1]],[([(7,xw)],pe (.m 1 2)<|pI 1)],[pV 2<|.ite (.s 10) (.s 11) pF]⟩] .ret,[(2,.v)]⟩
def c33:xQ [.fz] Tryz.f33=J No:=Z2
def Np:Fn:=⟨12,[0,1,2,4,5,10,14,15,7,6,13,31],pQ [pR [(2,pS 0 7),(3,.m [pI 0,pI 0]),pV 4<|pI 0],pQ [pC [pK 12 33 [.mm 2 0 7]] [pV 5<|.un .not<|.s 12]]<|pw (.s 5)<|px [(3,pM (.ag [pI 0,pI 0]) 2),pV 4<|pI 1],pQ [pC [pK 10 52 [.mm 2 0 7]] [pV 6<|pI 0]]<|po [0,1,2,3,4,5,6,10] 7 (pl (.s 6)<|pI 4) (pQ [pR [(8,pM (.sz (.ai (.s 10) (.s 6) 4 2 xk) 2) 2),pV 9<|.s 6],.au ⟨[.lt 13 []<|pg (.s 1)<|.m 8 0],[([(13,xk)],pl (pb (.s 1)<|.m 8 0)<|.conv .u64<|.m 8 1)],[pV 11<|.ite (.s 13) (pl (pb (.s 1)<|.m 8 0)<|.conv .u64<|.m 8 1) pF]⟩]<|pw (.s 11)<|px [(3,pM (.ag [pa (.s 9)<|pI 1,.conv .i64<|pb (.s 1)<|.m 8 0]) 2),pV 4<|pI 0])<|pc 6]<|px [(3,pM (.ag [pI 0,pI 0]) 2),pV 4<|pI 6],[(3,(.ag 2)),(4,.v)]⟩
def c34:xQ [.fz,.fz] Tryz.f34=J Np:=Z2
def Nq:Fn:=⟨10,[0,1,2,3,4,5,9,17,6,33],pQ [pR [(2,pS 0 7),(3,pS 1 2),pV 4<|pU 0,pV 5<|pI 0],pQ [pC [pK 10 33 [.mm 2 0 7]] [pV 6<|.un .not<|.s 10]]<|pw (.s 6)<|px [pV 4<|pU 0,pV 5<|pI 1],pQ [.au ⟨[.lt 11 []<|pl (.m 3 0)<|pI 1],[([(11,xw)],pj (.m 3 0)<|pI 4)],[pV 7<|.ite (.s 11) pT<|pj (.m 3 0)<|pI 4]⟩]<|pw (.s 7)<|px [pV 4<|pU 0,pV 5<|pI 6],pC [pK 12 52 [.mm 2 0 7]] [(8,pM (.sz (.ai (.s 12) (pb (.m 3 0)<|pI 1) 4 2 xk) 2) 2)],pQ [.au ⟨[.lt 13 []<|pl (.m 3 1)<|pI 0],[([(13,xw)],pg (.m 3 1)<|.m 8 1)],[pV 9<|.ite (.s 13) pT<|pg (.m 3 1)<|.m 8 1]⟩]<|pw (.s 9)<|px [pV 4<|pU 0,pV 5<|pI 6]]<|px [pV 4<|pa (.m 8 0)<|.conv .u64<|.m 3 1,pV 5<|pI 0],[(4,.v),(5,.v)]⟩
def c35:xQ [.fz,.fz] Tryz.f35=J Nq:=Z2
def qM:Fn:=⟨4,[0,1,2,6],pQ [pR [pV 3 pF],.au ⟨[.lt 4 []<|pg (.s 0)<|pI 0,.lt 5 []<|.ite (.s 4) (pg (.s 1)<|pI 0) pF,.lt 6 []<|.ite (.s 5) (pL (.s 0)<|.s 2) pF],[([(4,xk)],pg (.s 1)<|pI 0),([(5,xk)],pL (.s 0)<|.s 2),([(6,xk)],pL (.s 1)<|pb (.s 2)<|.s 0)],[pV 3<|.ite (.s 6) (pL (.s 1)<|pb (.s 2)<|.s 0) pF]⟩] .ret,[(3,.v)]⟩
def c51:xQ [.fz,.fz,.fz] Tryz.f51=J qM:=Z2
def Ny:Fn:=⟨3,[0,1,2],pQ [pR [(1,pS 0 7),(2,.m [pU 0,pI 0,pU 0,pI 0,pU 0,pI 0,pU 0,pI 0])],pC [pK 3 74 [.mm 1 0 7,pI 1],pK 4 74 [.mm 1 0 7,pI 2],pK 5 74 [.mm 1 0 7,pI 3],pK 6 74 [.mm 1 0 7,pI 4]] [(2,pM (.ag [.ac (.ag [.one<|.s 3,.m 1 3]) 0,.ac (.ag [.one<|.s 3,.m 1 3]) 1,.ac (.ag [.one<|.s 4,.m 1 4]) 0,.ac (.ag [.one<|.s 4,.m 1 4]) 1,.ac (.ag [.one<|.s 5,.m 1 5]) 0,.ac (.ag [.one<|.s 5,.m 1 5]) 1,.ac (.ag [.one<|.s 6,.m 1 6]) 0,.ac (.ag [.one<|.s 6,.m 1 6]) 1]) 8)]] .ret,[(2,(.ag 8))]⟩
def c52:xQ [.fz] Tryz.f52=J Ny:=Z2
def NA:Fn:=⟨11,[0,1,2,3,4,5,6,12,7,8,28],pQ [pR [(2,pS 0 7),(3,pS 1 2),pV 4<|pU 0,pV 5<|pI 0],pC [pK 11 76 [.mm 2 0 7]] [pV 6<|.s 11],pi 7 (.un .not<|.s 6)<|px [pV 4<|pU 0,pV 5<|pI 1],pC [pK 12 77 [.mm 2 0 7,.m 3 0]] [pV 8<|.ext (.s 12) 0,pV 9<|.ext (.s 12) 1],pQ [.au ⟨[.lt 13 []<|pl (.m 3 1)<|pI 0],[([(13,xw)],pg (.m 3 1)<|.s 9)],[pV 10<|.ite (.s 13) pT<|pg (.m 3 1)<|.s 9]⟩]<|pw (.s 10)<|px [pV 4<|pU 0,pV 5<|pI 6]]<|px [pV 4<|pa (.s 8)<|.conv .u64<|.m 3 1,pV 5<|pI 0],[(4,.v),(5,.v)]⟩
def c56:xQ [.fz,.fz] Tryz.f56=J NA:=Z2
def Lx:Fn:=⟨10,[0,1,2,4,5,9,8,11,13,15],pQ [pR [(2,pS 0 7),pV 3<|pU 0],pR [pV 4<|.m 2 0],pQ [pR [pV 6<|.s 1]]<|.block 0<|pQ [.block 4<|pQ [.block 3<|pQ [.block 2<|pQ [.block 1<|pQ [pQ [pi 5 (pe (.s 6)<|pI 2)<|.exit 1,pi 7 (pe (.s 6)<|pI 1)<|.exit 2,pi 8 (pe (.s 6)<|pI 4)<|.exit 3]<|pi 9 (pe (.s 6)<|pI 3)<|.exit 4]<|.exit 0]<|pR [pV 4<|pa (.s 4)<|.conv .u64<|pb (.m 2 1)<|.m 2 4],pR [pV 4<|pa (.s 4)<|.conv .u64<|pm (.m 2 2)<|.m 2 1]]<|.exit 0]<|pR [pV 4<|pa (.s 4)<|.conv .u64<|pb (.m 2 1)<|.m 2 6],pR [pV 4<|pa (.s 4)<|.conv .u64<|pm (pb (pI 1)<|.m 2 2)<|.m 2 1]]<|.exit 0]<|px [pV 3<|.s 4],[(3,.v)]⟩
def c74:xQ [.fz,.fz] Tryz.f74=J Lx:=Z2
def NL:Fn:=⟨5,[0,1,2,35,53],pQ [pR [(1,pS 0 7),pV 2 pF],pQ [.au ⟨[.lt 5 []<|pl (.m 1 0)<|pU 1,.lt 6 []<|.ite (.s 5) pT<|pl (.m 1 1)<|pI 0,.lt 7 []<|.ite (.s 6) pT<|pj (.m 1 1)<|pI 4096,.lt 8 []<|.ite (.s 7) pT<|pj (.m 1 0)<|pb (pU 9223372036854775808)<|pm (pU 2)<|.conv .u64<|.m 1 1,.lt 9 []<|.ite (.s 8) pT<|pl (.m 1 2)<|pI 0],[([(5,xw)],pl (.m 1 1)<|pI 0),([(6,xw)],pj (.m 1 1)<|pI 4096),([(7,xw)],pj (.m 1 0)<|pb (pU 9223372036854775808)<|pm (pU 2)<|.conv .u64<|.m 1 1),([(8,xw)],pl (.m 1 2)<|pI 0),([(9,xw)],pj (.m 1 2)<|pI 1)],[pV 3<|.ite (.s 9) pT<|pj (.m 1 2)<|pI 1]⟩]<|pw (.s 3)<|px [pV 2 pF],pQ [.au ⟨[.lt 10 []<|pl (.m 1 3)<|pI 0,.lt 11 []<|.ite (.s 10) pT<|pl (.m 1 4)<|pI 0,.lt 12 []<|.ite (.s 11) pT<|pl (.m 1 5)<|pI 0],[([(10,xw)],pl (.m 1 4)<|pI 0),([(11,xw)],pl (.m 1 5)<|pI 0),([(12,xw)],pl (.m 1 6)<|pI 0)],[pV 4<|.ite (.s 12) pT<|pl (.m 1 6)<|pI 0]⟩]<|pw (.s 4)<|px [pV 2 pF],.au ⟨[.lt 13 []<|pL (.m 1 3)<|.m 1 1,.lt 14 []<|.ite (.s 13) (pL (.m 1 4)<|pb (.m 1 1)<|.m 1 3) pF,.lt 15 []<|.ite (.s 14) (pL (.m 1 5)<|.m 1 1) pF],[([(13,xk)],pL (.m 1 4)<|pb (.m 1 1)<|.m 1 3),([(14,xk)],pL (.m 1 5)<|.m 1 1),([(15,xk)],pL (.m 1 6)<|pb (.m 1 1)<|.m 1 5)],[pV 2<|.ite (.s 15) (pL (.m 1 6)<|pb (.m 1 1)<|.m 1 5) pF]⟩] .ret,[(2,.v)]⟩
def c76:xQ [.fz] Tryz.f76=J NL:=Z2
def Ct:Fn:=⟨12,[0,1,2,4,5,6,7,28,27,33,45,50],pQ [pR [(2,pS 0 7),pV 3<|pU 0,pV 4<|pI 0],pR [pV 5<|pa (.m 2 0)<|.conv .u64<|pm (.m 2 2)<|.m 2 1],pR [pV 6<|pa (.m 2 0)<|.conv .u64<|pm (pb (pI 1)<|.m 2 2)<|.m 2 1],pQ [pR [pV 8<|.s 1]]<|.block 0<|pu 7 (pe (.s 8)<|pI 1) (px [pV 3<|.s 5,pV 4<|.m 2 3])<|pu 9 (pe (.s 8)<|pI 2) (px [pV 3<|pa (.s 5)<|.conv .u64<|pb (.m 2 1)<|.m 2 4,pV 4<|.m 2 4])<|pu 10 (pe (.s 8)<|pI 3) (px [pV 3<|.s 6,pV 4<|.m 2 5])<|pi 11 (pe (.s 8)<|pI 4)<|px [pV 3<|pa (.s 6)<|.conv .u64<|pb (.m 2 1)<|.m 2 6,pV 4<|.m 2 6]]<|px [pV 3<|pU 0,pV 4<|pI 0],[(3,.v),(4,.v)]⟩
def FV:xQ [.fz,.fz] Tryz.f77=J Ct:=Z2
def NO:Fn:=⟨4,[0,1,2,5],pQ [pR [(1,pS 0 7),pV 2<|pI 0],pQ [pC [pK 4 33 [.mm 1 0 7]] [pV 3<|.un .not<|.s 4]]<|pw (.s 3)<|px [pV 2<|pI 0]]<|px [pV 2<|pb (pb (.m 1 1)<|.m 1 3)<|.m 1 4],[(2,.v)]⟩
def c82:xQ [.fz] Tryz.f82=J NO:=Z2
structure Ly where
 base:Int
 cap:Int
 to:Int
 H:Int
 ae:Int
 ah:Int
 aj:Int
 deriving DecidableEq,Inhabited
def YP(l:Ly):V:=.agg [vu l.base,vi l.cap,vi l.to,vi l.H,vi l.ae,vi l.ah,vi l.aj]
@[simp]theorem ZfF l:VD (YP l) 7=J (YP l):=rfl
@[simp]theorem Zew l:(YP l).cells=[vu l.base,vi l.cap,vi l.to,vi l.H,vi l.ae,vi l.ah,vi l.aj]:=rfl
@[simp]theorem ZdB l:Y1 (YP l) 0=J (vu l.base):=rfl
@[simp]theorem ZdC l:Y1 (YP l) 1=J (vi l.cap):=rfl
@[simp]theorem ZdD l:Y1 (YP l) 2=J (vi l.to):=rfl
@[simp]theorem ZdE l:Y1 (YP l) 3=J (vi l.H):=rfl
@[simp]theorem ZdF l:Y1 (YP l) 4=J (vi l.ae):=rfl
@[simp]theorem ZdG l:Y1 (YP l) 5=J (vi l.ah):=rfl
@[simp]theorem ZdH l:Y1 (YP l) 6=J (vi l.aj):=rfl
def Ly.an(l:Ly):Prop:=ZB l.base/\Y7 l.cap/\Y7 l.to/\Y7 l.H/\Y7 l.ae/\Y7 l.ah/\Y7 l.aj
def TP(a b words:Int):Bool:=decide (0<=a)&&decide (0<=b)&&decide (a<=words)&&decide (b<=words-a)
def ZD(l:Ly):Bool:=decide (0<=l.cap)&&decide (l.cap<=4096)&&decide (1<=l.base)&&decide (l.base<=9223372036854775808-2*l.cap)&&(decide (l.to=0)||decide (l.to=1))&&TP l.H l.ae l.cap&&TP l.ah l.aj l.cap
theorem WG{l}:ZD l=xk↔0<=l.cap/\l.cap<=4096/\1<=l.base/\l.base<=9223372036854775808-2*l.cap/\(l.to=0\/l.to=1)/\(0<=l.H/\0<=l.ae/\l.H<=l.cap/\l.ae<=l.cap-l.H)/\(0<=l.ah/\0<=l.aj/\l.ah<=l.cap/\l.aj<=l.cap-l.ah):=by
 simp[ZD,TP,and_assoc]
theorem Vk{l}:ZD l=xw↔ ¬(0<=l.cap/\l.cap<=4096/\1<=l.base/\l.base<=9223372036854775808-2*l.cap/\(l.to=0\/l.to=1)/\(0<=l.H/\0<=l.ae/\l.H<=l.cap/\l.ae<=l.cap-l.H)/\(0<=l.ah/\0<=l.aj/\l.ah<=l.cap/\l.aj<=l.cap-l.ah)):=by
 grind [WG]
def Z0h{a b w:Int}(h:Y7 a)(n:Y7 b)(j:Y7 w):VC xP 51 xw [vi a,vi b,vi w]<|.bool<|TP a b w:=by
 refine ZT Z1G follows Z2 c51 rfl ?_;obtain⟨k,l⟩:=h;obtain⟨w1,w2⟩:=j;by_cases d:0<=a;by_cases g:a<=w;have e:=ZA (w-a) Z0 Z0;by_cases f:0<=b<;>simp[qM,TP,d,g,f,e];by_cases f:0<=b<;>simp[qM,TP,d,g,f];simp[qM,TP,d]
def Qu{l:Ly}(y:l.an):VC xP 33 xw [YP l]<|.bool<|ZD l:=by
 refine ZT F0 follows Z2 c33 rfl ?_;obtain⟨⟨u,w⟩,x,B,p,q,r,t⟩:=y;obtain⟨d,c2⟩:=x;simp[No];by_cases g1:l.cap<0;grind [ZD,Vk];by_cases g2:4096<l.cap;grind [ZD,Vk];by_cases k:l.base<1;grind [ZD,Vk];have f:=ZP l.cap Z0 Z0;have g:=ZP (2*l.cap) Z0 Z0;have j:=ZP (9223372036854775808-2*l.cap) Z0 Z0;by_cases n:9223372036854775808-2*l.cap<l.base;grind [ZD,Vk];by_cases a:l.to=0\/l.to=1
 .have k1:=Z0h p q ⟨d,c2⟩;have A:=Z0h r t ⟨d,c2⟩;have z:ZD l=(TP l.H l.ae l.cap&&TP l.ah l.aj l.cap):=by
   obtain h|h:=a<;>simp[ZD,show 0<=l.cap by omega,show l.cap<=4096 by omega,show 1<=l.base by omega,show l.base<=9223372036854775808-2*l.cap by omega,h]
  rw[z];obtain a|a:=a;all_goals
   cases o:TP l.H l.ae l.cap;rw[o]at k1;simp[g1,g2,k,f,g,j,n,a];refine Zz k1 Z1 ?_;simp;rw[o]at k1;simp[g1,g2,k,f,g,j,n,a];refine Zz k1 Z1 ?_;simp;refine Zz A Z1 ?_;simp
 simp_all[ZD,Vk]
def Z98{l:Ly}(j:l.an):VC xP 76 xw [YP l]<|.bool<|ZD l:=by
 refine ZT Z22 follows Z2 c76 rfl ?_;obtain⟨⟨f,g⟩,h,y,a,w,d,x⟩:=j;obtain⟨k,c2⟩:=h;simp[NL];by_cases q:l.base<1;grind [ZD,Vk];by_cases g1:l.cap<0;grind [ZD,Vk];by_cases g2:4096<l.cap;grind [ZD,Vk];have n:=ZP l.cap Z0 Z0;have o:=ZP (2*l.cap) Z0 Z0;have p:=ZP (9223372036854775808-2*l.cap) Z0 Z0;by_cases r:9223372036854775808-2*l.cap<l.base;grind [ZD,Vk];by_cases t:l.to<0;grind [ZD,Vk];by_cases u:1<l.to;grind [ZD,Vk];by_cases D:l.H<0;grind [ZD,Vk];by_cases F:l.ae<0;grind [ZD,Vk];by_cases G:l.ah<0;grind [ZD,Vk];by_cases H:l.aj<0;grind [ZD,Vk];obtain⟨z,A⟩:=a;obtain⟨B,C⟩:=d;have w1:=ZA (l.cap-l.H) Z0 Z0;have w2:=ZA (l.cap-l.ah) Z0 Z0;grind [ZD,WG,Vk]
def Xt(l:Ly):Int:=if ZD l then l.cap-l.H-l.ae else 0
def Z9r{l:Ly}(a:l.an):VC xP 82 xw [YP l]<|vi<|Xt l:=by
 refine ZT Fa follows Z2 c82 rfl ?_;simp[NO];refine Zz (Qu a) Z1 ?_;cases h:ZD l;simp[Xt,h];have g:=WG.1 h;have d:=ZA (l.cap-l.H) Z0 Z0;have f:=ZA (l.cap-l.H-l.ae) Z0 Z0;simp_all[Xt]
def ZC(l:Ly)(part:Int):Int:=
 if part=1 then l.base+l.to*l.cap else if part=2 then l.base+l.to*l.cap+(l.cap-l.ae)else if part=3 then l.base+(1-l.to)*l.cap else l.base+(1-l.to)*l.cap+(l.cap-l.aj)
def Y5(l:Ly)(part:Int):Int:=if part=1 then l.H else if part=2 then l.ae else if part=3 then l.ah else l.aj
def jN{l}(a:ZD l=xk):(l.to*l.cap=0/\(1-l.to)*l.cap=l.cap)\/(l.to*l.cap=l.cap/\(1-l.to)*l.cap=0):=by
 grind [WG]
def WK{l}(a:ZD l=xk)k:1<=ZC l k/\ZC l k+Y5 l k<=9223372036854775808/\0<=Y5 l k/\Y5 l k<=4096:=by
 have h:=WG.1 a;have d:=jN a;unfold ZC Y5;omega
def yi{l:Ly}(d:ZD l=xk){k:Int}(t:1<=k/\k<=4):VC xP 74 xw [YP l,vi k]<|vu<|ZC l k:=by
 refine ZT Z20 follows Z2 c74 rfl ?_;have h:=WG.1 d;have u:=jN d;have w1:=ZA (l.to*l.cap) Z0 Z0;have w2:=ZA (1-l.to) Z0 Z0;have w3:=ZA ((1-l.to)*l.cap) Z0 Z0;have w4:=ZA (l.cap-l.ae) Z0 Z0;have r:=ZA (l.cap-l.aj) Z0 Z0;have f:=ZP (l.to*l.cap) Z0 Z0;have g:=ZP ((1-l.to)*l.cap) Z0 Z0;have j:=ZP (l.cap-l.ae) Z0 Z0;have n:=ZP (l.cap-l.aj) Z0 Z0;have v1:=ZP (l.base+l.to*l.cap) Z0 Z0;have o:=ZP (l.base+(l.cap-l.ae)) Z0 Z0;have p:=ZP (l.base+(l.cap-l.ae)+l.to*l.cap) Z0 Z0;have v4:=ZP (l.base+(1-l.to)*l.cap) Z0 Z0;have q:=ZP (l.base+(l.cap-l.aj)) Z0 Z0;have v6:=ZP (l.base+(l.cap-l.aj)+(1-l.to)*l.cap) Z0 Z0;have a:k=1\/k=2\/k=3\/k=4:=Z0;obtain rfl|rfl|rfl|rfl:=a;simp[Lx,K5,ZC,w1,f,v1];simp[Lx,K5,ZC,w1,f,w4,j,o,p];omega;simp[Lx,K5,ZC,w2,w3,g,v4];simp[Lx,K5,ZC,w2,w3,g,r,n,q,v6];omega
def WZ(l:Ly):V:=.agg [vu<|ZC l 1,vi l.H,vu<|ZC l 2,vi l.ae,vu<|ZC l 3,vi l.ah,vu<|ZC l 4,vi l.aj]
def PJ{l:Ly}(a:ZD l=xk):VC xP 52 xw [YP l]<|WZ l:=by
 refine ZT Z1H follows Z2 c52 rfl ?_;simp[Ny];refine Zz (yi a (k:=1) Z0) (by simp[YP]) ?_;simp;refine Zz (yi a (k:=2) Z0) (by simp[YP]) ?_;simp;refine Zz (yi a (k:=3) Z0) (by simp[YP]) ?_;simp;refine Zz (yi a (k:=4) Z0) (by simp[YP]) ?_;simp[WZ]
@[simp]theorem LZ l:Y5 l 1=l.H:=rfl
@[simp]theorem z1 l:Y5 l 2=l.ae:=rfl
@[simp]theorem z5 l:Y5 l 3=l.ah:=rfl
@[simp]theorem za l:Y5 l 4=l.aj:=rfl
def ZU(l:Ly)(part at_:Int):Int×Int:=
 if ZD l=xw then(0,1)else if part<1\/4<part then(0,6)else if at_<0\/Y5 l part<=at_ then(0,6)else(ZC l part+at_,0)
def Aa{l:Ly}(p:l.an){part at_:Int}:VC xP 35 xw [YP l,.agg [vi part,vi at_]]<|.aq [vu (ZU l part at_).1,vi (ZU l part at_).2]:=by
 refine ZT F2 follows Z2 c35 rfl ?_;simp[Nq];refine Zz (Qu p) Z1 ?_;cases d:ZD l;simp[ZU,d];simp;by_cases k:part<1;grind [ZU];by_cases n:4<part;simp_all[ZU];have o:part=1\/part=2\/part=3\/part=4:=Z0;simp[k,n];refine Zz (PJ d) Z1 ?_;obtain rfl|rfl|rfl|rfl:=o;have a:=WK d 1;simp only[LZ]at a;simp[WZ,Yb,ZA];by_cases f:at_<0;grind [ZU];by_cases g:l.H<=at_;simp_all[ZU];have h:=ZP at_ Z0 Z0;have j:=ZP (ZC l 1+at_) Z0 Z0;simp_all[ZU];have a:=WK d 2;simp only[z1]at a;simp[WZ,Yb,ZA];by_cases f:at_<0;grind [ZU];by_cases g:l.ae<=at_;simp_all[ZU];have h:=ZP at_ Z0 Z0;have j:=ZP (ZC l 2+at_) Z0 Z0;simp_all[ZU];have a:=WK d 3;simp only[z5]at a;simp[WZ,Yb,ZA];by_cases f:at_<0;grind [ZU];by_cases g:l.ah<=at_;simp_all[ZU];have h:=ZP at_ Z0 Z0;have j:=ZP (ZC l 3+at_) Z0 Z0;simp_all[ZU];have a:=WK d 4;simp only[za]at a;simp[WZ,Yb,ZA];by_cases f:at_<0;grind [ZU];by_cases g:l.aj<=at_;simp_all[ZU];have h:=ZP at_ Z0 Z0;have j:=ZP (ZC l 4+at_) Z0 Z0;simp_all[ZU]
def jd{l:Ly}(d:ZD l=xk){k:Int}(r:1<=k/\k<=4):VC xP 77 xw [YP l,vi k]<|.aq [vu<|ZC l k,vi<|Y5 l k]:=by
 refine ZT F8 follows Z2 FV rfl ?_;have h:=WG.1 d;have t:=jN d;have w1:=ZA (l.to*l.cap) Z0 Z0;have w2:=ZA (1-l.to) Z0 Z0;have w3:=ZA ((1-l.to)*l.cap) Z0 Z0;have w4:=ZA (l.cap-l.ae) Z0 Z0;have q:=ZA (l.cap-l.aj) Z0 Z0;have f:=ZP (l.to*l.cap) Z0 Z0;have g:=ZP ((1-l.to)*l.cap) Z0 Z0;have j:=ZP (l.cap-l.ae) Z0 Z0;have n:=ZP (l.cap-l.aj) Z0 Z0;have v1:=ZP (l.base+l.to*l.cap) Z0 Z0;have o:=ZP (l.base+l.to*l.cap+(l.cap-l.ae)) Z0 Z0;have v4:=ZP (l.base+(1-l.to)*l.cap) Z0 Z0;have p:=ZP (l.base+(1-l.to)*l.cap+(l.cap-l.aj)) Z0 Z0;have a:k=1\/k=2\/k=3\/k=4:=Z0;obtain rfl|rfl|rfl|rfl:=a;all_goals simp[Ct,K5,ZC,w1,f,w2,w3,g,w4,j,q,n,v1,o,v4,p]
def Z92{l:Ly}(d:ZD l=xk){k:Int}(a:k<1\/4<k):VC xP 77 xw [YP l,vi k]<|.aq [vu 0,vi 0]:=by
 refine ZT F8 follows Z2 FV rfl ?_;simp[Ct,K5,show k≠1 by omega,show k≠2 by omega,show k≠3 by omega,show k≠4 by omega]
def Z91{l:Ly}(p:l.an){part at_:Int}:VC xP 56 xw [YP l,.agg [vi part,vi at_]]<|.aq [vu (ZU l part at_).1,vi (ZU l part at_).2]:=by
 refine ZT Z1L follows Z2 c56 rfl ?_;simp[NA];refine Zz (Z98 p) Z1 ?_;cases a:ZD l;simp[ZU,a];simp;by_cases n:part<1\/4<part;refine Zz (Z92 a n) Z1 ?_;by_cases d:at_<0;simp[ZU,a,n,d];simp[ZU,a,n,d,show 0<=at_ by omega];have o:part=1\/part=2\/part=3\/part=4:=Z0;obtain rfl|rfl|rfl|rfl:=o;have g:=WK a 1;simp only[LZ]at g;refine Zz (jd a (k:=1) Z0) Z1 ?_;by_cases d:at_<0;simp[ZU,a,d];by_cases f:l.H<=at_;simp[ZU,a,d,f];have h:=ZP at_ Z0 Z0;have j:=ZP (ZC l 1+at_) Z0 Z0;simp[ZU,a,d,f,h,j];have g:=WK a 2;simp only[z1]at g;refine Zz (jd a (k:=2) Z0) Z1 ?_;by_cases d:at_<0;simp[ZU,a,d];by_cases f:l.ae<=at_;simp[ZU,a,d,f];have h:=ZP at_ Z0 Z0;have j:=ZP (ZC l 2+at_) Z0 Z0;simp[ZU,a,d,f,h,j];have g:=WK a 3;simp only[z5]at g;refine Zz (jd a (k:=3) Z0) Z1 ?_;by_cases d:at_<0;simp[ZU,a,d];by_cases f:l.ah<=at_;simp[ZU,a,d,f];have h:=ZP at_ Z0 Z0;have j:=ZP (ZC l 3+at_) Z0 Z0;simp[ZU,a,d,f,h,j];have g:=WK a 4;simp only[za]at g;refine Zz (jd a (k:=4) Z0) Z1 ?_;by_cases d:at_<0;simp[ZU,a,d];by_cases f:l.aj<=at_;simp[ZU,a,d,f];have h:=ZP at_ Z0 Z0;have j:=ZP (ZC l 4+at_) Z0 Z0;simp[ZU,a,d,f,h,j]
def X7(l:Ly)(a k:Int):Bool:=decide (ZC l k<=a)&&decide (a<ZC l k+Y5 l k)
theorem S3{l a k}:X7 l a k=xk↔ZC l k<=a/\a<ZC l k+Y5 l k:=by simp[X7]
def yN{l a k}:X7 l a k=xw↔ ¬(ZC l k<=a/\a<ZC l k+Y5 l k):=by grind [S3]
def ZZ(l:Ly)(a:Int):Int×Int×Int:=
 if ZD l=xw then(0,0,1)else if X7 l a 1 then(1,a-ZC l 1,0)else if X7 l a 2 then(2,a-ZC l 2,0)else if X7 l a 3 then(3,a-ZC l 3,0)else if X7 l a 4 then(4,a-ZC l 4,0)else(0,0,6)
def GG{l:Ly}(x:l.an){a:Int}(w:ZB a):VC xP 34 xw [YP l,vu a]<|.aq [.agg [vi (ZZ l a).1,vi (ZZ l a).2.1],vi (ZZ l a).2.2]:=by
 refine ZT F1 follows Z2 c34 rfl ?_;simp[Np];refine Zz (Qu x) Z1 ?_;cases o:ZD l;simp[ZZ,o];obtain⟨z,A⟩:=w;simp;refine Zz (PJ o) (by simp[YP]) ?_;simp;have r:∀k,1<=ZC l k/\ZC l k+Y5 l k<=9223372036854775808/\0<=Y5 l k/\Y5 l k<=4096:=λk=>WK o k;have w1:=r 1;have w2:=r 2;have w3:=r 3;have w4:=r 4;simp only[LZ,z1,z5,za]at w1 w2 w3 w4;refine zq 6 4 (λi=>(0<i->X7 l a 1=xw)/\(1<i->X7 l a 2=xw)/\(2<i->X7 l a 3=xw)/\(3<i->X7 l a 4=xw)) Z1 Z1 Z1 ?_;rintro i B ⟨n,p,t,y⟩;have u:i=0\/i=1\/i=2\/i=3\/i=4:=Z0;obtain rfl|rfl|rfl|rfl|rfl:=u;have h:=ZP l.H Z0 Z0;by_cases f:ZC l 1<=a;have j:=ZP (a-ZC l 1) Z0 Z0;by_cases g:a-ZC l 1<l.H;have q:=ZA (a-ZC l 1) Z0 Z0;have d:X7 l a 1=xk:=S3.2 ⟨f,by rw[LZ];omega⟩;simp[WZ,Yb,ZA,f,h,j,g,q,ZZ,o,d];have d:X7 l a 1=xw:=yN.2 (by rw[LZ];omega);simp[WZ,Yb,ZA,f,h,j,g,d];have d:X7 l a 1=xw:=by simp[X7,f]
 simp[WZ,Yb,ZA,f,d];have h:=ZP l.ae Z0 Z0;by_cases f:ZC l 2<=a;have j:=ZP (a-ZC l 2) Z0 Z0;by_cases g:a-ZC l 2<l.ae;have q:=ZA (a-ZC l 2) Z0 Z0;have d:X7 l a 2=xk:=S3.2 ⟨f,by rw[z1];omega⟩;simp[WZ,Yb,ZA,f,h,j,g,q,ZZ,o,d,n Z0];have d:X7 l a 2=xw:=yN.2 (by rw[z1];omega);simp[WZ,Yb,ZA,f,h,j,g,d,n Z0];have d:X7 l a 2=xw:=by simp[X7,f]
 simp[WZ,Yb,ZA,f,d,n Z0];have h:=ZP l.ah Z0 Z0;by_cases f:ZC l 3<=a;have j:=ZP (a-ZC l 3) Z0 Z0;by_cases g:a-ZC l 3<l.ah;have q:=ZA (a-ZC l 3) Z0 Z0;have d:X7 l a 3=xk:=S3.2 ⟨f,by rw[z5];omega⟩;simp[WZ,Yb,ZA,f,h,j,g,q,ZZ,o,d,n Z0,p Z0];have d:X7 l a 3=xw:=yN.2 (by rw[z5];omega);simp[WZ,Yb,ZA,f,h,j,g,d,n Z0,p Z0];have d:X7 l a 3=xw:=by simp[X7,f]
 simp[WZ,Yb,ZA,f,d,n Z0,p Z0];have h:=ZP l.aj Z0 Z0;by_cases f:ZC l 4<=a;have j:=ZP (a-ZC l 4) Z0 Z0;by_cases g:a-ZC l 4<l.aj;have q:=ZA (a-ZC l 4) Z0 Z0;have d:X7 l a 4=xk:=S3.2 ⟨f,by rw[za];omega⟩;simp[WZ,Yb,ZA,f,h,j,g,q,ZZ,o,d,n Z0,p Z0,t Z0];have d:X7 l a 4=xw:=yN.2 (by rw[za];omega);simp[WZ,Yb,ZA,f,h,j,g,d,n Z0,p Z0,t Z0];have d:X7 l a 4=xw:=by simp[X7,f]
 simp[WZ,Yb,ZA,f,d,n Z0,p Z0,t Z0];simp[ZZ,o,n Z0,p Z0,t Z0,y Z0]
def Na:Fn:=⟨10,[0,1,2,3,4,39,5,41,6,52],pQ [pR [(2,pS 0 10),(3,pS 1 10),pV 4 pF],pQ [.au ⟨[.lt 10 []<|pn (.m 2 0)<|.m 3 0,.lt 11 []<|.ite (.s 10) pT<|pn (.m 2 1)<|.m 3 1,.lt 12 []<|.ite (.s 11) pT<|pn (.m 2 2)<|.m 3 2,.lt 13 []<|.ite (.s 12) pT<|.fm xk (.m 2 3)<|.m 3 3],[([(10,xw)],pn (.m 2 1)<|.m 3 1),([(11,xw)],pn (.m 2 2)<|.m 3 2),([(12,xw)],.fm xk (.m 2 3)<|.m 3 3),([(13,xw)],pn (.m 2 4)<|.m 3 4)],[pV 5<|.ite (.s 13) pT<|pn (.m 2 4)<|.m 3 4]⟩]<|pw (.s 5)<|px [pV 4 pF],pQ [pR [pV 6<|pI 1]]<|.block 0<|.loop [0,1,2,3,4,5,6]<|pQ [pu 7 (pL (.s 6)<|pI 4) .skip<|.exit 0,.block 1<|pQ [pC [pK 14 37 [.mm 2 0 10,.s 6],pK 15 37 [.mm 3 0 10,.s 6],pK 16 32 [.s 14,.s 15]] [pV 8<|.s 16]]<|pi 9 (.un .not<|.s 8)<|px [pV 4 pF]]<|pc 6,pC [pK 17 32 [.m 2 9,.m 3 9]] [pV 4<|.s 17]] .ret,[(4,.v)]⟩
def c13:xQ [.fz,.fz] Tryz.f13=J Na:=Z2
def Cj:Fn:=⟨4,[0,1,4,6],pQ [pR [pV 2<|pI 0],pi 3 (pl (.s 0)<|pI 0)<|pR [pV 0<|.un .neg<|pa (.s 0)<|pI 1]]<|px [pV 2<|.ce .rem (.s 0)<|.s 1],[(2,.v)]⟩
def c17:xQ [.fz,.fz] Tryz.f17=J Cj:=Z2
def Ng:Fn:=⟨3,[0,1,2],pQ [pR [(1,pS 0 10),(2,.m [pU 0,pI 0,pI 0,pI 0,pI 0,pI 0,pI 0])]]<|px [(2,pM (.ag [.m 1 0,.m 1 1,.m 1 2,.len<|.m 1 5,.len<|.m 1 6,.len<|.m 1 7,.len<|.m 1 8]) 7)],[(2,(.ag 7))]⟩
def c19:xQ [.fz] Tryz.f19=J Ng:=Z2
def Cn:Fn:=⟨7,[0,1,4,10,5,14,25],pQ [pR [pV 2 pF],pi 3 (pn (.len<|.s 0)<|.len<|.s 1)<|px [pV 2 pF],pQ [pR [pV 4<|pI 0]]<|.block 0<|.loop [0,1,2,3,4]<|pQ [pu 5 (pl (.s 4)<|.len<|.s 0) .skip<|.exit 0,.block 1<|pi 6 (pn (.ac (.ba (.s 0) (.s 4) 1) 0)<|.ac (.ba (.s 1) (.s 4) 1) 0)<|px [pV 2 pF]]<|pc 4]<|px [pV 2 pT],[(2,.v)]⟩
def c32:xQ [.fz,.fz] Tryz.f32=J Cn:=Z2
def qK:Fn:=⟨8,[0,1,2,4,6,5,10,14],pQ [pR [(2,pS 0 10),pV 3 pN],pQ [pR [pV 5<|.s 1]]<|.block 0<|pu 4 (pe (.s 5)<|pI 1) (px [pV 3<|.m 2 5])<|pu 6 (pe (.s 5)<|pI 2) (px [pV 3<|.m 2 6])<|pi 7 (pe (.s 5)<|pI 3)<|px [pV 3<|.m 2 7]]<|px [pV 3<|.m 2 8],[(3,.v)]⟩
def c37:xQ [.fz,.fz] Tryz.f37=J qK:=Z2
def Cp:Fn:=⟨4,[0,1,4,6],pQ [pR [pV 2<|pI 0],pi 3 (pl (.s 0)<|pI 0)<|pR [pV 0<|.un .neg<|pa (.s 0)<|pI 1]]<|px [pV 2<|.ce .rem (.s 0)<|.s 1],[(2,.v)]⟩
def c40:xQ [.fz,.fz] Tryz.f40=J Cp:=Z2
def qL:Fn:=⟨9,[0,1,2,3,6,10,7,14,18],pQ [pR [(3,pS 0 10),(4,pZ)],pQ [pR [pV 6<|.s 1]]<|.block 0<|pu 5 (pe (.s 6)<|pI 1) (pR [(3,.m [.m 3 0,.m 3 1,.m 3 2,.m 3 3,.m 3 4,.one<|.s 2,.m 3 6,.m 3 7,.m 3 8,.m 3 9])])<|pu 7 (pe (.s 6)<|pI 2) (pR [(3,.m [.m 3 0,.m 3 1,.m 3 2,.m 3 3,.m 3 4,.m 3 5,.one<|.s 2,.m 3 7,.m 3 8,.m 3 9])])<|pu 8 (pe (.s 6)<|pI 3) (pR [(3,.m [.m 3 0,.m 3 1,.m 3 2,.m 3 3,.m 3 4,.m 3 5,.m 3 6,.one<|.s 2,.m 3 8,.m 3 9])])<|pR [(3,.m [.m 3 0,.m 3 1,.m 3 2,.m 3 3,.m 3 4,.m 3 5,.m 3 6,.m 3 7,.one<|.s 2,.m 3 9])]]<|px [(4,pM (.mm 3 0 10) 10)],[(4,(.ag 10))]⟩
def c43:xQ [.fz,.fz,.fz] Tryz.f43=J qL:=Z2
def Cr:Fn:=⟨4,[0,1,4,6],pQ [pR [pV 2<|pI 0],pi 3 (pl (.s 0)<|pI 0)<|pR [pV 0<|.un .neg<|pa (.s 0)<|pI 1]]<|px [pV 2<|.ce .rem (.s 0)<|.s 1],[(2,.v)]⟩
def c53:xQ [.fz,.fz] Tryz.f53=J Cr:=Z2
def NB:Fn:=⟨3,[0,1,2],pQ [pR [(1,pS 0 10),(2,.m [pU 0,pI 0,pI 0,pI 0,pI 0,pI 0,pI 0])]]<|px [(2,pM (.ag [.m 1 0,.m 1 1,.m 1 2,.len<|.m 1 5,.len<|.m 1 6,.len<|.m 1 7,.len<|.m 1 8]) 7)],[(2,(.ag 7))]⟩
def c57:xQ [.fz] Tryz.f57=J NB:=Z2
structure Hp where
 base:Int
 cap:Int
 to:Int
 aa:Bool
 Z:Int
 H:List Int
 ae:List Int
 ah:List Int
 aj:List Int
 E:List Int
 deriving DecidableEq,Inhabited
def ZM(h:Hp):V:=.agg [vu h.base,vi h.cap,vi h.to,.bool h.aa,vi h.Z,.sl<|h.H.map vu,.sl<|h.ae.map vu,.sl<|h.ah.map vu,.sl<|h.aj.map vu,.sl<|h.E.map vu]
@[simp]theorem ZfE(h:Hp):VD (ZM h) 10=J (ZM h):=rfl
@[simp]theorem Zef(h:Hp):(ZM h).cells=[vu h.base,vi h.cap,vi h.to,.bool h.aa,vi h.Z,.sl<|h.H.map vu,.sl<|h.ae.map vu,.sl<|h.ah.map vu,.sl<|h.aj.map vu,.sl<|h.E.map vu]:=rfl
@[simp]theorem Zdq(h:Hp):Y1 (ZM h) 0=J (vu h.base):=rfl
@[simp]theorem Zdr(h:Hp):Y1 (ZM h) 1=J (vi h.cap):=rfl
@[simp]theorem Zds(h:Hp):Y1 (ZM h) 2=J (vi h.to):=rfl
@[simp]theorem Zdt(h:Hp):Y1 (ZM h) 3=J (.bool h.aa):=rfl
@[simp]theorem Zdu(h:Hp):Y1 (ZM h) 4=J (vi h.Z):=rfl
@[simp]theorem Zdv(h:Hp):Y1 (ZM h) 5=J (.sl<|h.H.map vu):=rfl
@[simp]theorem Zdw(h:Hp):Y1 (ZM h) 6=J (.sl<|h.ae.map vu):=rfl
@[simp]theorem Zdx(h:Hp):Y1 (ZM h) 7=J (.sl<|h.ah.map vu):=rfl
@[simp]theorem Zdy(h:Hp):Y1 (ZM h) 8=J (.sl<|h.aj.map vu):=rfl
@[simp]theorem Zdz(h:Hp):Y1 (ZM h) 9=J (.sl<|h.E.map vu):=rfl
def Zv(h:Hp):Ly:=⟨h.base,h.cap,h.to,I h.H,I h.ae,I h.ah,I h.aj⟩
structure Hp.ok (h:Hp):Prop where
 base:ZB h.base
 cap:Y7 h.cap
 to:Y7 h.to
 Z:Y7 h.Z
 H:I h.H<=1000000
 ae:I h.ae<=1000000
 ah:I h.ah<=1000000
 aj:I h.aj<=1000000
 E:I h.E<=1000000
 gq:∀w∈h.H,ZB w
 ic:∀w∈h.ae,ZB w
 ml:∀w∈h.ah,ZB w
 lz:∀w∈h.aj,ZB w
 gc:∀w∈h.E,ZB w
def yj{α:Type}{l:List α}(h:I l<=1000000):Y7 (I l:Int):=⟨Z0,Z0⟩
def Hp.ok.be{h:Hp}(a:h.ok):(Zv h).an:=⟨a.base,a.cap,a.to,yj a.H,yj a.ae,yj a.ah,yj a.aj⟩
def EB{h:Hp}:VC xP 19 xw [ZM h]<|YP<|Zv h:=by
 refine ZT EX follows Z2 c19 rfl ?_;simp[Ng,YP,Zv]
def Z93{h:Hp}:VC xP 57 xw [ZM h]<|YP<|Zv h:=by
 refine ZT Z1M follows Z2 c57 rfl ?_;simp[NB,YP,Zv]
def Zx(h:Hp)(n:Int):List Int:=if n=1 then h.H else if n=2 then h.ae else if n=3 then h.ah else h.aj
@[simp]theorem WD(h:Hp):Zx h 1=h.H:=rfl
@[simp]theorem Rf(h:Hp):Zx h 2=h.ae:=rfl
@[simp]theorem NX(h:Hp):Zx h 3=h.ah:=rfl
@[simp]theorem JA(h:Hp):Zx h 4=h.aj:=rfl
def Tn{h:Hp}{n:Int}:VC xP 37 xw [ZM h,vi n]<|.sl<|(Zx h n).map vu:=by
 refine ZT Z1r follows Z2 c37 rfl ?_;by_cases a:n=1;simp[qK,Zx,a];by_cases d:n=2;simp[qK,Zx,d];by_cases f:n=3<;>simp[qK,Zx,a,d,f]
def YB(h:Hp)(n:Int)(l:Z6):Hp:=if n=1 then {h with H:=l}else if n=2 then {h with ae:=l}else if n=3 then {h with ah:=l}else {h with aj:=l}
@[simp]theorem ZfP(h:Hp)(l:Z6):YB h 1 l= {h with H:=l}:=rfl
@[simp]theorem ZfQ(h:Hp)(l:Z6):YB h 2 l= {h with ae:=l}:=rfl
@[simp]theorem ZfR(h:Hp)(l:Z6):YB h 3 l= {h with ah:=l}:=rfl
@[simp]theorem ZfS(h:Hp)(l:Z6):YB h 4 l= {h with aj:=l}:=rfl
def Fj{h:Hp}{n:Int}{l:Z6}:VC xP 43 xw [ZM h,vi n,.sl<|l.map vu]<|ZM<|YB h n l:=by
 refine ZT Z1y follows Z2 c43 rfl ?_;by_cases a:n=1;simp[qL,YB,a,ZM];by_cases d:n=2;simp[qL,YB,d,ZM];by_cases f:n=3<;>simp[qL,YB,a,d,f,ZM]
theorem DT{α:Type}{a b:List α}{i:Nat}(h:a.take i=b.take i)(hx:a[i]?=b[i]?):a.take (i+1)=b.take (i+1):=by
 simp_all[Zi3]
def ZeF{α:Type}{a b:List α}{i:Nat}(h:a[i]? ≠b[i]?):a≠b:=λe=>h (by rw[e])
def Jr{a b:Z6}(k:I a<=1000000):VC xP 32 xw [.sl<|a.map vu,.sl<|b.map vu]<|.bool<|decide (a=b):=by
 refine ZT Z1q follows Z2 c32 rfl ?_;by_cases g:I a=I b;simp[Cn,g];refine zq 4 (I b) (λi=>a.take i=b.take i) Z1 Z1 Z1 ?_;intro i l heq;have j:=ZA ((i:Int)+1) Z0 Z0;by_cases h:i<I b;have d:i<I a:=Z0;by_cases f:a[i]=b[i];simp[h,d,f,j];grind [DT];simp[h,d,f];grind;simp_all[Ziy,Zib];simp[Cn,show ¬((I a:Int)=(I b:Int))by omega];grind
def Z9S{a b:Hp}(f:a.ok):VC xP 13 xw [ZM a,ZM b]<|.bool<|decide (a=b):=by
 refine ZT Z1d follows Z2 c13 rfl ?_;simp[Na];have g:∀k,I (Zx a k)<=1000000:=λk=>by
  unfold Zx;split;exact f.H;split;exact f.ae;split;exact f.ah;exact f.aj
 by_cases g1:a.base=b.base;case neg=>
  grind
 by_cases g2:a.cap=b.cap;case neg=>
  grind
 by_cases j:a.to=b.to;case neg=>
  grind
 by_cases l:a.aa=b.aa;case neg=>
  grind
 by_cases o:a.Z=b.Z;case neg=>
  grind
 simp[g1,g2,j,l,o];refine Sy (λ(i:Nat)=>[(6,.v<|vi ((i+1:Nat):Int))]) (λi=>i<=4/\(0<i->a.H=b.H)/\(1<i->a.ae=b.ae)/\(2<i->a.ah=b.ah)/\(3<i->a.aj=b.aj)) (Xk 6 5) 0 Z1 Z1 ?_;rintro i ⟨A,w,x,y,z⟩;have p:i=0\/i=1\/i=2\/i=3\/i=4:=Z0;obtain rfl|rfl|rfl|rfl|rfl:=p;simp;refine Zz (Tn (h:=⟨b.base,b.cap,b.to,b.aa,b.Z,a.H,a.ae,a.ah,a.aj,a.E⟩) (n:=1)) Zh1 ?_;simp;refine Zz (Tn (h:=b) (n:=1)) Zh1 ?_;simp;refine Zz (Jr (b:=b.H)<|g 1) Z1 ?_;by_cases d:a.H=b.H;simp[d,ZA];exact⟨1,by simp[d],Z1,Zh3⟩;have:a≠b:=λe=>d (by rw[e]);simp_all;simp;refine Zz (Tn (h:=⟨b.base,b.cap,b.to,b.aa,b.Z,a.H,a.ae,a.ah,a.aj,a.E⟩) (n:=2)) Zh1 ?_;simp;refine Zz (Tn (h:=b) (n:=2)) Zh1 ?_;simp;refine Zz (Jr (b:=b.ae)<|g 2) Z1 ?_;by_cases d:a.ae=b.ae;simp[d,ZA];exact⟨2,Zgd,Z1,Zh3⟩;have:a≠b:=λe=>d (by rw[e]);simp_all;simp;refine Zz (Tn (h:=⟨b.base,b.cap,b.to,b.aa,b.Z,a.H,a.ae,a.ah,a.aj,a.E⟩) (n:=3)) Zh1 ?_;simp;refine Zz (Tn (h:=b) (n:=3)) Zh1 ?_;simp;refine Zz (Jr (b:=b.ah)<|g 3) Z1 ?_;by_cases d:a.ah=b.ah;simp[d,ZA];exact⟨3,Zgd,Z1,Zh3⟩;have:a≠b:=λe=>d (by rw[e]);simp_all;simp;refine Zz (Tn (h:=⟨b.base,b.cap,b.to,b.aa,b.Z,a.H,a.ae,a.ah,a.aj,a.E⟩) (n:=4)) Zh1 ?_;simp;refine Zz (Tn (h:=b) (n:=4)) Zh1 ?_;simp;refine Zz (Jr (b:=b.aj)<|g 4) Z1 ?_;by_cases d:a.aj=b.aj;simp[d,ZA];exact⟨4,Zgd,Z1,Zh3⟩;have:a≠b:=λe=>d (by rw[e]);simp_all;simp;refine Zz (Jr (b:=b.E) f.E) Z1 ?_;by_cases d:a.E=b.E;have:a=b:=by
  have q:=w Z0;have r:=x Z0;have t:=y Z0;have u:=z Z0;obtain⟨_,_,_,_,_,_,_,_,_,_⟩:=a;obtain⟨_,_,_,_,_,_,_,_,_,_⟩:=b;simp only at g1 g2 j l o q r t u d;subst g1 g2 j l o q r t u d;rfl
 simp_all;have:a≠b:=λe=>d (by rw[e]);simp_all
def pick(c n:Int):Int:=(if c<0 then-(c+1)else c) %n
def Uh{c n:Int}(a:0<n):0<=pick c n/\pick c n<n:=⟨Zk1 _ Z0,ZjH _ a⟩
def LA{c n:Int}(hc:Y7 c)(f:0<n):VC xP 40 xw [vi c,vi n]<|vi<|pick c n:=by
 refine ZT Z1v follows Z2 c40 rfl ?_;obtain⟨a,d⟩:=hc;by_cases h:c<0;simp[Cp,h];simp(disch:=omega) only[ZA];refine⟨Z0,?_⟩;unfold pick;grind;simp[Cp,h];refine⟨Z0,?_⟩;simp_all[pick,Zhg,Zia]
def O2{c n:Int}(hc:Y7 c)(f:0<n):VC xP 53 xw [vi c,vi n]<|vi<|pick c n:=by
 refine ZT Z1I follows Z2 c53 rfl ?_;obtain⟨a,d⟩:=hc;by_cases h:c<0;simp[Cr,h];simp(disch:=omega) only[ZA];refine⟨Z0,?_⟩;unfold pick;grind;simp[Cr,h];refine⟨Z0,?_⟩;simp_all[pick,Zhg,Zia]
def Z7V{c n:Int}(hc:Y7 c)(f:0<n):VC xP 17 xw [vi c,vi n]<|vi<|pick c n:=by
 refine ZT Z1h follows Z2 c17 rfl ?_;obtain⟨a,d⟩:=hc;by_cases h:c<0;simp[Cj,h];simp(disch:=omega) only[ZA];refine⟨Z0,?_⟩;unfold pick;grind;simp[Cj,h];refine⟨Z0,?_⟩;simp_all[pick,Zhg,Zia]
def Nr:Fn:=⟨13,[0,1,4,5,6,7,16,8,9,30,10,78,97],pQ [pR [(2,.m [pN,pN])],pR [pV 3<|.mn (.len<|.s 0)<|pI 10],pR [(4,.m [pN,pN])],pQ [pR [pV 5<|pI 0]]<|.block 0<|.loop [0,1,2,3,4,5]<|pQ [pu 6 (pl (.s 5)<|.s 3) .skip<|.exit 0,.block 1<|pQ [pR [(7,.m [pN,pN])],pQ [pR [pV 8<|pI 0]]<|.block 2<|.loop [0,1,2,3,4,5,6,7,8]<|pQ [pQ [.au ⟨[.lt 13 []<|pl (.s 8)<|.len<|.ac (.ba (.s 0) (.s 5) 2) 0],[([(13,xk)],pl (.s 8)<|pI 4)],[pV 9<|.ite (.s 13) (pl (.s 8)<|pI 4) pF]⟩]<|.cond (.s 9) .skip<|.exit 2,.block 3<|pC [pK 14 53 [.ac (.ba (.ac (.ba (.s 0) (.s 5) 2) 0) (.s 8) 1) 0,pa (.s 3)<|pI 1]] [(7,.m [.app (.m 7 0) (.lit [pb (.s 14)<|pI 1]) 1,.m 7 1])]]<|pc 8,pR [(7,.m [.m 7 0,.app pN (.ik (.ac (.ba (.s 0) (.s 5) 2) 1) (pI 0) (.mn (.len<|.ac (.ba (.s 0) (.s 5) 2) 1)<|pI 4) 1) 1])]]<|pR [(4,.m [.app (.m 4 0) (.lit [.mm 7 0 2]) 2,.m 4 1])]]<|pc 5,pQ [pR [pV 10<|pI 0]]<|.block 4<|.loop [0,1,2,3,4,5,6,10]<|pQ [pQ [.au ⟨[.lt 15 []<|pl (.s 10)<|.len<|.s 1],[([(15,xk)],pl (.s 10)<|pI 5)],[pV 11<|.ite (.s 15) (pl (.s 10)<|pI 5) pF]⟩]<|.cond (.s 11) .skip<|.exit 4,.block 5<|pC [pK 16 53 [.ac (.ba (.s 1) (.s 10) 1) 0,pa (.s 3)<|pI 1]] [(4,.m [.m 4 0,.app (.m 4 1) (.lit [pb (.s 16)<|pI 1]) 1])]]<|pc 10,pi 12 (pe (.len<|.m 4 1)<|pI 0)<|pR [(4,.m [.m 4 0,.app (.m 4 1) (.lit [pb (.s 3)<|pI 1]) 1])]]<|px [(2,pM (.mm 4 0 2) 2)],[(2,(.ag 2))]⟩
def c38:xQ [.fz,.fz] Tryz.f38=J Nr:=Z2
def Co:Fn:=⟨10,[0,1,2,3,6,7,8,14,9,31],pQ [pR [(3,pS 0 7),pV 4<|pI 0,pV 5 pF],pR [pV 6<|.s 1],pi 7 (pj (.len<|.m 3 2)<|pI 0)<|pR [pV 6<|.ac (.ba (.m 3 2) (.ce .rem (.s 1)<|.len<|.m 3 2) 1) 0],pC [pK 10 40 [.s 6,pI 3]] [pV 8<|.s 10],pQ [.au ⟨[.lt 11 []<|pe (.s 8)<|pI 2],[([(11,xk)],.un .not<|.s 2)],[pV 9<|.ite (.s 11) (.un .not<|.s 2) pF]⟩]<|pw (.s 9)<|pR [pV 8<|pI 1],pC [pK 12 40 [.ce .quo (.s 6)<|pI 3,pI 2]] [pV 4<|.s 8,pV 5<|pe (.s 12)<|pI 1]] .ret,[(4,.v),(5,.v)]⟩
def c39:xQ [.fz,.fz,.fz] Tryz.f39=J Co:=Z2
def Ns:Fn:=⟨15,[0,1,2,3,4,5,6,8,9,10,11,12,44,13,76],pQ [pR [(4,pS 0 14),(5,pS 1 2),(6,pS 2 2),(7,.m [pU 0,pI 0,pI 0,pF,pI 0,pN,pN,pN,pN,pN,pN,pN,pN,pN])],pC [pK 15 37 [.mm 4 0 10,.m 5 0]] [pV 8<|.app pN (.s 15) 1],pC [pK 16 54 [.ag [pa (.len<|.m 6 0)<|.len<|.m 6 1,.len<|.m 6 0]]] [pV 9<|.ext (.s 16) 0,pV 10<|.ext (.s 16) 1],.au ⟨[],[([],.ba (.s 8) (.m 5 1) 1)],[pV 8<|.upd (.s 8) (.m 5 1) 0<|.one<|.s 9]⟩,pQ [pR [pV 11<|pI 0]]<|.block 0<|.loop [0,1,2,3,4,5,6,7,8,9,10,11]<|pQ [pu 12 (pl (.s 11)<|.len<|.m 6 0) .skip<|.exit 0,.block 1<|.au ⟨[pK 17 55 [.mm 4 0 14,.ag [.m 5 0,pa (pa (.m 5 1)<|pI 1)<|.s 11],.ac (.ba (.m 6 0) (.s 11) 1) 0,pa (.s 3)<|.s 11]],[([],.ba (.s 8) (pa (pa (.m 5 1)<|pI 1)<|.s 11) 1)],[pV 8<|.upd (.s 8) (pa (pa (.m 5 1)<|pI 1)<|.s 11) 0<|.one<|.s 17]⟩]<|pc 11,pQ [pR [pV 13<|pI 0]]<|.block 2<|.loop [0,1,2,3,4,5,6,7,8,9,10,11,12,13]<|pQ [pu 14 (pl (.s 13)<|.len<|.m 6 1) .skip<|.exit 2,.block 3<|.au ⟨[],[([],.ba (.s 8) (pa (pa (pa (.m 5 1)<|pI 1)<|.len<|.m 6 0)<|.s 13) 1)],[pV 8<|.upd (.s 8) (pa (pa (pa (.m 5 1)<|pI 1)<|.len<|.m 6 0)<|.s 13) 0<|.ac (.ba (.m 6 1) (.s 13) 1) 0]⟩]<|pc 13,pC [pK 18 43 [.mm 4 0 10,.m 5 0,.s 8]] [(4,.m [.ac (.sz (.s 18) 10) 0,.ac (.sz (.s 18) 10) 1,.ac (.sz (.s 18) 10) 2,.ac (.sz (.s 18) 10) 3,.ac (.sz (.s 18) 10) 4,.ac (.sz (.s 18) 10) 5,.ac (.sz (.s 18) 10) 6,.ac (.sz (.s 18) 10) 7,.ac (.sz (.s 18) 10) 8,.ac (.sz (.s 18) 10) 9,.m 4 10,.m 4 11,.m 4 12,.m 4 13])]]<|px [(7,pM (.mm 4 0 14) 14)],[(7,(.ag 14))]⟩
def c41:xQ [.fz,.fz,.fz,.fz] Tryz.f41=J Ns:=Z2
def Cq:Fn:=⟨10,[0,1,2,3,4,11,5,6,7,8],pQ [pR [(2,pS 0 14),(3,pS 1 2),pV 4<|pU 0],pi 5 (pe (.m 3 0)<|pI 0)<|px [pV 4<|pU 0],pC [pK 10 57 [.mm 2 0 10],pK 11 56 [.s 10,.mm 3 0 2]] [pV 6<|.ext (.s 11) 0,pV 7<|.ext (.s 11) 1],pC [pK 12 58 [.s 6]] [pV 8<|.ext (.s 12) 0,pV 9<|.ext (.s 12) 1]]<|px [pV 4<|.s 8],[(4,.v)]⟩
def c42:xQ [.fz,.fz] Tryz.f42=J Cq:=Z2
def Sd:Fn:=⟨10,[0,1,2,3,4,5,8,10,13,54],pQ [pR [(4,pS 0 14),(5,pS 1 2),pV 6<|pU 0],pi 7 (pl (.s 2)<|pI 0)<|px [pV 6<|pU 0],pi 8 (pj (.m 5 0)<|pI 2)<|pQ [pC [pK 10 42 [.mm 4 0 14,.bi (.ba (.m 4 13) (.s 2) 2) 0 2]] [pV 6<|.s 10]] .ret,pQ [.au ⟨[.lt 11 []<|pe (.m 5 0)<|pI 1,.lt 12 []<|.ite (.s 11) (pg (.m 5 1)<|.m 4 4) pF,.lt 13 [(12,xk)]<|pe (.ac (.ba (.m 4 12) (.s 2) 2) 0)<|pI 0,.lt 14 [(12,xk),(13,xw)]<|pj (.ac (.ba (.m 4 13) (.s 2) 2) 0)<|pI 0],[([(11,xk)],pg (.m 5 1)<|.m 4 4),([(12,xk),(13,xw),(14,xk)],pe (.ce .rem (.s 3)<|pI 2)<|pI 0),([(12,xk),(13,xw)],.ite (.s 14) (pe (.ce .rem (.s 3)<|pI 2)<|pI 0) pF),([(12,xk)],.ite (.s 13) pT<|.ite (.s 14) (pe (.ce .rem (.s 3)<|pI 2)<|pI 0) pF)],[pV 9<|.ite (.s 12) (.ite (.s 13) pT<|.ite (.s 14) (pe (.ce .rem (.s 3)<|pI 2)<|pI 0) pF) pF]⟩]<|pw (.s 9)<|pQ [pC [pK 15 42 [.mm 4 0 14,.bi (.ba (.m 4 13) (.s 2) 2) 0 2]] [pV 6<|.s 15]] .ret,pC [pK 16 42 [.mm 4 0 14,.bi (.ba (.m 4 12) (.s 2) 2) 0 2]] [pV 6<|.s 16]] .ret,[(6,.v)]⟩
def c55:xQ [.fz,.fz,.fz,.fz] Tryz.f55=J Sd:=Z2
structure Nd where
 M:List Int
 data:List Int
 deriving DecidableEq,Inhabited
structure Gr where
 nodes:List Nd
 E:List Int
 deriving DecidableEq,Inhabited
def Yi(n:Nd):V:=.agg [.sl<|n.M.map vi,.sl<|n.data.map vu]
def Yj(g:Gr):V:=.agg [.sl<|g.nodes.map Yi,.sl<|g.E.map vi]
@[simp]theorem ZeE(n:Nd):(Yi n).cells=[.sl<|n.M.map vi,.sl<|n.data.map vu]:=rfl
@[simp]theorem Zfr(l:List Nd):XA 2 (l.map Yi)=xk:=JN λ_=>rfl
@[simp]theorem Ze5(n:Nd):Uv (Yi n) 0 2=J (Yi n):=rfl
@[simp]theorem ZdI(n:Nd):Y1 (Yi n) 0=J (.sl<|n.M.map vi):=rfl
@[simp]theorem ZdJ(n:Nd):Y1 (Yi n) 1=J (.sl<|n.data.map vu):=rfl
@[simp]theorem ZfG(n:Nd):VD (Yi n) 2=J (Yi n):=rfl
@[simp]theorem Ze4(g:Gr):Uv (Yj g) 0 2=J (Yj g):=rfl
@[simp]theorem Zdo(g:Gr):Y1 (Yj g) 0=J (.sl<|g.nodes.map Yi):=rfl
@[simp]theorem Zdp(g:Gr):Y1 (Yj g) 1=J (.sl<|g.E.map vi):=rfl
@[simp]theorem ZfD(g:Gr):VD (Yj g) 2=J (Yj g):=rfl
@[simp]theorem Zed(g:Gr):(Yj g).cells=[.sl<|g.nodes.map Yi,.sl<|g.E.map vi]:=rfl
@[simp]theorem Zfw{k:IntKind}{l:Zr}(j n:Nat):Ro n (.sl l) (.int k 0) (.int k (j:Int))=if j<=I l/\XA n l=xk then J (.sl<|l.take j)else U:=by
 have:=Zam (k:=k) (l:=l) 0 j n;simpa using this
def rp(n:Nat)(p:Int):Int:=pick p (n+1) -1
def T7(n:Nat)(x:Nd):Nd:=⟨(x.M.take 4).map<|rp n,x.data.take 4⟩
def Vy(l:List Nd):Nat:=min (I l) 10
def ZY(l:List Nd)(a:Z6):Gr:=⟨(l.take<|Vy l).map<|T7<|Vy l,if a.take 5=[]then [(Vy l:Int) -1]else(a.take 5).map (rp<|Vy l)⟩
def Z0L{l:List Nd}{a:Z6}(hl:∀x∈l,∀p∈x.M,Y7 p)(hr:∀p∈a,Y7 p):VC xP 38 xw [.sl<|l.map Yi,.sl<|a.map vi]<|Yj<|ZY l a:=by
 refine ZT Z1s follows Z2 c38 rfl ?_;have S:Vy l<=10:=by grind [Vy]
 have a1:Vy l<=I l:=by grind [Vy]
 have z:(if(10:Int)< (I l:Int)then(10:Int)else(I l:Int))=(Vy l:Int):=by
  unfold Vy;split<;>omega
 simp[Nr,z];generalize hn:Vy l=n at*;have C:=ZA ((n:Int)+1) Z0 Z0;refine UM (λt=>∃i:Nat,i<=n/\t=[.v<|.sl<|l.map Yi,.v<|.sl<|a.map vi,.m [.sl [],.sl []],.v<|vi n,.m [.sl<|((l.take i).map<|T7 n).map Yi,.sl []],.v<|vi i]) (λt=>match get t 5 with|.v (.int _ i)=>n-i.toNat|_=>0) ?_ ?_;exact⟨0,Z1,Z1⟩
 .rintro t ⟨i,hi,rfl⟩;have hw:=ZA ((i:Int)+1) Z0 Z0;by_cases h:i<n
  .have r:i<I l:=Z0;have P:l[i]?=J l[i]:=Zh8 r;simp[h];generalize A:l[i]=x at P;have Q:∀p∈x.M,Y7 p:=hl x<|Zhh P;have F:(if(4:Int)< (I x.data:Int)then(4:Int)else(I x.data:Int))=((min (I x.data) 4:Nat):Int):=by split<;>omega
   refine UM (λt=>∃k:Nat,k<=I x.M/\k<=4/\t=[.v<|.sl<|l.map Yi,.v<|.sl<|a.map vi,.m [.sl [],.sl []],.v<|vi n,.m [.sl<|((l.take i).map<|T7 n).map Yi,.sl []],.v<|vi i,.v<|.bool xk,.m [.sl<|((x.M.take k).map<|rp n).map vi,.sl []],.v<|vi k]) (λt=>match get t 8 with|.v (.int _ i)=>4-i.toNat|_=>0) ?_ ?_;exact⟨0,Z1,Z1,Z1⟩
   .rintro t ⟨k,G,Z,rfl⟩;have w:=ZA ((k:Int)+1) Z0 Z0;by_cases W:k<I x.M/\k<4;obtain⟨f,Y⟩:=W;have M:x.M[k]?=J x.M[k]:=Zh8 f;have g:(k:Int)<4:=Z0;simp[r,A,f,g,C];refine Zz (O2 (Q _<|Zhx f) Z0) Z1 ?_;have N:=Uh (c:=x.M[k]) (n:=(n:Int)+1) Z0;have y:=ZA (pick x.M[k] ((n:Int)+1) -1) Z0 Z0;simp[w,y];refine⟨by grind [Yc],⟨k+1,Z0,Z0,?_,Z1⟩,Z0⟩;rw[Zi3,Zhz,M];rfl
    .have d:(x.M.take k)=x.M.take 4:=by
      by_cases f:k<I x.M;grind;grind
     have o:(l.take<|i+1).map (Yi∘T7 n)=(l.take i).map (Yi∘T7 n)++[V.agg [.sl<|(x.M.take k).map<|vi∘rp n,.sl<|(x.data.take<|min (I x.data) 4).map vu]]:=by
      rw[Zi3,P,Zir,d];have L:x.data.take (min (I x.data) 4)=x.data.take 4:=by
       by_cases hd:I x.data<=4;grind;grind
      rw[L];simp[Yi,T7]
     have B:XA 1 ((x.data.take<|min (I x.data) 4).map vu)=xk:=jF _;have u:min (I x.data) 4<=Yc:=by grind [Yc]
     have H:min i (I l)+1<=Yc:=by grind [Yc]
     have K:min (I x.data) 4<=I x.data:=Z0;simp only[List.map_take]at o B;have g:k<I x.M->¬(k:Int)<4:=Z0;by_cases f:k<I x.M
     all_goals (
      simp[r,A,f,g,F,u,H,B,hw,K];exact⟨⟨i+1,Z0,o.symm,Z1⟩,Z0⟩)
  .have:i=n:=Z0;subst this;simp;have D:=ZA ((i:Int) -1) Z0 Z0;refine UM (λt=>∃k:Nat,k<=I a/\k<=5/\t=[.v<|.sl<|l.map Yi,.v<|.sl<|a.map vi,.m [.sl [],.sl []],.v<|vi i,.m [.sl<|(l.take i).map<|Yi∘T7 i,.sl<|(a.take k).map<|vi∘rp i],.v<|vi i,.v<|.bool xw,.no,.no,.no,.v<|vi k]) (λt=>match get t 10 with|.v (.int _ i)=>5-i.toNat|_=>0) ?_ ?_;exact⟨0,Z1,Z1,Z1⟩
   .rintro t ⟨k,G,a0,rfl⟩;have w:=ZA ((k:Int)+1) Z0 Z0;by_cases X:k<I a/\k<5;obtain⟨f,Y⟩:=X;have M:a[k]?=J a[k]:=Zh8 f;have g:(k:Int)<5:=Z0;simp[f,g,C];refine Zz (O2 (hr _<|Zhx f) Z0) Z1 ?_;have N:=Uh (c:=a[k]) (n:=(i:Int)+1) Z0;have y:=ZA (pick a[k] ((i:Int)+1) -1) Z0 Z0;simp[w,y];refine⟨by grind [Yc],⟨k+1,Z0,Z0,?_,Z1⟩,Z0⟩;rw[Zi3,Zhz,M];rfl
    .have d:(a.take k)=a.take 5:=by
      by_cases f:k<I a;grind;grind
     have g:k<I a->¬(k:Int)<5:=Z0;have R:ZY l a=⟨(l.take i).map<|T7 i,if a.take 5=[]then [(i:Int) -1]else(a.take 5).map (rp i)⟩:=by
      unfold ZY;rw[hn]
     have q:I (a.take k)=k:=by rw[Zid];omega
     by_cases T:k=0;subst T;have j:a.take 5=[]:=by rw[<-d];rfl
     rw[R,Zhi j];have f:¬0<I a:=Z0;have u:1<=Yc:=by simp[Yc]
     simp[f,Yj,D,u]
     .have j:a.take 5≠[]:=by
       rw[<-d];intro h;rw[h]at q;simp at q;omega
      rw[R,Zhg j,<-d];have O:¬a=[]:=by intro h;rw[h]at G;simp at G;omega
      by_cases f:k<I a;all_goals simp[f,g,Yj,T,O]
def P1{n:Nat}{p:Int}: -1<=rp n p/\rp n p<n:=by
 have:=Uh (c:=p) (n:=(n:Int)+1) Z0;grind [rp]
def L8(l:List Nd)(a:Z6):(ZY l a).nodes.length=Vy l:=by
 simp[ZY,Vy]
def qb(l:List Nd)(a:Z6):Vy l<=10/\(ZY l a).E.length<=5/\∀x∈(ZY l a).nodes,I x.M<=4/\I x.data<=4:=by
 refine⟨by grind [Vy],?_,λx d=> ?_⟩;grind [ZY];simp only[ZY,Zhq]at d;obtain⟨y,_,rfl⟩:=d;grind [T7,List.length_map,List.length_take]
def p5:Fn:=⟨5,[0,1,2,3,10],pQ [pR [(1,pS 0 7),(2,pZ)],pC [pK 5 14 [.mm 1 0 7,pT]] [(3,pS 5 14)],pi 4 (pe (.len<|.m 3 5)<|pI 0)<|pQ [pC [pK 6 15 [.mm 1 0 7]] [(2,pS 6 10)]] .ret,pC [pK 7 16 [.mm 3 0 14,.mm 1 0 7]] [(2,pS 7 10)]] .ret,[(2,(.ag 10))]⟩
def c5:xQ [.fz] Tryz.f5=J p5:=Z2
def Nb:Fn:=⟨19,[0,1,2,4,5,6,7,8,26,9,10,11,12,13,57,81,14,82,165],pQ [pR [(2,pS 0 7),(3,.m [pU 0,pI 0,pI 0,pF,pI 0,pN,pN,pN,pN,pN,pN,pN,pN,pN])],.au ⟨[pK 19 38 [.m 2 0,.m 2 1]],[([],.ag [pU 0,pI 0,pI 0,pF,pI 0,pN,pN,pN,pN,pN,.ac (.sz (.s 19) 2) 0,.ac (.sz (.s 19) 2) 1,pN,pN])],[(4,.m [pU 0,pI 0,pI 0,pF,pI 0,pN,pN,pN,pN,pN,.ac (.sz (.s 19) 2) 0,.ac (.sz (.s 19) 2) 1,pN,pN])]⟩,pR [(5,.m [pI 0,pI 0,pI 0,pI 0,pI 0])],pR [pV 6<|pI 0],pQ [pR [pV 7<|pI 0]]<|.block 0<|.loop [0,1,2,3,4,5,6,7]<|pQ [pu 8 (pl (.s 7)<|.len<|.m 4 10) .skip<|.exit 0,.block 1<|pQ [pC [pK 20 39 [.mm 2 0 7,.s 7,.s 1]] [pV 9<|.ext (.s 20) 0,pV 10<|.ext (.s 20) 1],pR [pV 11<|pa (pa (pI 1)<|.len<|.ac (.ba (.m 4 10) (.s 7) 2) 0)<|.len<|.ac (.ba (.m 4 10) (.s 7) 2) 1],pR [(12,pM (.ag [pI 0,pI 0]) 2)],pR [(13,pM (.ag [pI 0,pI 0]) 2)],pu 14 (pl (.s 9)<|pI 2) (pQ [.au ⟨[],[([],.ai (.c<|.agg [(.bool xk),(.bool xk),(.bool xk),(.bool xk),(.bool xk)]) (pb (pI 2)<|.s 9) 5 1 xw)],[(12,pM (.ag [pb (pI 2)<|.s 9,.one<|.ai (.mm 5 0 5) (pb (pI 2)<|.s 9) 5 1 xw]) 2)]⟩]<|.au ⟨[],[([],.ai (.c<|.agg [(.bool xk),(.bool xk),(.bool xk),(.bool xk),(.bool xk)]) (pb (pI 2)<|.s 9) 5 1 xw)],[(5,pM (.di (.mm 5 0 5) (pb (pI 2)<|.s 9) 5 1<|pa (.ai (.mm 5 0 5) (pb (pI 2)<|.s 9) 5 1 xw)<|.s 11) 5)]⟩)<|pR [pV 6<|pa (.s 6)<|.s 11],pQ [pC [.lt 21 []<|pj (.s 9)<|pI 0] [pV 15<|.ite (.s 21) (.s 1) pF]]<|pw (.s 15)<|pQ [pR [pV 16<|pI 3],pi 17 (.s 10)<|pR [pV 16<|pI 4],.au ⟨[],[([],.ai (.c<|.agg [(.bool xk),(.bool xk),(.bool xk),(.bool xk),(.bool xk)]) (.s 16) 5 1 xw)],[(13,pM (.ag [.one<|.s 16,.one<|.ai (.mm 5 0 5) (.s 16) 5 1 xw]) 2)]⟩]<|.au ⟨[],[([],.ai (.c<|.agg [(.bool xk),(.bool xk),(.bool xk),(.bool xk),(.bool xk)]) (.s 16) 5 1 xw)],[(5,pM (.di (.mm 5 0 5) (.s 16) 5 1<|pa (.ai (.mm 5 0 5) (.s 16) 5 1 xw)<|.s 11) 5)]⟩,pR [(4,.m [.m 4 0,.m 4 1,.m 4 2,.m 4 3,.m 4 4,.m 4 5,.m 4 6,.m 4 7,.m 4 8,.m 4 9,.m 4 10,.m 4 11,.app (.m 4 12) (.lit [.mm 12 0 2]) 2,.m 4 13])]]<|pR [(4,.m [.m 4 0,.m 4 1,.m 4 2,.m 4 3,.m 4 4,.m 4 5,.m 4 6,.m 4 7,.m 4 8,.m 4 9,.m 4 10,.m 4 11,.m 4 12,.app (.m 4 13) (.lit [.mm 13 0 2]) 2])]]<|pc 7,.au ⟨[pK 22 40 [.m 2 6,pI 2]],[([],.ai (.c<|.agg [(.bool xk),(.bool xk),(.bool xk),(.bool xk),(.bool xk)]) (pI 1) 5 1 xw),([],.ai (.c<|.agg [(.bool xk),(.bool xk),(.bool xk),(.bool xk),(.bool xk)]) (pI 2) 5 1 xw),([],.ai (.c<|.agg [(.bool xk),(.bool xk),(.bool xk),(.bool xk),(.bool xk)]) (pI 3) 5 1 xw),([],.ai (.c<|.agg [(.bool xk),(.bool xk),(.bool xk),(.bool xk),(.bool xk)]) (pI 4) 5 1 xw),([],.ag [pU 0,pI 0,.one<|.s 22,.one<|.s 1,pI 0,.mk (.int .u64 0)<|.ai (.mm 5 0 5) (pI 1) 5 1 xw,.mk (.int .u64 0)<|.ai (.mm 5 0 5) (pI 2) 5 1 xw,.mk (.int .u64 0)<|.ai (.mm 5 0 5) (pI 3) 5 1 xw,.mk (.int .u64 0)<|.ai (.mm 5 0 5) (pI 4) 5 1 xw,pN])],[(4,.m [pU 0,pI 0,.one<|.s 22,.one<|.s 1,pI 0,.mk (.int .u64 0)<|.ai (.mm 5 0 5) (pI 1) 5 1 xw,.mk (.int .u64 0)<|.ai (.mm 5 0 5) (pI 2) 5 1 xw,.mk (.int .u64 0)<|.ai (.mm 5 0 5) (pI 3) 5 1 xw,.mk (.int .u64 0)<|.ai (.mm 5 0 5) (pI 4) 5 1 xw,pN,.m 4 10,.m 4 11,.m 4 12,.m 4 13])]⟩,.au ⟨[pK 23 40 [.m 2 4,pI 12]],[([],.ai (.c<|.agg [(.bool xk),(.bool xk),(.bool xk),(.bool xk),(.bool xk)]) (pI 1) 5 1 xw),([],.ai (.c<|.agg [(.bool xk),(.bool xk),(.bool xk),(.bool xk),(.bool xk)]) (pI 2) 5 1 xw),([],.ai (.c<|.agg [(.bool xk),(.bool xk),(.bool xk),(.bool xk),(.bool xk)]) (pI 3) 5 1 xw),([],.ai (.c<|.agg [(.bool xk),(.bool xk),(.bool xk),(.bool xk),(.bool xk)]) (pI 4) 5 1 xw)],[(4,.m [.m 4 0,pa (.mx (pa (pa (.ai (.mm 5 0 5) (pI 1) 5 1 xw)<|.ai (.mm 5 0 5) (pI 2) 5 1 xw)<|.s 6)<|pa (.ai (.mm 5 0 5) (pI 3) 5 1 xw)<|.ai (.mm 5 0 5) (pI 4) 5 1 xw)<|.s 23,.m 4 2,.m 4 3,.m 4 4,.m 4 5,.m 4 6,.m 4 7,.m 4 8,.m 4 9,.m 4 10,.m 4 11,.m 4 12,.m 4 13])]⟩,pR [(4,.m [pa (pU 1)<|.ce .rem (.m 2 3)<|pb (pU 9223372036854775808)<|pm (pU 2)<|.conv .u64<|.m 4 1,.m 4 1,.m 4 2,.m 4 3,.m 4 4,.m 4 5,.m 4 6,.m 4 7,.m 4 8,.m 4 9,.m 4 10,.m 4 11,.m 4 12,.m 4 13])],.au ⟨[],[([],.ai (.c<|.agg [(.bool xk),(.bool xk),(.bool xk),(.bool xk),(.bool xk)]) (pI 1) 5 1 xw)],[(4,.m [.m 4 0,.m 4 1,.m 4 2,.m 4 3,.one<|.ai (.mm 5 0 5) (pI 1) 5 1 xw,.m 4 5,.m 4 6,.m 4 7,.m 4 8,.m 4 9,.m 4 10,.m 4 11,.m 4 12,.m 4 13])]⟩,pQ [.au ⟨[.lt 24 []<|.s 1],[([(24,xk)],.ai (.c<|.agg [(.bool xk),(.bool xk),(.bool xk),(.bool xk),(.bool xk)]) (pI 1) 5 1 xw),([(24,xk)],pj (.ai (.mm 5 0 5) (pI 1) 5 1 xw)<|pI 0)],[pV 18<|.ite (.s 24) (pj (.ai (.mm 5 0 5) (pI 1) 5 1 xw)<|pI 0) pF]⟩]<|pw (.s 18)<|.au ⟨[pK 25 40 [.m 2 5,.ai (.mm 5 0 5) (pI 1) 5 1 xw]],[([],.ai (.c<|.agg [(.bool xk),(.bool xk),(.bool xk),(.bool xk),(.bool xk)]) (pI 1) 5 1 xw)],[(4,.m [.m 4 0,.m 4 1,.m 4 2,.m 4 3,.one<|.s 25,.m 4 5,.m 4 6,.m 4 7,.m 4 8,.m 4 9,.m 4 10,.m 4 11,.m 4 12,.m 4 13])]⟩]<|px [(3,pM (.mm 4 0 14) 14)],[(3,(.ag 14))]⟩
def c14:xQ [.fz,.fz] Tryz.f14=J Nb:=Z2
def Nc:Fn:=⟨3,[0,1,2],pQ [pR [(1,pS 0 7),(2,pZ)],pC [pK 3 14 [.mm 1 0 7,pF],pK 4 16 [.s 3,.mm 1 0 7]] [(2,pS 4 10)]] .ret,[(2,(.ag 10))]⟩
def c15:xQ [.fz] Tryz.f15=J Nc:=Z2
def Nf:Fn:=⟨17,[0,1,2,3,4,5,16,6,31,59,83,7,8,9,125,10,134],pQ [pR [(2,pS 0 14),(3,pS 1 7),(4,pZ)],pQ [pR [pV 5<|pI 0]]<|.block 0<|.loop [0,1,2,3,4,5]<|pQ [pu 6 (pl (.s 5)<|.len<|.m 2 10) .skip<|.exit 0,.block 1<|pQ [pR [(7,pM (.bi (.ba (.m 2 10) (.s 5) 2) 0 2) 2)],pi 8 (pj (.ac (.ba (.m 2 12) (.s 5) 2) 0)<|pI 0)<|pC [pK 17 41 [.mm 2 0 14,.bi (.ba (.m 2 12) (.s 5) 2) 0 2,.mm 7 0 2,pa (.m 3 4)<|.s 5]] [(2,pS 17 14)],pQ [.au ⟨[.lt 18 []<|pj (.ac (.ba (.m 2 13) (.s 5) 2) 0)<|pI 0],[([(18,xk)],pe (.ac (.ba (.m 2 12) (.s 5) 2) 0)<|pI 0)],[pV 9<|.ite (.s 18) (pe (.ac (.ba (.m 2 12) (.s 5) 2) 0)<|pI 0) pF]⟩]<|pw (.s 9)<|pC [pK 19 41 [.mm 2 0 14,.bi (.ba (.m 2 13) (.s 5) 2) 0 2,.mm 7 0 2,pI 0]] [(2,pS 19 14)],.au ⟨[.lt 20 []<|pj (.ac (.ba (.m 2 13) (.s 5) 2) 0)<|pI 0],[([(20,xk)],pj (.ac (.ba (.m 2 12) (.s 5) 2) 0)<|pI 0)],[pV 10<|.ite (.s 20) (pj (.ac (.ba (.m 2 12) (.s 5) 2) 0)<|pI 0) pF]⟩]<|pw (.s 10)<|pQ [pC [pK 21 37 [.mm 2 0 10,.ac (.ba (.m 2 13) (.s 5) 2) 0]] [pV 11<|.app pN (.s 21) 1],.au ⟨[pK 22 42 [.mm 2 0 14,.bi (.ba (.m 2 12) (.s 5) 2) 0 2]],[([],.ba (.s 11) (.ac (.ba (.m 2 13) (.s 5) 2) 1) 1)],[pV 11<|.upd (.s 11) (.ac (.ba (.m 2 13) (.s 5) 2) 1) 0<|.one<|.s 22]⟩]<|pC [pK 23 43 [.mm 2 0 10,.ac (.ba (.m 2 13) (.s 5) 2) 0,.s 11]] [(2,.m [.ac (.sz (.s 23) 10) 0,.ac (.sz (.s 23) 10) 1,.ac (.sz (.s 23) 10) 2,.ac (.sz (.s 23) 10) 3,.ac (.sz (.s 23) 10) 4,.ac (.sz (.s 23) 10) 5,.ac (.sz (.s 23) 10) 6,.ac (.sz (.s 23) 10) 7,.ac (.sz (.s 23) 10) 8,.ac (.sz (.s 23) 10) 9,.m 2 10,.m 2 11,.m 2 12,.m 2 13])]]<|pc 5,pR [pV 12 pN],pQ [pR [pV 13<|pI 0]]<|.block 2<|.loop [0,1,2,3,4,5,6,12,13]<|pQ [pu 14 (pl (.s 13)<|.len<|.m 2 11) .skip<|.exit 2,.block 3<|pQ [pR [pV 15<|pU 0],pi 16 (pg (.ac (.ba (.m 2 11) (.s 13) 1) 0)<|pI 0)<|pC [pK 24 42 [.mm 2 0 14,.bi (.ba (.m 2 12) (.ac (.ba (.m 2 11) (.s 13) 1) 0) 2) 0 2]] [pV 15<|.s 24]]<|pR [pV 12<|.app (.s 12) (.lit [.one<|.s 15]) 1]]<|pc 13,pR [(2,.m [.m 2 0,.m 2 1,.m 2 2,.m 2 3,.m 2 4,.m 2 5,.m 2 6,.m 2 7,.m 2 8,.one<|.s 12,.m 2 10,.m 2 11,.m 2 12,.m 2 13])]]<|px [(4,pM (.mm 2 0 10) 10)],[(4,(.ag 10))]⟩
def c16:xQ [.fz,.fz] Tryz.f16=J Nf:=Z2
end Vm
end
section
namespace Vm
open Go Go.Proofs
structure Pl where
 part:Int
 Y:Int
 deriving DecidableEq,Inhabited
def Wa(p:Pl):V:=.agg [vi p.part,vi p.Y]
@[simp]theorem Zfd p:(Wa p).cells=[vi p.part,vi p.Y]:=rfl
@[simp]theorem Ze8 p:Uv (Wa p) 0 2=J (Wa p):=rfl
@[simp]theorem ZdP p:Y1 (Wa p) 0=J (vi p.part):=rfl
@[simp]theorem ZdQ p:Y1 (Wa p) 1=J (vi p.Y):=rfl
@[simp]theorem ZfI p:VD (Wa p) 2=J (Wa p):=rfl
@[simp]theorem Zfu(l:List Pl):XA 2 (l.map Wa)=xk:=JN λ_=>rfl
structure Rw where
 nodes:List Nd
 E:List Int
 dh:List Int
 base:Int
 bj:Int
 Z:Int
 to:Int
 deriving Inhabited
def Wr(x:Rw):V:=.agg [.sl<|x.nodes.map Yi,.sl<|x.E.map vi,.sl<|x.dh.map vi,vu x.base,vi x.bj,vi x.Z,vi x.to]
@[simp]theorem ZfJ x:VD (Wr x) 7=J (Wr x):=rfl
@[simp]theorem Zfn x:(Wr x).cells=[.sl<|x.nodes.map Yi,.sl<|x.E.map vi,.sl<|x.dh.map vi,vu x.base,vi x.bj,vi x.Z,vi x.to]:=rfl
@[simp]theorem ZdR x:Y1 (Wr x) 0=J (.sl<|x.nodes.map Yi):=rfl
@[simp]theorem ZdS x:Y1 (Wr x) 1=J (.sl<|x.E.map vi):=rfl
@[simp]theorem ZdT x:Y1 (Wr x) 2=J (.sl<|x.dh.map vi):=rfl
@[simp]theorem ZdU x:Y1 (Wr x) 3=J (vu x.base):=rfl
@[simp]theorem ZdV x:Y1 (Wr x) 4=J (vi x.bj):=rfl
@[simp]theorem ZdW x:Y1 (Wr x) 5=J (vi x.Z):=rfl
@[simp]theorem ZdX x:Y1 (Wr x) 6=J (vi x.to):=rfl
structure Rw.ok (x:Rw):Prop where
 M:∀n∈x.nodes,∀p∈n.M,Y7 p
 data:∀n∈x.nodes,∀p∈n.data,ZB p
 E:∀p∈x.E,Y7 p
 dh:∀p∈x.dh,Y7 p
 base:ZB x.base
 bj:Y7 x.bj
 Z:Y7 x.Z
 to:Y7 x.to
def VX(x:Rw)(i:Nat):Int:=if I x.dh=0 then i else(x.dh[i%I x.dh]?).getD 0
def V1(x:Rw)(i:Nat)(cycle:Bool):Int:=if pick (VX x i) 3=2/\cycle=xw then 1 else pick (VX x i) 3
def Wx(x:Rw)(i:Nat):Bool:=decide (pick ((VX x i).tdiv 3) 2=1)
def SL x i cycle:V1 x i cycle=0\/V1 x i cycle=1\/(V1 x i cycle=2/\cycle=xk):=by
 have:=Uh (c:=VX x i) (n:=3) Z0;unfold V1;grind
def Z3k{x:Rw}(hx:x.ok){i:Nat}(C:i<=1000){cycle:Bool}:VC xP 39 xw [Wr x,vi i,.bool cycle]<|.aq [vi<|V1 x i cycle,.bool<|Wx x i]:=by
 refine ZT Z1t follows Z2 c39 rfl ?_;have t:Y7<|VX x i:=by
  unfold VX;split;exact⟨Z0,Z0⟩;rename_i h;have:i%I x.dh<I x.dh:=Zks _ Z0;rw[Zh8 this];exact hx.dh _<|Zhx this
 have g:=LA (c:=VX x i) (n:=3) t Z0;have p:Y7<|(VX x i).tdiv 3:=by
  obtain⟨B,f⟩:=t;unfold Y7;rw[Int.tdiv_eq_ediv];have:Int.sign 3=1:=rfl;split<;>omega
 have d:=ZA _ p.1 p.2;have a:=LA (c:=(VX x i).tdiv 3) (n:=2) p Z0;have fin:∀(b:Bool),(decide (pick ((VX x i).tdiv 3) 2=1)=b)->Wx x i=b:=λb h=>h;by_cases q:I x.dh=0;have k:VX x i=i:=by simp[VX,q]
 rw[k]at g a d;rw[ZkD Z0]at a d;simp[Co,q];refine Zz g Z1 ?_;by_cases f:pick (i:Int) 3=2;cases cycle;simp[f,d];refine Zz a Z1 ?_;simp[V1,Wx,k,f];simp[f,d];refine Zz a Z1 ?_;simp[V1,Wx,k,f];simp[f,d];refine Zz a Z1 ?_;simp[V1,Wx,k,f];have l:i%I x.dh<I x.dh:=Zks _ Z0;have w:x.dh[i%I x.dh]?=J x.dh[i%I x.dh]:=Zh8 l;have k:VX x i=x.dh[i%I x.dh]:=by simp[VX,q,w]
 have z:(i:Int).tmod (I x.dh:Int)=((i%I x.dh:Nat):Int):=by
  rw[Zia Z0];rfl
 rw[k]at g a d;have u:0<I x.dh:=Z0;have r:x.dh≠[]:=λe=>Zgd;have A:((i:Int) % (I x.dh:Int))=((i%I x.dh:Nat):Int):=rfl;generalize o:x.dh[i%I x.dh]=c at*;generalize y:i%I x.dh=j at*;simp[Co,u,r,z,l,o];refine Zz g Z1 ?_;by_cases f:pick c 3=2;cases cycle;simp[f,d];refine Zz a Z1 ?_;simp[V1,Wx,k,f];simp[f,d];refine Zz a Z1 ?_;simp[V1,Wx,k,f];simp[f,d];refine Zz a Z1 ?_;simp[V1,Wx,k,f]
def ZL(n:Nd):Nat:=1+I n.M+I n.data
structure St8 where
 n1:Nat
 n2:Nat
 n3:Nat
 n4:Nat
 wt:Nat
 az:List Pl
 ah:List Pl
def X9(x:Rw)(cycle:Bool)(sz:Nat)(i:Nat)(s:St8):St8:=
 let k:=V1 x i cycle;let a:=Wx x i;let o:Bool:=decide (0<k)&&cycle
 {n1:=if k=1 then s.n1+sz else s.n1
  n2:=if k=0 then s.n2+sz else s.n2
  n3:=if o&& !a then s.n3+sz else s.n3
  n4:=if o&&a then s.n4+sz else s.n4
  wt:=if k=2 then s.wt+sz else s.wt
  az:=s.az++[if k=0 then⟨2,s.n2⟩else if k=1 then⟨1,s.n1⟩else⟨0,0⟩]
  ah:=s.ah++[if o then(if a then⟨4,s.n4⟩else⟨3,s.n3⟩)else⟨0,0⟩]}
def Y3(x:Rw)(cycle:Bool)(g:Gr):Nat->St8
 |0=>⟨0,0,0,0,0,[],[]⟩
 |i+1=>X9 x cycle (ZL<|(g.nodes[i]?).getD default) i<|Y3 x cycle g i
def ZaE{x cycle sz i}(h:sz<=9)s(d:s.n1+s.n2+s.wt<=9*i)(h2:s.n3+s.n4<=9*i)(f:I s.az=i)(g:I s.ah=i):
  (X9 x cycle sz i s).n1+(X9 x cycle sz i s).n2+(X9 x cycle sz i s).wt<=9*(i+1)/\(X9 x cycle sz i s).n3+(X9 x cycle sz i s).n4<=9*(i+1)/\(X9 x cycle sz i s).az.length=i+1/\(X9 x cycle sz i s).ah.length=i+1:=by
 obtain a|a|⟨a,rfl⟩:=SL x i cycle;grind [X9];grind [Wx,X9];grind [Wx,X9]
def JQ{x cycle g}(a:∀n∈g.nodes,ZL n<=9):∀i,i<=I g.nodes->(Y3 x cycle g i).n1+(Y3 x cycle g i).n2+(Y3 x cycle g i).wt<=9*i/\(Y3 x cycle g i).n3+(Y3 x cycle g i).n4<=9*i/\(Y3 x cycle g i).az.length=i/\(Y3 x cycle g i).ah.length=i
 |0,_=>by simp[Y3]
 |i+1,k=>by
  let⟨d,f,h,j⟩:=JQ (x:=x) (cycle:=cycle) a i Z0;simp[Y3,Zh8 (Z0:i<I g.nodes)];simp_all[ZaE]
structure Bt where
 h:Hp
 g:Gr
 az:List Pl
 ah:List Pl
def XC(b:Bt):List V:=[vu b.h.base,vi b.h.cap,vi b.h.to,.bool b.h.aa,vi b.h.Z,.sl<|b.h.H.map vu,.sl<|b.h.ae.map vu,.sl<|b.h.ah.map vu,.sl<|b.h.aj.map vu,.sl<|b.h.E.map vu,.sl<|b.g.nodes.map Yi,.sl<|b.g.E.map vi,.sl<|b.az.map Wa,.sl<|b.ah.map Wa]
def Xj(b:Bt):V:=.agg [vu b.h.base,vi b.h.cap,vi b.h.to,.bool b.h.aa,vi b.h.Z,.sl<|b.h.H.map vu,.sl<|b.h.ae.map vu,.sl<|b.h.ah.map vu,.sl<|b.h.aj.map vu,.sl<|b.h.E.map vu,.sl<|b.g.nodes.map Yi,.sl<|b.g.E.map vi,.sl<|b.az.map Wa,.sl<|b.ah.map Wa]
def Ym(x:Rw)(cycle:Bool):Bt:=
 let g:=ZY x.nodes x.E;let s:=Y3 x cycle g<|I g.nodes;let cap:Int:=max ((s.n1:Int)+s.n2+s.wt) ((s.n3:Int)+s.n4)+pick x.bj 12
 ⟨⟨1+x.base% (9223372036854775808-2*cap),cap,pick x.to 2,cycle,if cycle=xk/\0<s.n1 then pick x.Z s.n1 else s.n1,List.replicate s.n1 0,List.replicate s.n2 0,List.replicate s.n3 0,List.replicate s.n4 0,[]⟩,g,s.az,s.ah⟩
def PN{x:Rw}(hx:x.ok){cycle:Bool}:VC xP 14 xw [Wr x,.bool cycle]<|Xj<|Ym x cycle:=by
 refine ZT Z1e follows Z2 c14 rfl ?_;simp[Nb];refine Zz (Z0L hx.M hx.E) Z1 ?_;obtain⟨M,N,B⟩:=qb x.nodes x.E;have O:=L8 x.nodes x.E;unfold Ym;generalize ZY x.nodes x.E=g at*;have l:∀n∈g.nodes,ZL n<=9:=λn d=>by have:=B n d;unfold ZL;omega
 simp
 refine VF 7 (I g.nodes) (λi=>[(4,.m [.int .u64 0,.int .i64 0,.int .i64 0,.bool xw,.int .i64 0,.sl [],.sl [],.sl [],.sl [],.sl [],.sl<|g.nodes.map Yi,.sl<|g.E.map vi,.sl<|(Y3 x cycle g i).az.map Wa,.sl<|(Y3 x cycle g i).ah.map Wa]),
  (5,.m [vi 0,vi (Y3 x cycle g i).n1,vi (Y3 x cycle g i).n2,vi (Y3 x cycle g i).n3,vi (Y3 x cycle g i).n4]),(6,.v<|vi (Y3 x cycle g i).wt),(7,.v<|vi i)]) (λ_=>True) (by simp[Y3]) (λi=>Z1) trivial ?_
 rintro i R-;have o:=ZA ((i:Int)+1) Z0 Z0;obtain⟨s1,s2,s3,s4⟩:=JQ (x:=x) (cycle:=cycle) l i R;by_cases h:i<I g.nodes;have d:g.nodes[i]?=J g.nodes[i]:=Zh8 h;have p:=l _<|Zhx h;simp only[Y3,d,ZhE];generalize Y3 x cycle g i=s at*;generalize g.nodes[i]=n at*;have P:=Z3k hx (i:=i) Z0 (cycle:=cycle);have C:=SL x i cycle;have w1:=ZA (1+(I n.M:Int)) (by unfold ZL at p;omega) (by unfold ZL at p;omega);have w2:=ZA (1+(I n.M:Int)+I n.data) (by unfold ZL at p;omega) (by unfold ZL at p;omega);have f:(1+(I n.M:Int)+I n.data)=(ZL n:Nat):=by unfold ZL;omega
 rw[f]at w2;simp[h];refine Zz P Z1 ?_;generalize K:ZL n=sz at*;unfold X9;generalize Wx x i=H at*;generalize V1 x i cycle=k at*;have t:=ZA ((s.n1:Int)+sz) Z0 Z0;have u:=ZA ((s.n2:Int)+sz) Z0 Z0;have w:=ZA ((s.n3:Int)+sz) Z0 Z0;have y:=ZA ((s.n4:Int)+sz) Z0 Z0;have z:=ZA ((s.wt:Int)+sz) Z0 Z0;have q:I s.az+1<=Yc:=Zgw;have r:I s.ah+1<=Yc:=Zgw;obtain rfl|rfl|⟨rfl,rfl⟩:=C;cases cycle<;>simp[d,Yp d,w1,f,w2,Yb,US,setCells,ZA,t,u,w,y,z,q,r,Wa,o];cases cycle;simp[d,Yp d,w1,f,w2,Yb,US,setCells,ZA,t,u,w,y,z,q,r,Wa,o];cases H<;>simp[d,Yp d,w1,f,w2,Yb,US,setCells,ZA,t,u,w,y,z,q,r,Wa,o];cases H<;>simp[d,Yp d,w1,f,w2,Yb,US,setCells,ZA,t,u,w,y,z,q,r,Wa,o];have:i=I g.nodes:=Z0;subst this;generalize T:Y3 x cycle g (I g.nodes)=s at*;have G:=LA (c:=x.to) (n:=2) hx.to Z0;have F:=LA (c:=x.bj) (n:=12) hx.bj Z0;have W:=Uh (c:=x.bj) (n:=12) Z0;simp;refine Zz G Z1 ?_;have X:s.n1<=Yc:=Zgw;have Y:s.n2<=Yc:=Zgw;have Z:s.n3<=Yc:=Zgw;have q4:s.n4<=Yc:=Zgw;simp[Yb,X,Y,Z,q4];refine Zz F Z1 ?_;have w1:=ZA ((s.n1:Int)+s.n2) Z0 Z0;have w2:=ZA ((s.n1:Int)+s.n2+s.wt) Z0 Z0;have w3:=ZA ((s.n3:Int)+s.n4) Z0 Z0;have j:(if(s.n1:Int)+s.n2+s.wt< (s.n3:Int)+s.n4 then(s.n3:Int)+s.n4 else(s.n1:Int)+s.n2+s.wt)=max ((s.n1:Int)+s.n2+s.wt) ((s.n3:Int)+s.n4):=by split<;>omega
 obtain⟨cap,a⟩:∃cap:Int,max ((s.n1:Int)+s.n2+s.wt) ((s.n3:Int)+s.n4)+pick x.bj 12=cap:=⟨_,rfl⟩;have Q:0<=cap/\cap<=200:=Z0;have w4:=ZA cap Z0 Z0;have w5:=ZP cap Z0 Z0;have w6:=ZP (2*cap) Z0 Z0;have w7:=ZP (9223372036854775808-2*cap) Z0 Z0;obtain⟨L,b2⟩:=hx.base;have w8:x.base.tmod (9223372036854775808-2*cap)=x.base% (9223372036854775808-2*cap):=Zia L;have h1:=Zk1 x.base (Z0:(9223372036854775808-2*cap)≠0);have h2:=ZjH x.base (Z0:0< (9223372036854775808-2*cap));have w9:=ZP (1+x.base% (9223372036854775808-2*cap)) Z0 Z0;have D:¬((9223372036854775808-2*cap)=0):=Z0;simp[Yb,w1,w2,w3,j,a,w4,w5,w6,w7,w8,w9,D];cases cycle;simp[Xj,a];by_cases A:0<s.n1;have S:=LA (c:=x.Z) (n:=(s.n1:Int)) hx.Z Z0;simp[A];refine Zz S Z1 ?_;simp[Xj,a,A,Yb];simp[Xj,a,A]
end Vm
namespace Vm
open Go Go.Proofs
@[simp]theorem ZfB b:VD (Xj b) 14=J (Xj b):=rfl
@[simp]theorem ZcP b:(Xj b).cells=XC b:=rfl
@[simp]theorem Zdg b i:Y1 (Xj b) i=(XC b)[i]?.bind YV:=rfl
def Z7M s p:0<=(UD s p).1/\(UD s p).1<100000000:=by
 grind [UD,YN]
def Z2j l(g:l.an)p a:0<=(ZU l p a).1/\(ZU l p a).1<=9223372036854775807:=by
 unfold ZU;split;simp;rename_i f;have d:ZD l=xk:=Zgs;split;simp;split;simp;have:=WK d p;omega
def Z8w{a}:0<=(Xz a).1/\(Xz a).1<18446744073709551616:=by
 unfold Xz;split;simp;omega
def YI(h:Hp)(p:Pl):Int:=if p.part=0 then 0 else(Xz (ZU (Zv h) p.part p.Y).1).1
theorem Dd h p:ZB<|YI h p:=by
 unfold YI;split;exact⟨Z0,Z0⟩;exact Z8w
def LO{b:Bt}(f:(Zv b.h).an){p:Pl}:VC xP 42 xw [Xj b,Wa p]<|vu<|YI b.h p:=by
 refine ZT Z1x follows Z2 c42 rfl ?_;by_cases d:p.part=0;simp[Cq,XC,YI,d];have g:=Z2j (Zv b.h) f p.part p.Y;simp[Cq,XC,d];refine Zz (Z93 (h:=b.h)) Zh1 ?_;simp;refine Zz (Z91 f (part:=p.part) (at_:=p.Y)) Z1 ?_;simp;refine Zz (Z95 (a:=(ZU (Zv b.h) p.part p.Y).1) ⟨g.1,Z0⟩) Z1 ?_;simp[YI,d]
def Vl(b:Bt)(p:Pl)(to tw:Int):Int:=
 if to<0 then 0 else if 2<p.part then YI b.h<|(b.ah[to.toNat]?).getD ⟨0,0⟩
 else if p.part=1/\b.h.Z<=p.Y/\(((b.az[to.toNat]?).getD ⟨0,0⟩).part=0\/0< ((b.ah[to.toNat]?).getD ⟨0,0⟩).part/\tw%2=0)then YI b.h ((b.ah[to.toNat]?).getD ⟨0,0⟩)
 else YI b.h<|(b.az[to.toNat]?).getD ⟨0,0⟩
theorem Zaq b p to tw:ZB<|Vl b p to tw:=by
 unfold Vl;split;exact⟨Z0,Z0⟩;grind [Dd]
def PZ(t:Int):t.tmod 2=0↔t%2=0:=by
 grind
def Zar{b:Bt}(l:(Zv b.h).an){p:Pl}{to tw:Int}(r:to<I b.az)(h2:to<I b.ah):VC xP 55 xw [Xj b,Wa p,vi to,vi tw]<|vu<|Vl b p to tw:=by
 refine ZT Z1K follows Z2 c55 rfl ?_;by_cases o:to<0;simp[Sd,XC,Vl,o];obtain⟨t,rfl⟩:=Zhp (Z0:0<=to);have g1:b.az[t]?=J (b.az[t]'Z0):=Zh8 Z0;have g2:b.ah[t]?=J (b.ah[t]'Z0):=Zh8 Z0;generalize b.az[t]'Z0=x at*;generalize b.ah[t]'Z0=y at*;unfold Vl;simp only[Zhm,g1,g2,ZhE,Zhg o];by_cases a:2<p.part;simp[Sd,XC,a,g2];refine Zz (LO l (p:=y)) (by simp[Xj]) ?_;simp;have k1:=LO l (p:=x);have q:=LO l (p:=y);by_cases f:p.part=1;by_cases g:b.h.Z<=p.Y;by_cases j:x.part=0;simp[Sd,XC,a,f,g,j,g1,g2];refine Zz q (by simp[Xj]) ?_;simp;by_cases n:0<y.part;by_cases k:tw%2=0;have d:=(PZ tw).2 k;simp[Sd,XC,a,f,g,j,n,k,d,g1,g2];refine Zz q (by simp[Xj]) ?_;simp;have d:=mt (PZ tw).1 k;simp[Sd,XC,a,f,g,j,n,k,d,g1,g2];refine Zz k1 (by simp[Xj]) ?_;simp;simp[Sd,XC,a,f,g,j,n,g1,g2];refine Zz k1 (by simp[Xj]) ?_;simp;simp[Sd,XC,a,f,g,g1,g2];refine Zz k1 (by simp[Xj]) ?_;simp;simp[Sd,XC,a,f,g1,g2];refine Zz k1 (by simp[Xj]) ?_;simp
@[simp]theorem Z8E x y:V.put (vu x) 0 [vu y]=vu y:=rfl
def Dv{l pre:List Int}{m}(h:I pre=m)(a:m<I l)z:(pre++l.drop m).set m z=pre++[z]++l.drop (m+1):=by
 subst h;rw[Zlb _ _ Z0,Zj6,Zi6 a,ZhW];rfl
def XX(b:Bt)(p:Pl)(a:Nat)(d:List Int)(tw:Int):List Int:=(List.range<|I d).map λi=>Vl b ⟨p.part,((a+1+i:Nat):Int)⟩ ((d[i]?).getD 0)<|IntKind.i64.wrap<|tw+i
def S5(b:Bt)(p:Pl)(a:Nat)(n:Nd)(tw:Int):List Int:=
 let l:=Zx b.h p.part
 l.take a++[(UD ((I n.M:Int)+I n.data)<|I n.M).1]++XX b p a n.M tw++n.data++l.drop (a+ZL n)
def Wj(b:Bt)(p:Pl)(n:Nd)(tw:Int):Bt:= {b with h:=YB b.h p.part (S5 b p p.Y.toNat n tw)}
def Is{b:Bt}(hb:(Zv b.h).an){p:Pl}{n:Nd}{tw:Int}{a:Nat}(ha:p.Y=a)(a4:I (Zx b.h p.part)<=1000000)(d:a+ZL n<=I (Zx b.h p.part))
  (h1:∀q∈n.M,q<I b.az/\q<I b.ah):VC xP 41 xw [Xj b,Wa p,Yi n,vi tw]<|Xj<|Wj b p n tw:=by
 refine ZT Z1w follows Z2 c41 rfl ?_;have O:I (Zx b.h p.part)<=Yc:=Zgw;have w1:=ZA ((I n.M:Int)+I n.data) ZgG ZgG;unfold Wj;rw[show p.Y.toNat=a by omega];simp[Ns,XC];refine Zz (Tn (h:=b.h) (n:=p.part)) Zh1 ?_;simp[O,w1];refine Zz (Z94 (s:=(I n.M:Int)+I n.data) (p:=I n.M)) Z1 ?_;have Q:a< I (Zx b.h p.part):=ZgG;simp[ha,Q];generalize Y:Zx b.h p.part=l at*;generalize X:(UD ((I n.M:Int)+I n.data)<|I n.M).1=A at*;have D:(l.map vu).set a (vu A)=((l.take a++[A])++l.drop (a+1)).map vu:=by
  rw[<-ZjW];congr 1;have:=Dv (l:=l) (pre:=l.take a) (m:=a) Zge Q A;rw[Zjk]at this;exact this
 simp only[Z8E,D];have H:=ZA ((a:Int)+1) Z0 Z0;have a5:I n.M<=I l:=ZgG;have R:I (XX b p a n.M tw)=I n.M:=by simp[XX]
 refine VF 11 (I n.M) (λk=>[(8,.v<|.sl<|((l.take a++[A]++(XX b p a n.M tw).take k)++l.drop (a+1+k)).map vu),(11,.v<|vi k)]) (λ_=>True) Z1 (λi=>Z1) trivial ?_;rintro k hk-;have L:=ZA ((k:Int)+1) Z0 Z0;have a0:=ZA ((a:Int)+1+k) Z0 Z0;by_cases o:k<I n.M;have M:n.M[k]?=J n.M[k]:=Zh8 o;obtain⟨q1,q2⟩:=h1 _<|Zhx o;have t:=Zar hb (p:=⟨p.part,((a+1+k:Nat):Int)⟩) (to:=n.M[k]) (tw:=IntKind.i64.wrap<|tw+k) q1 q2;have Z:(XX b p a n.M tw)[k]?=J (Vl b ⟨p.part,((a+1+k:Nat):Int)⟩ n.M[k]<|IntKind.i64.wrap<|tw+k):=by
  simp[XX,o]
 generalize n.M[k]=q at*;generalize Vl b ⟨p.part,((a+1+k:Nat):Int)⟩ q (IntKind.i64.wrap<|tw+k)=z at*;have G:(XX b p a n.M tw).take (k+1)=(XX b p a n.M tw).take k++[z]:=by rw[Zi3,Z];rfl
 have r:I (l.take a++[A]++(XX b p a n.M tw).take k)=a+1+k:=by simp[R];omega
 have P:a+1+k<I l:=ZgG;have F:=Dv (l:=l) r P z;generalize C:l.take a++[A]++(XX b p a n.M tw).take k=pre at*;have g:∃x,((pre++l.drop (a+1+k)).map vu)[a+1+k]?=J (vu x):=by
  refine⟨l[a+1+k],?_⟩;rw[Zhz,Zhy Z0,r,Zj6,Zi6 P];rfl
 have f:((pre++l.drop (a+1+k)).map vu).set (a+1+k) (vu z)=(pre++[z]++l.drop (a+1+(k+1))).map vu:=by
  rw[<-ZjW,F];rfl
 obtain⟨m,B⟩:∃m:Nat,a+1+k=m:=⟨_,rfl⟩;have u:(a:Int)+1+k=m:=Z0;have w:=ZA (m:Int) Z0 Z0;rw[show a+1+(k+1)=a+1+k+1 by omega]at f⊢;rw[B]at g f t⊢;generalize W:(pre++l.drop m).map vu=LL at g f⊢;rw[G];obtain⟨y,hy⟩:=g;simp[o,M,Yp M,H,a0,u,w];refine Zz t (by simp[Xj]) ?_;simp[hy,f,L,o,H,u,w];rw[<-C];simp;have:k=I n.M:=Z0;subst this;rw[show(XX b p a n.M tw).take (I n.M)=XX b p a n.M tw from Zib Z0];have a1:=ZA ((a:Int)+1+I n.M) Z0 Z0;have a2:∀j:Nat,j<=1000+I n.data->IntKind.i64.wrap ((a:Int)+1+I n.M+j)=(a:Int)+1+I n.M+j:=λj hj=>ZA _ Z0 ZgG;generalize S:l.take a++[A]++XX b p a n.M tw=sp at*;have T:I sp=a+1+I n.M:=by rw[<-S];simp[R];omega
 simp;refine VF 13 (I n.data) (λk=>[(8,.v<|.sl<|((sp++n.data.take k)++l.drop (a+1+I n.M+k)).map vu),(13,.v<|vi k)]) (λ_=>True) Z1 (λi=>Z1) trivial ?_;rintro k hk-;have L:=ZA ((k:Int)+1) Z0 ZgG;by_cases o:k<I n.data;have M:n.data[k]?=J n.data[k]:=Zh8 o;generalize n.data[k]=z at*;have G:n.data.take (k+1)=n.data.take k++[z]:=by rw[Zi3,M];rfl
 have r:I (sp++n.data.take k)=a+1+I n.M+k:=by simp[T];omega
 have P:a+1+I n.M+k<I l:=ZgG;have F:=Dv (l:=l) r P z;generalize C:sp++n.data.take k=pre at*;have g:∃x,((pre++l.drop (a+1+I n.M+k)).map vu)[a+1+I n.M+k]?=J (vu x):=by
  refine⟨l[a+1+I n.M+k],?_⟩;rw[Zhz,Zhy Z0,r,Zj6,Zi6 P];rfl
 have f:((pre++l.drop (a+1+I n.M+k)).map vu).set (a+1+I n.M+k) (vu z)=(pre++[z]++l.drop (a+1+I n.M+k+1)).map vu:=by
  rw[<-ZjW,F]
 rw[show a+1+I n.M+(k+1)=a+1+I n.M+k+1 by omega];have a3:=a2 k Z0;obtain⟨m,B⟩:∃m:Nat,a+1+I n.M+k=m:=⟨_,rfl⟩;have u:(a:Int)+1+I n.M+k=m:=Z0;have w:=ZA (m:Int) Z0 Z0;rw[B]at g f⊢;generalize W:(pre++l.drop m).map vu=LL at g f⊢;rw[G];obtain⟨y,hy⟩:=g;simp[o,M,Yp M,H,a1,a3,u,w,hy,f,L];rw[<-C];simp;have:k=I n.data:=Z0;subst this;rw[show n.data.take (I n.data)=n.data from Ziy];have K:=Fj (h:=b.h) (n:=p.part) (l:=sp++n.data++l.drop (a+1+I n.M+I n.data));have N:S5 b p a n tw=sp++n.data++l.drop (a+1+I n.M+I n.data):=by
  unfold S5;rw[Y,X];dsimp only;rw[S,show a+ZL n=a+1+I n.M+(I n.data) by unfold ZL;omega]
 rw[N];generalize sp++n.data++l.drop (a+1+I n.M+I n.data)=fin at*;simp;refine Zz K Zh1 ?_;simp[Xj]
end Vm
namespace Vm
open Go Go.Proofs
def QC(h:Hp):Prop:=(∀k,∀w∈Zx h k,ZB w)/\∀w∈h.E,ZB w
structure BOk (b:Bt):Prop where
 be:(Zv b.h).an
 hl:I b.az=I b.g.nodes
 ol:I b.ah=I b.g.nodes
 nn:I b.g.nodes<=10
 ptr:∀n∈b.g.nodes,∀q∈n.M,q< (I b.g.nodes:Int)
 uv:∀n∈b.g.nodes,∀q∈n.data,ZB q
 vj:∀q∈b.g.E,q< (I b.g.nodes:Int)
 rl:I b.g.E<=5
 az:∀(i:Nat) (p:Pl) (n:Nd),b.az[i]?=J p->b.g.nodes[i]?=J n->p=⟨0,0⟩\/∃a:Nat,p.Y=a/\(p.part=1\/p.part=2)/\a+ZL n<=I (Zx b.h p.part)
 ah:∀(i:Nat) (p:Pl) (n:Nd),b.ah[i]?=J p->b.g.nodes[i]?=J n->p=⟨0,0⟩\/∃a:Nat,p.Y=a/\(p.part=3\/p.part=4)/\a+ZL n<=I (Zx b.h p.part)
 len:∀k,I (Zx b.h k)<=1000
 words:QC b.h
theorem qP{h h'}(a:Zv h'=Zv h)k:I (Zx h' k)=I (Zx h k):=by
 grind [Zv,Zx]
def BOk.keep{b}(hb:BOk b){h'}(hl:Zv h'=Zv b.h)(hw:QC h'):BOk {b with h:=h'} where
 be:=by show(Zv h').an;rw[hl];exact hb.be
 hl:=hb.hl
 ol:=hb.ol
 nn:=hb.nn
 ptr:=hb.ptr
 uv:=hb.uv
 vj:=hb.vj
 rl:=hb.rl
 az:=λi p n hp hn=>by
  obtain h|⟨a,h1,h2,h3⟩:=hb.az i p n hp hn;grind;grind [qP]
 ah:=λi p n hp hn=>by
  obtain h|⟨a,h1,h2,h3⟩:=hb.ah i p n hp hn;grind;grind [qP]
 len:=λk=>by show I (Zx h' k)<=1000;rw[qP hl];exact hb.len k
 words:=hw
def zp{h p l}(d:I l=I (Zx h p)):Zv (YB h p l)=Zv h:=by
 unfold YB Zx at*;split;simp_all[Zv];split;simp_all[Zv];rename_i a;split;simp_all[Zv];simp_all[Zv]
def Zbr{h p l}(a:QC h)(k:∀w∈l,ZB w):QC<|YB h p l:=by
 have d:=a.1 1;have f:=a.1 2;have g:=a.1 3;have j:=a.1 4;grind [QC,Zx,YB]
def Z5N{b p a n tw}(d:a+ZL n<=I (Zx b.h p.part)):I (S5 b p a n tw)=I (Zx b.h p.part):=by
 grind [S5,ZL,XX]
def Z5O{b p a n tw}(f:QC b.h)(g:∀q∈n.data,ZB q):∀w∈S5 b p a n tw,ZB w:=by
 intro w d;unfold S5 at d;simp only[ZhC,Zic]at d;obtain(((d|d)|d)|d)|d:=d;exact f.1 _ w<|Zie d;subst d;have:=Z7M ((I n.M:Int)+I n.data)<|I n.M;exact⟨this.1,Z0⟩;simp[XX]at d;grind [Zaq];grind;exact f.1 _ w<|Zjr d
def Us(x:Rw)(b:Bt)(i:Nat)(n:Nd)(p:Pl):Bt:=if 0<p.part then Wj b p n (IntKind.i64.wrap<|x.bj+i)else b
def Uu(b:Bt)(n:Nd)(p o:Pl):Bt:=if 0<o.part/\p.part=0 then Wj b o n 0 else b
def U8(b:Bt)(p o:Pl):Bt:=if 0<o.part/\0<p.part then {b with h:=YB b.h o.part ((Zx b.h o.part).set o.Y.toNat<|YI b.h p)}else b
def J1(x:Rw)(b:Bt)(i:Nat):Bt:=
 let n:=(b.g.nodes[i]?).getD default;let p:=(b.az[i]?).getD ⟨0,0⟩;let o:=(b.ah[i]?).getD ⟨0,0⟩
 U8 (Uu (Us x b i n p) n p o) p o
structure Like (b b':Bt):Prop where
 g:b'.g=b.g
 az:b'.az=b.az
 ah:b'.ah=b.ah
 be:Zv b'.h=Zv b.h
 words:QC b'.h
 Z:b'.h.Z=b.h.Z
 aa:b'.h.aa=b.h.aa
def Like.ok{b a}(o:Like b a)(n:BOk b):BOk a:=by
 let⟨q,p,d,f⟩:=a;obtain⟨g,h,j,k,l,_⟩:=o;subst g h j;exact n.keep k l
theorem Like.trans{a b c}(h:Like a b)(k:Like b c):Like a c:=⟨k.g.trans h.g,k.az.trans h.az,k.ah.trans h.ah,k.be.trans h.be,k.words,k.Z.trans h.Z,k.aa.trans h.aa⟩
def Z0g h p l:(YB h p l).Z=h.Z/\(YB h p l).aa=h.aa:=by
 unfold YB;grind
def IC{b}(a:BOk b){p l}(d:I l=I (Zx b.h p))(f:∀w∈l,ZB w):Like b {b with h:=YB b.h p l}:=
 ⟨rfl,rfl,rfl,zp d,Zbr a.words f,(Z0g _ _ _).1,(Z0g _ _ _).2⟩
def yT{b}(a:BOk b):Like b b:=⟨rfl,rfl,rfl,rfl,a.words,rfl,rfl⟩
def IB{b}(d:BOk b){p:Pl}{n tw}{a:Nat}(f:p.Y=a)(g:a+ZL n<=I (Zx b.h p.part))(j:∀q∈n.data,ZB q):Like b<|Wj b p n tw:=by
 unfold Wj;rw[f];exact IC d (Z5N g)<|Z5O d.words j
def BB{x b}(d:BOk b){i n p}(k:b.g.nodes[i]?=J n)(l:b.az[i]?=J p):Like b<|Us x b i n p:=by
 unfold Us;split;rename_i f;obtain rfl|⟨a,h,o,j⟩:=d.az i p n l k;simp at f;exact IB d h j<|d.uv n Zgc;exact yT d
def BD{b}(d:BOk b){i:Nat}{n p o}(k:b.g.nodes[i]?=J n)(l:b.ah[i]?=J o):Like b<|Uu b n p o:=by
 unfold Uu;split;rename_i f;obtain rfl|⟨a,h,q,j⟩:=d.ah i o n l k;simp at f;exact IB d h j<|d.uv n Zgc;exact yT d
def Z5T{b}(a:BOk b){p o}:Like b<|U8 b p o:=by
 unfold U8;split;refine IC a Z1 λw d=> ?_;obtain h|rfl:=ZiB d;exact a.words.1 _ w h;exact Dd _ _;exact yT a
def Z5U{x b}(a:BOk b){i}(f:i<I b.g.nodes):Like b<|J1 x b i:=by
 have h:b.g.nodes[i]?=J b.g.nodes[i]:=Z1;have l:b.az[i]?=J (b.az[i]'(by rw[a.hl];exact f)):=Z1;have k:b.ah[i]?=J (b.ah[i]'(by rw[a.ol];exact f)):=Z1;unfold J1;simp[h,l,k];have d:=BB (x:=x) a h l;have j:=BD (p:=b.az[i]'(by rw[a.hl];exact f)) (d.ok a) (by rw[d.g];exact h) (by rw[d.ah];exact k);exact(d.trans j).trans (Z5T<|j.ok<|d.ok a)
def Ut(x:Rw)(b:Bt):Nat->Bt
 |0=>b
 |i+1=>J1 x (Ut x b i) i
def L5{x b}(a:BOk b):∀i,i<=I b.g.nodes->Like b (Ut x b i)
 |0,_=>yT a
 |i+1,d=>by
  have h:=L5 (x:=x) a i Z0;exact h.trans<|Z5U (h.ok a) (by rw[h.g];omega)
def Yu(x:Rw)(b:Bt):Hp:=
 let a:=Ut x b<|I b.g.nodes
 {a.h with E:=b.g.E.map λr=>if 0<=r then YI a.h ((b.az[r.toNat]?).getD ⟨0,0⟩)else 0}
def GC{x:Rw}(hx:x.ok){b:Bt}(H:BOk b):VC xP 16 xw [Xj b,Wr x]<|ZM<|Yu x b:=by
 refine ZT Z1g follows Z2 c16 rfl ?_;simp[Nf,XC];refine VF 5 (I b.g.nodes) (λi=>[(2,.m<|XC<|Ut x b i),(5,.v<|vi i)]) (λ_=>True) (by simp[Ut,XC]) (λi=>Z1) trivial ?_;rintro i hi-;have F:=L5 (x:=x) H i hi;have L:=ZA ((i:Int)+1) (by have:=H.nn;omega) (by have:=H.nn;omega);by_cases h:i<I b.g.nodes;have f:=F.ok H;simp only[Ut];have z:i< (Ut x b i).g.nodes.length:=by rw[F.g];exact h
 generalize a4:Ut x b i=c at*;have t:c.g.nodes[i]?=J c.g.nodes[i]:=Zh8 z;have y:c.az[i]?=J (c.az[i]'(by rw[f.hl];exact z)):=Zh8 _;have w:c.ah[i]?=J (c.ah[i]'(by rw[f.ol];exact z)):=Zh8 _;unfold J1;simp only[t,y,w,ZhE];generalize c.g.nodes[i]=n at*;generalize c.az[i]'(by rw[f.hl];exact z)=p at*;generalize c.ah[i]'(by rw[f.ol];exact z)=o at*;have W:∀q∈n.M,q< (I c.az:Int)/\q< (I c.ah:Int):=λq X=>by
  have:=f.ptr n (Zhh t) q X;rw[f.hl,f.ol];exact⟨this,this⟩
 have kA:=BB (x:=x) f t y;have bA:=kA.ok f;have kO:=BD (p:=p) bA (by rw[kA.g];exact t) (by rw[kA.ah];exact w);have bO:=kO.ok bA;have K:I c.g.nodes=I b.g.nodes:=by rw[F.g]
 have a6:c.g=b.g:=F.g;have S:0<p.part->VC xP 41 xw [Xj c,Wa p,Yi n,vi<|IntKind.i64.wrap<|x.bj+i] (Xj<|Wj c p n<|IntKind.i64.wrap<|x.bj+i):=λP=>by
  obtain rfl|⟨a,M,h2,N⟩:=f.az i p n y t;simp at P;exact Is f.be M (by have:=f.len p.part;omega) N W
 have O:0<o.part->VC xP 41 xw [Xj c,Wa o,Yi n,vi 0] (Xj<|Wj c o n 0):=λP=>by
  obtain rfl|⟨a,M,h2,N⟩:=f.ah i o n w t;simp at P;exact Is f.be M (by have:=f.len o.part;omega) N W
 have a2:p.part=0\/0<p.part:=by
  obtain rfl|⟨a,M,h2,N⟩:=f.az i p n y t;exact .inl rfl;exact .inr Z0
 have T:o.part=0\/0<o.part:=by
  obtain rfl|⟨a,M,h2,N⟩:=f.ah i o n w t;exact .inl rfl;exact .inr Z0
 obtain u|u:=a2;obtain j|j:=T;simp[XC,h,z,K,t,y,w,Yp t,Yp y,Yp w,Us,Uu,U8,u,j,L];have a7:¬0<p.part:=Z0;have A:Like c<|Wj c o n 0:=by
  have:=BD (p:=p) f t w;unfold Uu at this;rwa[Zhi ⟨j,u⟩]at this
 have a1:=O j;simp[XC,h,z,K,t,y,w,Yp t,Yp y,Yp w,Us,Uu,U8,u,j,L];generalize Wj c o n 0=d at*;obtain⟨d1,d2,d3,d4,d5,_,_⟩:=A;refine Zz a1 (by simp[Xj]) ?_;simp[XC,d1,d2,d3,t,y,w,Yp t,Yp y,Yp w,u,j,L,h];have C:¬p.part=0:=Z0;have A:Like c<|Wj c p n<|IntKind.i64.wrap<|x.bj+i:=by
  have:=BB (x:=x) f t y;unfold Us at this;rwa[Zhi u]at this
 have R:=S u;have Z:=A.ok f;obtain j|j:=T;simp[XC,h,z,K,t,y,w,Yp t,Yp y,Yp w,Us,Uu,U8,u,j,C,L];generalize Wj c p n (IntKind.i64.wrap<|x.bj+i)=d at*;obtain⟨d1,d2,d3,d4,d5,_,_⟩:=A;refine Zz R (by simp[Xj]) ?_;simp[XC,d1,d2,d3,t,y,w,Yp t,Yp y,Yp w,u,j,C,L,h];simp[XC,h,z,K,t,y,w,Yp t,Yp y,Yp w,Us,Uu,U8,u,j,C,L];generalize Wj c p n (IntKind.i64.wrap<|x.bj+i)=d at*;obtain⟨d1,d2,d3,d4,d5,_,_⟩:=A;refine Zz R (by simp[Xj]) ?_;simp[XC,d1,d2,d3,t,y,w,Yp t,Yp y,Yp w,u,j,C,L,h];obtain rfl|⟨a,M,h2,N⟩:=f.ah i o n w t;simp at j;have a5:=Z.len o.part;have B:I (Zx d.h o.part)<=Yc:=Zgw;have a0:a< I (Zx d.h o.part):=by
  have:=qP d4 o.part;unfold ZL at N;omega
 refine Zz (Tn (h:=d.h) (n:=o.part)) Zh1 ?_;simp[B,y];refine Zz (LO (b:=⟨d.h,c.g,c.az,c.ah⟩) Z.be (p:=p)) Z1 ?_;simp[M,a0,w,Yp w];have G:=Fj (h:=d.h) (n:=o.part) (l:=(Zx d.h o.part).set a<|YI d.h p);rw[ZjW]at G;refine Zz G Zh1 ?_;simp[L,h,d1,d2,d3];have:i=I b.g.nodes:=Z0;subst this;have Z:=F.ok H;unfold Yu;generalize Ut x b (I b.g.nodes)=d at*;obtain⟨d1,d2,d3,d4,d5,_,_⟩:=F;simp[XC,d1,d2,d3];refine VF 13 (I b.g.E) (λk=>[(12,.v<|.sl ((b.g.E.take k).map λr=>vu (if 0<=r then YI d.h ((b.az[r.toNat]?).getD ⟨0,0⟩)else 0))),(13,.v<|vi k)]) (λ_=>True) Z1 (λi=>Z1) trivial ?_;rintro k hk-;have a8:=H.rl;have Y:=ZA ((k:Int)+1) Z0 Z0;by_cases D:k<I b.g.E;have Q:b.g.E[k]?=J b.g.E[k]:=Zh8 D;have a9:=H.vj _<|Zhx D;generalize b.g.E[k]=r at*;have a3:b.g.E.take (k+1)=b.g.E.take k++[r]:=by rw[Zi3,Q];rfl
 have B:min k (I b.g.E)+1<=Yc:=Zgw;by_cases P:0<=r;obtain⟨q,rfl⟩:=Zhp P;have X:b.az[q]?=J (b.az[q]'(by rw[H.hl];omega)):=Zh8 _;generalize b.az[q]'(by rw[H.hl];omega)=p at*;simp[D,Q,Yp Q,X,Yp X];refine Zz (LO (b:=⟨d.h,b.g,b.az,b.ah⟩) Z.be (p:=p)) Z1 ?_;simp[Y,B,D];rw[Zi3,Zhz,Q];simp[X];simp[D,Q,Yp Q,P,Y,B,a3,D];have:k=I b.g.E:=Z0;subst this;simp[ZM]
end Vm
namespace Vm
open Go Go.Proofs
def PIn(s:St8)(p:Pl)(sz:Nat):Prop:=p=⟨0,0⟩\/∃a:Nat,p.Y=a/\((p.part=1/\a+sz<=s.n1)\/(p.part=2/\a+sz<=s.n2))
def POl(s:St8)(p:Pl)(sz:Nat):Prop:=p=⟨0,0⟩\/∃a:Nat,p.Y=a/\((p.part=3/\a+sz<=s.n3)\/(p.part=4/\a+sz<=s.n4))
def ZaF{x cycle sz i s}:s.n1<=(X9 x cycle sz i s).n1/\s.n2<=(X9 x cycle sz i s).n2/\s.n3<=(X9 x cycle sz i s).n3/\s.n4<=(X9 x cycle sz i s).n4:=by
 grind [X9]
def PIn.mono{s t p sz}(h:PIn s p sz)(g:s.n1<=t.n1)(h2:s.n2<=t.n2):PIn t p sz:=by
 obtain h|⟨a,d,⟨f,h⟩|⟨f,h⟩⟩:=h;exact .inl h;exact .inr ⟨a,d,Z0⟩;exact .inr ⟨a,d,Z0⟩
def POl.mono{s t p sz}(h:POl s p sz)(g:s.n3<=t.n3)(h2:s.n4<=t.n4):POl t p sz:=by
 obtain h|⟨a,d,⟨f,h⟩|⟨f,h⟩⟩:=h;exact .inl h;exact .inr ⟨a,d,Z0⟩;exact .inr ⟨a,d,Z0⟩
def PL{x cycle g}(h:∀n∈g.nodes,ZL n<=9):∀i,i<=I g.nodes->∀(j:Nat) n,g.nodes[j]?=J n->
  (∀p,(Y3 x cycle g i).az[j]?=J p->PIn (Y3 x cycle g i) p (ZL n))/\(∀p,(Y3 x cycle g i).ah[j]?=J p->POl (Y3 x cycle g i) p (ZL n))
 |0,_,j,n,l=>⟨λp a=>by simp[Y3]at a,λp a=>by simp[Y3]at a⟩
 |i+1,C,j,n,l=>by
  let⟨o,q⟩:=PL (x:=x) (cycle:=cycle) h i Z0 j n l;let⟨_,_,u,w⟩:=JQ (x:=x) (cycle:=cycle) h i Z0;have f:g.nodes[i]?=J g.nodes[i]:=Z1;simp[Y3,f,ZhE];generalize Y3 x cycle g i=s at*;let⟨y,z,A,B⟩:=ZaF (x:=x) (cycle:=cycle) (sz:=ZL g.nodes[i]) (i:=i) (s:=s);have t:j<I g.nodes:=Zgc;constructor;intro p a;by_cases r:j<i;have:s.az[j]?=J p:=by
   simp[X9]at a;rwa[ZhI Z0]at a
  exact(o p this).mono y z;by_cases d:j=i;subst d;simp[X9]at a;rw[Zhy Z0,u,Zj6]at a;simp[Zh7]at a;unfold PIn;obtain k|k|⟨k,rfl⟩:=SL x j cycle;grind [X9];grind [X9];simp_all;grind [X9,List.getElem?_eq_some_iff];intro p a;by_cases r:j<i;have:s.ah[j]?=J p:=by
   simp[X9]at a;rwa[ZhI Z0]at a
  exact(q p this).mono A B;by_cases d:j=i;subst d;simp[X9]at a;rw[Zhy Z0,w,Zj6]at a;grind [List.getElem?_cons_zero,Option.some.injEq,POl,decide,V1,Wx,X9];grind [X9,List.getElem?_eq_some_iff]
def IZ l a:∀n∈(ZY l a).nodes,∀q∈n.M,-1<=q/\q< ((ZY l a).nodes.length:Int):=by
 intro n d q f;rw[L8];simp only[ZY,Zhq]at d;obtain⟨y,_,rfl⟩:=d;simp only[T7,Zhq]at f;obtain⟨p,_,rfl⟩:=f;exact P1
def Z6s l a:∀q∈(ZY l a).E,-1<=q/\q< ((ZY l a).nodes.length:Int):=by
 intro q d;rw[L8];simp only[ZY]at d;split at d;grind;simp only[Zhq]at d;obtain⟨p,_,rfl⟩:=d;exact P1
def Z6q l a(f:∀n∈l,∀q∈n.data,ZB q):∀n∈(ZY l a).nodes,∀q∈n.data,ZB q:=by
 intro n d q g;simp only[ZY]at d;grind [T7,List.mem_of_mem_take]
def JR{x}(hx:x.ok)cycle:BOk (Ym x cycle)/\Y7 (Ym x cycle).h.Z/\ZD (Zv (Ym x cycle).h)=xk:=by
 let⟨w,u,y⟩:=qb x.nodes x.E;have z:=L8 x.nodes x.E;have L:=IZ x.nodes x.E;have M:=Z6s x.nodes x.E;have A:=Z6q x.nodes x.E hx.data;unfold Ym;generalize ZY x.nodes x.E=g at*;have t:∀n∈g.nodes,ZL n<=9:=λn K=>by grind [ZL]
 let⟨N,O,D,F⟩:=JQ (x:=x) (cycle:=cycle) t (I g.nodes) Z0;have r:=PL (x:=x) (cycle:=cycle) t (I g.nodes) Z0;dsimp only;generalize Y3 x cycle g (I g.nodes)=s at*;have B:=Uh (c:=x.bj) (n:=12) Z0;have C:=Uh (c:=x.to) (n:=2) Z0;obtain⟨cap,q⟩:∃cap,max ((s.n1:Int)+s.n2+s.wt) ((s.n3:Int)+s.n4)+pick x.bj 12=cap:=⟨_,rfl⟩;rw[q];have G:=Zk1 x.base (Z0:(9223372036854775808-2*cap)≠0);have H:=ZjH x.base (Z0:0< (9223372036854775808-2*cap));generalize x.base% (9223372036854775808-2*cap)=base at*;have l:Y7 (if cycle=xk/\0<s.n1 then pick x.Z s.n1 else s.n1):=by
  split;rename_i h;have:=Uh (c:=x.Z) (n:=s.n1) Z0;exact⟨Z0,Z0⟩;exact⟨Z0,Z0⟩
 refine⟨⟨?_,?_,?_,?_,?_,?_,?_,?_,?_,?_,?_,?_⟩,l,?_⟩;refine⟨⟨?_,?_⟩,⟨?_,?_⟩,⟨?_,?_⟩,⟨?_,?_⟩,⟨?_,?_⟩,⟨?_,?_⟩,⟨?_,?_⟩⟩<;>simp[Zv]<;>omega;exact D;exact F;simp_all;grind;exact A;simp_all;exact u;intro i p n j f;rcases(r i n f).1 p j with h|⟨a,o,⟨d,h⟩|⟨d,h⟩⟩;grind;exact .inr ⟨a,o,.inl d,Zgd⟩;exact .inr ⟨a,o,.inr d,Zgd⟩;intro i p n j f;rcases(r i n f).2 p j with h|⟨a,o,⟨d,h⟩|⟨d,h⟩⟩;grind;exact .inr ⟨a,o,.inl d,Zgd⟩;exact .inr ⟨a,o,.inr d,Zgd⟩;grind [Zx];refine⟨λk=> ?_,Z1⟩;grind [List.replicate,ZB,Zx];refine WG.2 ?_;simp[Zv,Zla];omega
def jM(x:Rw):Hp:=Yu x<|Ym x xw
def Ub(x:Rw):Hp:=if(Ym x xk).h.H.length=0 then jM x else Yu x<|Ym x xk
def Z2g{x:Rw}(hx:x.ok):VC xP 15 xw [Wr x]<|ZM<|jM x:=by
 refine ZT Z1f follows Z2 c15 rfl ?_;simp[Nc];refine Zz (PN hx (cycle:=xw)) (by simp[Wr]) ?_;simp;refine Zz (GC hx (JR hx xw).1) Z1 ?_;simp;rfl
def Z0N{x:Rw}(hx:x.ok):VC xP 5 xw [Wr x]<|ZM<|Ub x:=by
 refine ZT Z1E follows Z2 c5 rfl ?_;simp[p5];refine Zz (PN hx (cycle:=xk)) (by simp[Wr]) ?_;unfold Ub;by_cases a:(Ym x xk).h.H.length=0;simp[XC,a];refine Zz (Z2g hx) Z1 ?_;simp;rfl;simp[XC,a];refine Zz (GC hx (JR hx xk).1) Z1 ?_;simp;rfl
def AL{x b}(k:BOk b)(q:Y7 b.h.Z):(Yu x b).ok/\Zv (Yu x b)=Zv b.h/\(Yu x b).Z=b.h.Z/\(Yu x b).aa=b.h.aa:=by
 have f:=L5 (x:=x) k (I b.g.nodes) Z0;have n:=f.ok k;unfold Yu;let⟨j,A,B,C,D,F,G,H,K,o,a,d⟩:=n;have t:=a 1;have u:=a 2;have y:=a 3;have z:=a 4;have w1:=d.1 1;have w2:=d.1 2;have w3:=d.1 3;have w4:=d.1 4;simp[WD,Rf,NX,JA]at t u y z w1 w2 w3 w4;have p:=k.rl;refine⟨⟨j.1,j.2.1,j.2.2.1,by rw[f.Z];exact q,?_,?_,?_,?_,?_,w1,w2,w3,w4,?_⟩,f.be,f.Z,f.aa⟩;grind;grind;grind;grind;simp;omega;intro w l;simp[Zhq]at l;obtain⟨r,_,rfl⟩:=l;split;exact Dd _ _;exact⟨Z0,Z0⟩
end Vm
end
section

end
section
namespace Vm
open Go Go.Proofs
structure Ob where
 Y:Int
 size:Int
 M:Int
 gone:Bool
 target:Int
 deriving DecidableEq,Inhabited
def ZN(o:Ob):V:=.agg [vi o.Y,vi o.size,vi o.M,.bool o.gone,vu o.target]
@[simp]theorem ZfH(o:Ob):VD (ZN o) 5=J (ZN o):=rfl
@[simp]theorem Ze6(o:Ob):Uv (ZN o) 0 5=J (ZN o):=rfl
@[simp]theorem ZeG(o:Ob):(ZN o).cells=[vi o.Y,vi o.size,vi o.M,.bool o.gone,vu o.target]:=rfl
@[simp]theorem ZdK(o:Ob):Y1 (ZN o) 0=J (vi o.Y):=rfl
@[simp]theorem ZdL(o:Ob):Y1 (ZN o) 1=J (vi o.size):=rfl
@[simp]theorem ZdM(o:Ob):Y1 (ZN o) 2=J (vi o.M):=rfl
@[simp]theorem ZdN(o:Ob):Y1 (ZN o) 3=J (.bool o.gone):=rfl
@[simp]theorem ZdO(o:Ob):Y1 (ZN o) 4=J (vu o.target):=rfl
@[simp]theorem Ze7(o:Ob):Uv (ZN o) 1 2=J (JM o.size o.M):=rfl
abbrev Zi:=List Ob
@[simp]theorem Zft(l:Zi):XA 5 (l.map ZN)=xk:=JN λ_=>rfl
def Wb(s:Int×Int):V:=JM s.1 s.2
@[simp]theorem Zfo(s:Int×Int):(Wb s).cells=[vi s.1,vi s.2]:=rfl
@[simp]theorem ZfK(s:Int×Int):VD (Wb s) 2=J (Wb s):=rfl
@[simp]theorem Ze9(s:Int×Int):Uv (Wb s) 0 2=J (Wb s):=rfl
@[simp]theorem ZdY(s:Int×Int):Y1 (Wb s) 0=J (vi s.1):=rfl
@[simp]theorem ZdZ(s:Int×Int):Y1 (Wb s) 1=J (vi s.2):=rfl
@[simp]theorem Zfv(l:List<|Int×Int):XA 2 (l.map Wb)=xk:=JN λ_=>rfl
def V4(w:Int):Bool:=decide (w=0)||decide ((adr w).2=0)
def XP(l:Z6)(gone:Bool)(ptrs:Int)(i:Nat):Bool:=
 match l with
 | []=>xk
 |w::l=>(!gone||decide (w=0))&&(!decide ((i:Int)<ptrs)||V4 w)&&XP l gone ptrs (i+1)
def Zau{l:Z6}{gone:Bool}{ptrs:Int}{i:Nat}{w:Int}(h:l[i]?=J w):XP (l.drop i) gone ptrs i=((!gone||decide (w=0))&&(!decide ((i:Int)<ptrs)||V4 w)&&XP (l.drop<|i+1) gone ptrs (i+1)):=by
 obtain⟨a,d⟩:=Zh9.1 h;rw[Zi6 a,d];rfl
def Wl(shs:List<|Int×Int)(old:Bool)(at_ a:Nat)(w:Int):Option<|Ob×Nat:=
 if old=xk/\(adr w).2=0 then
  match shs[a]? with
  |none=>U
  |some s=>if YE s.1 s.2 then J (⟨at_,s.1,s.2,xk,(adr w).1⟩,a+1)else U
 else if(ZS w).2.2=0 then J (⟨at_,(ZS w).1,(ZS w).2.1,xw,0⟩,a)else U
def DZ{w:Int}(h:(ZS w).2.2=0):YE (ZS w).1 (ZS w).2.1=xk:=by
 unfold ZS at*;grind
def qu{shs:List (Int×Int)}{old:Bool}{at_ d:Nat}{w:Int}{o:Ob}{t:Nat}(h:Wl shs old at_ d w=J (o,t)):YE o.size o.M=xk/\o.Y=at_:=by
 unfold Wl at h;split at h;grind;split at h;rename_i a;cases h;exact⟨DZ a,rfl⟩;cases h
def Xu(ws:Z6)(shs:List<|Int×Int)(old:Bool):Nat->Nat->Nat->List Ob->List Ob×Int
 |0,_,_,_=>([],3)
 |f+1,at_,d,a=>
  match ws[at_]? with
  |none=>if d<(I shs) then([],3)else(a,0)
  |some w=>match Wl shs old at_ d w with
   |none=>([],3)
   |some (o,t)=>
    if(I ws:Int)<at_+1+o.size then([],2)
    else if XP ((ws.drop<|at_+1).take o.size.toNat) o.gone o.M 0=xw then([],3)
    else Xu ws shs old f (at_+1+o.size.toNat) t<|a++[o]
def ZQ(ws:Z6)(shs:List<|Int×Int)(old:Bool):List Ob×Int:=Xu ws shs old (I ws+1) 0 0 []
def QJ(n:Nat)(o:Ob):Prop:=(∃a:Nat,o.Y=a/\(a:Int)+1+o.size<=n)/\YE o.size o.M=xk
def Z75{shs:List (Int×Int)}{old:Bool}{at_ d:Nat}{w:Int}{o:Ob}{t:Nat}(a:ZB w)(h:Wl shs old at_ d w=J (o,t)):ZB o.target:=by
 unfold Wl at h;split at h;split at h;cases h;split at h;cases h;obtain⟨f,g⟩:=a;show 0<=(adr w).1/\(adr w).1<18446744073709551616;grind [adr];cases h;split at h;cases h;show(0:Int)<=0/\(0:Int)<18446744073709551616;omega;cases h
def Z09{ws:Z6}{shs:List (Int×Int)}{old:Bool}(k:∀w∈ws,ZB w):∀(f at_ l:Nat) (d:Zi),(∀o∈d,QJ (I ws) o/\ZB o.target)->∀o∈(Xu ws shs old f at_ l d).1,QJ (I ws) o/\ZB o.target
 |0,_,_,_,_=>by simp[Xu]
 |f+1,at_,l,d,a=>by
  simp only[Xu];split;split;simp;exact a;rename_i w q;split;simp;rename_i o t j;split;simp;rename_i u;split;simp;refine Z09 k f _ _ _ λr g=> ?_;obtain h|h:=ZhC.1 g;exact a r h;simp only[Zic]at h;subst h;obtain⟨n,p⟩:=qu j;exact⟨⟨⟨at_,p,Z0⟩,n⟩,Z75 (k w<|Zhh q) j⟩
def JY{ws:Z6}{shs:List (Int×Int)}{old:Bool}(a:∀w∈ws,ZB w):∀o∈(ZQ ws shs old).1,QJ (I ws) o/\ZB o.target:=Z09 a _ _ _ _ Z1
def Z0a{ws:Z6}{shs:List (Int×Int)}{old:Bool}:∀(f at_ g:Nat) (a:Zi),at_<=I ws->I a<=at_->(Xu ws shs old f at_ g a).1.length<=I ws
 |0,_,_,_,_,_=>by simp[Xu]
 |f+1,at_,g,a,k,d=>by
  simp only[Xu];split;split;simp;simp only;omega;split;simp;rename_i o t h;split;simp;rename_i l;split;simp;have j:=YN.1 (qu h).1;refine Z0a f _ _ _ Z0 Zge
def JZ{ws:Z6}{shs:List (Int×Int)}{old:Bool}:(ZQ ws shs old).1.length<=I ws:=Z0a _ _ _ _ Z0 Z1
end Vm
end
section

end
section
namespace Vm
open Go Go.Proofs
def X3(h:Hp)(part at_:Int):Int:=(ZU (Zv h) part at_).1
def YF(h:Hp)(part:Int)(l:Zi)(a:Int):Option Ob:=l.find? λo=>X3 h part o.Y==a
theorem FL{h:Hp}{part a:Int}{l:Zi}{o:Ob}(d:YF h part l a=J o):o∈l:=ZjQ d
def V7(h:Hp)(ws:Z6)(low:Zi):Nat->Nat->List (Int×Int)->Option (List<|Int×Int)
 |0,_,_=>U
 |f+1,i,a=>
  match ws[i]? with
  |none=>J a
  |some w=>if(adr w).2=0 then(match YF h 1 low (adr w).1 with|none=>U|some o=>V7 h ws low f (i+1+o.size.toNat)<|a++[(o.size,o.M)])
   else if(ZS w).2.2=0 then V7 h ws low f (i+1+(ZS w).1.toNat) a else U
def VB(h:Hp)(ws:Z6)(low:Zi):Option<|List<|Int×Int:=V7 h ws low (I ws+1) 0 []
structure Pts where
 H:List Ob
 ae:List Ob
 ah:List Ob
 aj:List Ob
 deriving Inhabited
def Pts.at(p:Pts)(k:Int):List Ob:=if k=1 then p.H else if k=2 then p.ae else if k=3 then p.ah else p.aj
@[simp]theorem Pts.sg(p:Pts):p.at 1=p.H:=rfl
@[simp]theorem Pts.xb(p:Pts):p.at 2=p.ae:=rfl
@[simp]theorem Pts.oz(p:Pts):p.at 3=p.ah:=rfl
@[simp]theorem Pts.pd(p:Pts):p.at 4=p.aj:=rfl
structure Pts.ok (p:Pts) (h:Hp):Prop where
 ob:∀k,∀o∈p.at k,QJ (I<|Zx h k) o/\ZB o.target
 len:∀k,I (p.at k)<=1000000
def Xo(h:Hp):Option Pts:=
 let low:=ZQ h.H [] xw;let high:=ZQ h.ae [] xw
 if low.2≠0\/high.2≠0 then U else
 let p:=VB h h.ah low.1;let q:=VB h h.aj low.1;let d:=ZQ h.ah (p.getD []) xk;let a:=ZQ h.aj (q.getD []) xk
 if p=U\/q=U\/d.2≠0\/a.2≠0 then U else J ⟨low.1,high.1,d.1,a.1⟩
def Z7S{h:Hp}(a:h.ok){p:Pts}(f:Xo h=J p):p.ok h:=by
 unfold Xo at f;dsimp only at f;split at f;cases f;split at f;cases f;cases f;refine⟨λk o d=> ?_,λk=> ?_⟩;unfold Pts.at at d;unfold Zx;split at d;rename_i e;rw[Zhi e];exact JY a.gq o d;rename_i g;rw[Zhg g];split at d;rename_i e;rw[Zhi e];exact JY a.ic o d;rename_i j;rw[Zhg j];split at d;rename_i e;rw[Zhi e];exact JY a.ml o d;rename_i e;rw[Zhg e];exact JY a.lz o d;unfold Pts.at;split;exact ZhD JZ a.H;split;exact ZhD JZ a.ae;split;exact ZhD JZ a.ah;exact ZhD JZ a.aj
def XD(h:Hp)(p:Pts)(w one a:Int):Bool:=decide (w=0)||(decide ((adr w).2=0)&&((YF h one (p.at one) (adr w).1).isSome||(YF h a (p.at a) (adr w).1).isSome))
def WH(o:Ob):Nat:=if o.gone then 0 else 1+o.size.toNat
def Yx(l:Zi):Nat:=(l.map WH).sum
def Z0r{l:Zi}{i:Nat}{o:Ob}(h:l[i]?=J o):Yx (l.take<|i+1)=Yx (l.take i)+WH o:=by
 simp_all[Yx,Zi3,Zir,Zld]
def K0{l:Zi}(h:∀o∈l,YE o.size o.M=xk):Yx l<=256*I l:=by
 induction l with
 |nil=>simp[Yx]
 |cons o l a=>
  grind [YN,WH,Yx,List.length_cons]
def X4(p:Pts):Nat:=Yx p.ah+Yx p.aj
def Xc(l:Zi)(a:Int):Nat:=I (l.filter λo=>o.gone&&decide (o.target=a))
def UK(p:Pts)(a:Int):Nat:=Xc p.ah a+Xc p.aj a
def TC(h:Hp):Bool:=
 ZD (Zv h)&&decide (I h.E<=16)&&decide (0<=h.Z)&&decide (h.Z<=I h.H)&&
  (if h.aa then decide (h.Z<I h.H)else decide (h.Z=I h.H)&&decide (I h.ah=0)&&decide (I h.aj=0))
def Ui(h:Hp)(p:Pts)(part:Int)(k:Nat):Bool:=
 let w:=((Zx h part)[k]?).getD 0;let a:=XD h p w 1 2;let from_:=XD h p w 3 4
 if 2<part then from_ else if part=1/\h.Z<=k then a||from_ else a
def qs(h:Hp)(p:Pts)(part:Int)(o:Ob):Bool:=(List.range o.M.toNat).all λj=>Ui h p part<|o.Y.toNat+1+j
def WE(h:Hp)(p:Pts)(part:Int):Bool:=(p.at part).all<|qs h p part
def Fs{α:Type}{q:α->Bool}{l:List α}{i:Nat}{x:α}(h:l[i]?=J x):(l.take<|i+1).all q=((l.take i).all q&&q x):=by
 rw[Zi3,h,List.all_append];simp
def Fr{α:Type}{q:α->Bool}{l:List α}{i:Nat}{x:α}(h:l[i]?=J x)(a:q x=xw):l.all q=xw:=by
 grind
def Rr(h:Hp)(p:Pts)(o:Ob):Bool:=decide (UK p (X3 h 1 o.Y)=1)
def Sk(h:Hp)(p:Pts):Bool:=
 (!h.aa||p.H.all (Rr h p))&&h.E.all (λw=>XD h p w 1 2)&&WE h p 1&&WE h p 2&&WE h p 3&&WE h p 4&&decide ((I h.H:Int)+I h.ae+X4 p<=h.cap)
def YQ(h:Hp):Bool:=TC h&&match Xo h with
 |none=>xw
 |some p=>Sk h p
def Xf{h:Hp}(a:h.ok)(k:Int):(∀w∈Zx h k,ZB w)/\I (Zx h k)<=1000000:=by
 unfold Zx;split;exact⟨a.gq,a.H⟩;split;exact⟨a.ic,a.ae⟩;split;exact⟨a.ml,a.ah⟩;exact⟨a.lz,a.aj⟩
def Z9p{h:Hp}(a:YQ h=xk):∃p,Xo h=J p/\Sk h p=xk/\TC h=xk:=by
 unfold YQ at a;grind
def VS(h:Hp)(part:Int):List Ob×Int:=if YQ h=xk/\1<=part/\part<=4 then(((Xo h).getD default).at part,0)else([],1)
def JW(h:Hp):Int:=if YQ h then X4 ((Xo h).getD default)else 0
end Vm
end
section

end
section
namespace Vm
open Go Go.Proofs
def Fm{w}(a:ZB w):ZB (adr w).1:=by
 grind [ZB,adr]
def Z3K{l a}(h:(ZZ l a).2.2=0):ZD l=xk/\1<=(ZZ l a).1/\(ZZ l a).1<=4/\0<=(ZZ l a).2.1/\(ZZ l a).2.1<Y5 l (ZZ l a).1/\a=ZC l (ZZ l a).1+(ZZ l a).2.1:=by
 unfold ZZ at*;cases k:ZD l;grind;simp[ZkF,Zif]at h⊢;by_cases d:X7 l a 1=xk;rw[Zhi d];have:=S3.1 d;grind;by_cases f:X7 l a 2=xk;rw[Zhi f];have:=S3.1 f;grind;by_cases g:X7 l a 3=xk;rw[Zhi g];have:=S3.1 g;grind;by_cases j:X7 l a 4=xk;rw[Zhi j];have:=S3.1 j;grind;simp_all
theorem Ti{h k}(a:1<=k/\k<=4):Y5 (Zv h) k=I (Zx h k):=by
 have:k=1\/k=2\/k=3\/k=4:=Z0;obtain rfl|rfl|rfl|rfl:=this<;>rfl
def Hp.zero:Hp:=⟨0,0,0,xw,0,[],[],[],[],[]⟩
def zr(ws:List Int)(a:Nat):Nat->List Int
 |0=>ws
 |i+1=>(zr ws a i).set (a+i) 0
@[simp]theorem zw ws a n:I (zr ws a n)=I ws:=by
 induction n with
 |zero=>rfl
 |succ n d=>simp[zr,d]
def Xy(h:Hp)(part:Int)(a n:Nat):Hp:= {h with H:=h.H++((Zx h part).take<|a+n).drop a}
def SW(h:Hp)(part:Int)(a n:Nat):Int×Hp×Int:=
 if I (Zx h part)<a+n then(0,Hp.zero,2)
 else if Xt (Zv h)<n then(0,Hp.zero,7)
 else
  let d:=(Xz (ZU (Zv<|Xy h part a n) 1<|I h.H).1).1
  (d,YB (Xy h part a n) part<|(zr (Zx h part) a n).set a d,0)
def Fl{l k a}:ZB (ZU l k a).1:=by
 unfold ZU;cases d:ZD l;simp[ZB];simp[Zif];split;simp[ZB];split;simp[ZB];have:=WK d k;grind [ZB]
def Z2k{l k a}:0<=(ZU l k a).1/\(ZU l k a).1<9223372036854775808:=by
 unfold ZU;cases d:ZD l;simp;simp[Zif];split;simp;split;simp;have:=WK d k;omega
def Oh{a}:ZB (Xz a).1:=by
 grind [Xz,ZB]
def fwd(h:Hp)(w:Int):Int×Hp×Int:=
 if ZD (Zv h)=xw then(0,Hp.zero,1)
 else if w=0 then(0,h,0)
 else if(adr w).2≠0 then(0,Hp.zero,3)
 else if(ZZ (Zv h) (adr w).1).2.2≠0 then(0,Hp.zero,6)
 else if(ZZ (Zv h) (adr w).1).1<3 then(w,h,0)
 else if(adr<|(Zx h (ZZ (Zv h) (adr w).1).1).getD (ZZ (Zv h) (adr w).1).2.1.toNat 0).2=0 then((Zx h (ZZ (Zv h) (adr w).1).1).getD (ZZ (Zv h) (adr w).1).2.1.toNat 0,h,0)
 else if(ZS<|(Zx h (ZZ (Zv h) (adr w).1).1).getD (ZZ (Zv h) (adr w).1).2.1.toNat 0).2.2≠0 then(0,Hp.zero,3)
 else SW h (ZZ (Zv h) (adr w).1).1 (ZZ (Zv h) (adr w).1).2.1.toNat<|(ZS<|(Zx h (ZZ (Zv h) (adr w).1).1).getD (ZZ (Zv h) (adr w).1).2.1.toNat 0).1.toNat+1
end Vm
namespace Vm
open Go Go.Proofs
@[simp]theorem Zcq k a b c d e f:Yb (.agg [.int k a,.int k b,.int k c,.int k d,.int k e,.int k f]) (.int .i64 0) 6 1 xw=J (.int k a):=rfl
@[simp]theorem Zcw a b c d e f:Yb (.agg [.bool a,.bool b,.bool c,.bool d,.bool e,.bool f]) (.int .i64 0) 6 1 xw=J (.bool a):=rfl
@[simp]theorem Zcr k a b c d e f:Yb (.agg [.int k a,.int k b,.int k c,.int k d,.int k e,.int k f]) (.int .i64 1) 6 1 xw=J (.int k b):=rfl
@[simp]theorem Zcx a b c d e f:Yb (.agg [.bool a,.bool b,.bool c,.bool d,.bool e,.bool f]) (.int .i64 1) 6 1 xw=J (.bool b):=rfl
@[simp]theorem Zcs k a b c d e f:Yb (.agg [.int k a,.int k b,.int k c,.int k d,.int k e,.int k f]) (.int .i64 2) 6 1 xw=J (.int k c):=rfl
@[simp]theorem Zcy a b c d e f:Yb (.agg [.bool a,.bool b,.bool c,.bool d,.bool e,.bool f]) (.int .i64 2) 6 1 xw=J (.bool c):=rfl
@[simp]theorem Zct k a b c d e f:Yb (.agg [.int k a,.int k b,.int k c,.int k d,.int k e,.int k f]) (.int .i64 3) 6 1 xw=J (.int k d):=rfl
@[simp]theorem Zcz a b c d e f:Yb (.agg [.bool a,.bool b,.bool c,.bool d,.bool e,.bool f]) (.int .i64 3) 6 1 xw=J (.bool d):=rfl
@[simp]theorem Zcu k a b c d e f:Yb (.agg [.int k a,.int k b,.int k c,.int k d,.int k e,.int k f]) (.int .i64 4) 6 1 xw=J (.int k e):=rfl
@[simp]theorem ZcA a b c d e f:Yb (.agg [.bool a,.bool b,.bool c,.bool d,.bool e,.bool f]) (.int .i64 4) 6 1 xw=J (.bool e):=rfl
@[simp]theorem Zcv k a b c d e f:Yb (.agg [.int k a,.int k b,.int k c,.int k d,.int k e,.int k f]) (.int .i64 5) 6 1 xw=J (.int k f):=rfl
@[simp]theorem ZcB a b c d e f:Yb (.agg [.bool a,.bool b,.bool c,.bool d,.bool e,.bool f]) (.int .i64 5) 6 1 xw=J (.bool f):=rfl
end Vm
namespace Vm
open Go Go.Proofs
def Zbq{h}(A:h.ok){k l}(o:I l<=1000000)(h2:∀w∈l,ZB w):(YB h k l).ok:=by
 let⟨a,d,f,g,p,q,r,t,j,u,x,y,z,n⟩:=A;unfold YB;split;exact⟨a,d,f,g,o,q,r,t,j,h2,x,y,z,n⟩;split;exact⟨a,d,f,g,p,o,r,t,j,u,h2,y,z,n⟩;split;exact⟨a,d,f,g,p,q,o,t,j,u,x,h2,z,n⟩;exact⟨a,d,f,g,p,q,r,o,j,u,x,y,h2,n⟩
end Vm
end
section
namespace Vm
open Go Go.Proofs
def zj{n:Nat}{x:V}(h:Xp Tryz.prog (n+1) 3 x):∃m,x=vi m/\Y7 m:=by
 obtain⟨m,rfl,a,d⟩:=t8 Tryz.underlying3 h;exact⟨m,rfl,a,d⟩
def DY{n:Nat}{x:V}(h:Xp Tryz.prog (n+1) 24 x):∃m,x=vu m/\ZB m:=by
 obtain⟨m,rfl,a,d⟩:=t8 Tryz.underlying24 h;exact⟨m,rfl,a,Int.lt_of_le_of_lt d Zgm⟩
def DX{n:Nat}{x:V}(h:Xp Tryz.prog (n+2) 23 x):∃l:Z6,x=.sl (l.map vi)/\I l<=maxLen/\∀p∈l,Y7 p:=
 DW Tryz.underlying23 h λy a=>zj a
def Zb6{n:Nat}{x:V}(h:Xp Tryz.prog (n+2) 28 x):∃l:Z6,x=.sl (l.map vu)/\I l<=maxLen/\∀p∈l,ZB p:=
 DW Tryz.underlying28 h λy a=>DY a
def Nd.an(x:Nd):Prop:=(I x.M<=maxLen/\∀p∈x.M,Y7 p)/\I x.data<=maxLen/\∀p∈x.data,ZB p
def Zb3{n:Nat}{x:V}(h:Xp Tryz.prog (n+3) 134 x):∃a:Nd,x=Yi a/\a.an:=by
 obtain⟨q,rfl,o,d⟩:=t9 Tryz.underlying134 h
 match q,o with
 | [a,b],_=>
   obtain⟨p,rfl,g,j⟩:=DX<|d 0 _ a rfl rfl;obtain⟨f,rfl,k,l⟩:=Zb6<|d 1 _ b rfl rfl;exact⟨⟨p,f⟩,rfl,⟨g,j⟩,k,l⟩
def Zb4{n:Nat}{x:V}(h:Xp Tryz.prog (n+4) 22 x):∃l:List Nd,x=.sl (l.map Yi)/\I l<=maxLen/\∀a∈l,a.an:=
 DW Tryz.underlying22 h λy d=>Zb3 d
def Zb5{n:Nat}{x:V}(h:Xp Tryz.prog (n+5) 26 x):∃r:Rw,x=Wr r/\r.ok:=by
 obtain⟨F,rfl,B,j⟩:=t9 Tryz.underlying26 h
 match F,B with
 | [a,b,c,d,e,f,g],_=>
   obtain⟨C,rfl,_,o⟩:=Zb4<|j 0 _ a rfl rfl;obtain⟨D,rfl,_,t⟩:=DX<|j 1 _ b rfl rfl;obtain⟨q,rfl,_,u⟩:=DX<|j 2 _ c rfl rfl;obtain⟨d,rfl,w⟩:=DY<|j 3 _ d rfl rfl;obtain⟨e,rfl,y⟩:=zj<|j 4 _ e rfl rfl;obtain⟨f,rfl,z⟩:=zj<|j 5 _ f rfl rfl;obtain⟨g,rfl,A⟩:=zj<|j 6 _ g rfl rfl;exact⟨⟨C,D,q,d,e,f,g⟩,rfl,λn k p l=>(o n k).1.2 p l,λn k p l=>(o n k).2.2 p l,t,u,w,y,z,A⟩
def own:ownKnob Tryz.prog.godebug=U:=Z2
def laidOut:laidOutB Tryz.prog=xk:=Z2
end Vm
end
section
namespace Vm
open Go Go.Proofs Go.RowKit
section
section
variable {P:Z5}{w:Z3}
def ZbB{o:Oper}{a K Q}s x t
  (G:o.op=.call {callee:=.builtin .append,args:=#[s,x],argTypes:=#[t,t]}) {e} (M:P.underlying t=J (.slice e)) (p:UU P e=xk)
  {B n v y xs} (L:a.eval s=v) (hx:a.eval x=y) (k:w.ownsRow B e (P.cellsOf e) v n xs) (D:B<=xz (xj w))
  {Gy l} (N:Rd w Gy (.sl l) y) (F:XA (P.cellsOf e) l=xk) (j:n+I l<=Yc)
  (h:∀g f d,f.ownsRow B e (P.cellsOf e) g (n+I l) (xs++d)->w.grownBy f v.ownBlock->(g.ownBlock=v.ownBlock\/(w.grownBy f U/\f.ownsRow (xz<|xj w) e (P.cellsOf e) g (n+I l) (xs++d)))->
   (∀(i:Nat) q,(flat l)[i]?=J q->∃u,d[i]?=J u/\Rd w Gy q u)->K (a.put o.dst g) f):o.wp P a w K Q:=by
 let⟨g,f,d,H,r,z,A,_,C⟩:=Dk (ty:=o.type) M p k D N F j;unfold Oper.wp execOp;simp[G,resolve,invoke,builtin,ZhV,ZjV,ZhU,List.map_toArray,ZhN,Zj5,L,hx,H];exact h g f d r z A C
def Eh{ops rest o a Q}(q:o.guard=U)s x t
  (C:o.op=.call {callee:=.builtin .append,args:=#[s,x],argTypes:=#[t,t]}) {e} (F:P.underlying t=J (.slice e)) (p:UU P e=xk)
  {B n v y xs} (D:a.eval s=v) (hx:a.eval x=y) (j:w.ownsRow B e (P.cellsOf e) v n xs) (z:B<=xz (xj w))
  {Gy l} (G:Rd w Gy (.sl l) y) (A:XA (P.cellsOf e) l=xk) (g:n+I l<=Yc)
  (h:∀k f d,f.ownsRow B e (P.cellsOf e) k (n+I l) (xs++d)->w.grownBy f v.ownBlock->(k.ownBlock=v.ownBlock\/(w.grownBy f U/\f.ownsRow (xz<|xj w) e (P.cellsOf e) k (n+I l) (xs++d)))->
   (∀(i:Nat) r,(flat l)[i]?=J r->∃u,d[i]?=J u/\Rd w Gy r u)->wpList P ops Q rest (a.put o.dst k) f):wpList P ops Q (o::rest) a w:=
 wpList_plain q λ_ N=>ZbB s x t C F p D hx j z G A g λk f d H K L M=>Zgc
end
def Yo(k:IntKind)(l:Z6):List Value:=l.map<|Value.int k
def C2{w G k l d}(h:∀(i:Nat) g,(flat<|l.map<|V.int k)[i]?=J g->∃u,d[i]?=J u/\Rd w G g u)(n:I d=I l):d=Yo k l:=by
 have f:flat (l.map<|V.int k)=l.map (V.int k):=by
  clear h n;induction l with
  |nil=>rfl
  |cons a l q=>rw[ZhN,RW,q];rfl
 apply ZiV;intro i;unfold Yo;by_cases j:i<I l;let⟨u,p,o⟩:=h i (.int k l[i]) (by rw[f,Zhz,Zh8 j];rfl);rw[p,Zhz,Zh8 j];cases o;rfl;rw[ZhP Z0,ZhP Zge]
def YW{w:Z3}{B e z n v xs}(h:w.ownsRow B e z v n xs):∃a c,v=.slice a n c:=by
 obtain⟨rfl,rfl⟩|⟨g,cap,d,rfl,_⟩:=h.2;exact⟨_,_,rfl⟩;exact⟨_,_,rfl⟩
theorem Xs{w w':Z3}{B e z n v xs}(h:w.ownsRow B e z v n xs)(l:∀b,v.ownBlock=J b->w'.heap[b]?=w.heap[b]?):w'.ownsRow B e z v n xs:=by
 refine⟨h.1,?_⟩;obtain⟨f,d⟩|⟨g,cap,a,rfl,d,j,k⟩:=h.2;exact .inl ⟨f,d⟩;exact .inr ⟨g,cap,a,rfl,d,by rw[l g rfl];exact j,k⟩
def YA{w:Z3}{b o cs T}(h:w.heap[b]?=J (.cells cs T (0,0))):w.frozen? ⟨b,o,U⟩=xw:=by
 simp[World.frozen?,h]
def AD:UU xP 24=xk:=Z2
theorem RM:xP.cellsOf 24=1:=Z2
def Y2{w:Z3}{b o}(h:w.heap[b]?=J o):b<xz (xj w):=Zgc
def Lt{w:Z3}{B B' e z n v xs}(h:w.ownsRow B e z v n xs)(k:B'<=B):w.ownsRow B' e z v n xs:=by
 refine⟨h.1,?_⟩;obtain d|⟨g,cap,a,j,l,f⟩:=h.2;exact .inl d;exact .inr ⟨g,cap,a,j,Z0,f⟩
def qr k l i x:Yo k (l.set i x)=(Yo k l).set i (.int k x):=by unfold Yo;rw[ZjW]
def Z5A:(xP.info? 24).map (λi=>(i.zero,i.size,i.bytes))=J (J<|.int .u64 0,1,8):=Z2
section
variable {w:Z3}{B:Nat}{G:Z4}
def GP{k}(l:Z6):flat (l.map<|V.int k)=l.map (V.int k):=by
 induction l with
 |nil=>rfl
 |cons a l d=>rw[ZhN,RW,d];rfl
def N0{k:IntKind}{e:Zh}{v:Zg}{l:Z6}(h:w.ownsRow B e 1 v (I l)<|Yo k l)(r:∀c,v.ownBlock=J c->G c):Rd w G (.sl<|l.map<|V.int k) v:=by
 obtain⟨rfl,q⟩|⟨g,cap,p,rfl,u,y,o,f,_⟩:=h.2;have:l=[]:=ZiQ.1 q;subst this;exact .nil _ _ (by unfold maxLen;omega)
 have:=Rd.sl (w:=w) (G:=G) (l.map<|V.int k) g 0 cap 1 (λi=>(Yo k l).getD i xy) (by simpa using o) f (r g rfl) (λx t=>by
  obtain⟨n,_,rfl⟩:=Zhq.1 t
  exact⟨rfl,λc d=>by simp[V.cells]at d;subst d;rfl⟩) (λi j=>by
   have a:i<I l:=by simpa using j
   rw[ZhZ,h.cellAt i Z0];simp[Yo,a]) (λi c d=>by
   rw[GP]at d;obtain⟨j,rfl⟩:=Zh9.1 d;have a:i<I l:=by simpa using j
   simp[Yo,a];exact .int _ _)
 simpa using this
def qG{k:IntKind}{e:Zh}{v:Zg}{l:Z6}(h:w.ownsRow B e 1 v (I l)<|Yo k l)(a:∀c,B<=c->c<xz (xj w)->G c):Rd w G (.sl<|l.map<|V.int k) v:=N0 h λc e=>a c (h.lt c e).1 (h.lt c e).2
end
def Z7P(w:Z3)(b k:Nat)(a:k=1\/k=2\/k=3\/k=4):
  Calls xP 44 #[.pointer<|J ⟨b,0,U⟩,.int .i64 k] w λe d=>e=.returned (.pointer<|J ⟨b,4+k,U⟩)/\Below (xz<|xj w) w d:=by
 go_enter F4,Tryz.ntmps44;obtain rfl|rfl|rfl|rfl:=a;all_goals
  go_wp2;go_region;go_wp2;go_ret
  exact⟨rfl,((Zhw _ _).alloc (Zhc _) _).drew⟩
def Y9:Array Value:=#[.int .u64 0,.int .i64 0,.int .i64 0,.bool xw,.int .i64 0,.slice U 0 0,.slice U 0 0,.slice U 0 0,.slice U 0 0,.slice U 0 0]
abbrev Ri(w:Z3)(b:Nat)(v0 v1 v2 v3 v4 v5 v6 v7 v8 v9:Zg):World:=(((((((((w.setCell ⟨b,0,U⟩ v0).setCell ⟨b,1,U⟩ v1).setCell ⟨b,2,U⟩ v2).setCell ⟨b,3,U⟩ v3).setCell ⟨b,4,U⟩ v4).setCell ⟨b,5,U⟩ v5).setCell ⟨b,6,U⟩ v6).setCell ⟨b,7,U⟩ v7).setCell ⟨b,8,U⟩ v8).setCell ⟨b,9,U⟩ v9
def Ol{w2 b T}(a:w2.heap[b]?=J (.cells Y9 T (0,0))){v0 v1 d f v4 g v6 h j k}:(Ri w2 b v0 v1 d f v4 g v6 h j k).heap[b]?=J (.cells #[v0,v1,d,f,v4,g,v6,h,j,k] T (0,0)):=by
 unfold Y9 at a;simp[World.setCell,ZhT,a]
def Qo{w2 b T}(l:w2.heap[b]?=J (.cells Y9 T (0,0)))v0 v1 a d v4 f v6 g h k j:(Ri w2 b v0 v1 a d v4 f v6 g h k).cell? ⟨b,j,U⟩=(#[v0,v1,a,d,v4,f,v6,g,h,k]:Array Value)[j]? :=
 Zhl _ _ _ _ _ _ (Ol l)
def TL{B w0 w2 b}(h:Below B w0 w2)(a:B<=b){v0 v1 d f v4 g v6 j k l}:Below B w0<|Ri w2 b v0 v1 d f v4 g v6 j k l:=
 (((((((((h.setCell a _).setCell a _).setCell a _).setCell a _).setCell a _).setCell a _).setCell a _).setCell a _).setCell a _).setCell a _
def JE{w2 b c}(hc:c≠b){v0 v1 a d v4 f v6 g h j}:(Ri w2 b v0 v1 a d v4 f v6 g h j).heap[c]?=w2.heap[c]? :=by
 have:¬b=c:=Z0;simp[World.setCell,ZhT,this]
end
def Zw(h:Hp)(j:Nat):List Int:=if j=0 then h.H else if j=1 then h.ae else if j=2 then h.ah else if j=3 then h.aj else h.E
structure OwSt (w:World) (b:Nat) (el:Nat->Option Obj) (T:TypeId) (hd src:Nat->Value) (L:Nat->List Int) (k:Nat) (xs:Nat->Value) (wr:World):Prop where
 below:Below (xz<|xj w) w wr
 new:xz (xj w)<=b
 blk:wr.heap[b]?=J (.cells #[hd 0,hd 1,hd 2,hd 3,hd 4,xs 0,xs 1,xs 2,xs 3,src 4] T (0,0))
 ra:∀c,xz (xj w)<=c->c<b->wr.heap[c]?=el c
 rest:∀j,k<=j->xs j=src j
 own:∀j,j<k->wr.ownsRow (xz<|xj w) 24 1 (xs j) (I<|L j) (Yo .u64<|L j)
 ri:∀j,j<k->∀c,(xs j).ownBlock=J c->b<c
 apart:∀i j,i<j->j<k->∀c,(xs i).ownBlock=J c->(xs j).ownBlock≠J c
def OwSt.next{w wr w1 o b z T g l L k xs}(h:OwSt w b z T g l L k xs wr)(G:k<4)
  (p:Below (xz<|xj wr) wr w1) (r:w1.grownBy o U) {v} (H:o.ownsRow (xz<|xj w) 24 1 v (I<|L k)<|Yo .u64<|L k) (D:∀c,v.ownBlock=J c->xz (xj w1)<=c):
  OwSt w b z T g l L (k+1) (λj=>if j=k then v else xs j) (o.setCell ⟨b,5+k,U⟩ v):=by
 have q:=Y2 h.blk;have F:=p.size;have y:=h.below.size;have f:∀c,c<xz (xj wr)->c≠b->(o.setCell ⟨b,5+k,U⟩ v).heap[c]?=wr.heap[c]? :=λc d x=>by
  rw[Zhv _ _ _ _ x,r.block c Z0 Z1,p.block c d]
 have C:o.heap[b]?=J (.cells #[g 0,g 1,g 2,g 3,g 4,xs 0,xs 1,xs 2,xs 3,l 4] T (0,0)):=by
  rw[r.block b Z0 Z1,p.block b q,h.blk]
 refine⟨((h.below.trans<|p.mono y).grown r Z0 Z1).setCell h.new _,h.new,?_,?_,?_,?_,?_,?_⟩;have:k=0\/k=1\/k=2\/k=3:=Z0;obtain rfl|rfl|rfl|rfl:=this<;>simp[World.setCell,ZhT,C];intro c A B;rw[f c Z0 Z0];exact h.ra c A B;intro j u;rw[Zhg Z0];exact h.rest j Z0;intro j u;by_cases a:j=k;subst a;grind [Xs,Below.heap_setCell];rw[Zhg a];have n:=h.own j Z0;exact Xs n λc d=>f c (n.lt c d).2 (by have:=h.ri j Z0 c d;omega);intro j u c d;by_cases a:j=k;grind;rw[Zhg a]at d;exact h.ri j Z0 c d;intro i j t u c d;rw[Zhg Z0]at d;by_cases a:j=k;rw[Zhi a];intro e;have:=D c e;have:=((h.own i Z0).lt c d).2;omega;rw[Zhg a];exact h.apart i j t Z0 c d
structure HOwn (B:Nat) (w:World) (h:Hp) (x:Nat->Value):Prop where
 own:∀j,j<5->w.ownsRow B 24 1 (x j) (I<|Zw h j) (Yo .u64<|Zw h j)
 apart:∀i j,i<j->j<5->∀c,(x i).ownBlock=J c->(x j).ownBlock≠J c
abbrev Z9:=Nat->Value
def ZJ(h:Hp)(x:Z9):Value:=.agg #[.int .u64 h.base,.int .i64 h.cap,.int .i64 h.to,.bool h.aa,.int .i64 h.Z,x 0,x 1,x 2,x 3,x 4]
abbrev RB(W:Z3)(b:Nat)(h:Hp)(x:Z9):World:=Ri W b (.int .u64 h.base) (.int .i64 h.cap) (.int .i64 h.to) (.bool h.aa) (.int .i64 h.Z) (x 0) (x 1) (x 2) (x 3)<|x 4
def EA(w:Z3)(h:Hp)(e:Ending)(w':Z3):Prop:=∃x,e=.returned (ZJ h x)/\Below (xz<|xj w) w w'/\HOwn (xz<|xj w) w' h x
def R0{h}(a:h.ok)k:I (Zw h k)<=1000000:=by
 unfold Zw;split;exact a.H;split;exact a.ae;split;exact a.ah;split;exact a.aj;exact a.E
def Z7Q(w:Z3)(b k:Nat)(d:k<4):
  Calls xP 44 #[.pointer<|J ⟨b,0,U⟩,.int .i64 ((k+1:Nat):Int)] w λe a=>e=.returned (.pointer<|J ⟨b,5+k,U⟩)/\Below (xz<|xj w) w a:=by
 have:=Z7P w b (k+1) Z0;grind
def EJ(w:Z3)(G:Z4)(hG:∀b,G b->b<xz (xj w))(h:Hp)(hh:h.ok)(d:Z9)(hs:∀j,j<5->Rd w G (.sl<|(Zw h j).map vu) (d j)):
  Calls xP 18 #[ZJ h d] w (EA w h):=by
 have HS:=Zhf hs;have HH:=Zhf hh;clear hs hh;unfold ZJ;go_enter EW,Tryz.ntmps18;go_wp2
 go_loopw [4] (λi wr=>∃(k:Nat) (xs:Z9),i=.int .i64 ((k+1:Nat):Int)/\k<=4/\Hid (OwSt w (xz (xj w)+2) (λc=>if c=(xz<|xj w) then J (.cells #[.int .u64 h.base,.int .i64 h.cap,.int .i64 h.to,.bool h.aa,.int .i64 h.Z,d 0,d 1,d 2,d 3,d 4] 30 (0,0))else J<|.cells #[.int .u64 0,.int .i64 0,.int .i64 0,.bool xw,.int .i64 0,.slice U 0 0,.slice U 0 0,.slice U 0 0,.slice U 0 0,.slice U 0 0] 30 (0,0)) 109 (λj=>if j=0 then .int .u64 h.base else if j=1 then .int .i64 h.cap else if j=2 then .int .i64 h.to else if j=3 then .bool h.aa else .int .i64 h.Z) d (Zw h) k xs wr))
  (λi _=>5- (intOf i).toNat)
 case atStart=>
  refine⟨0,d,rfl,Z0,Zhf ⟨(((Zhw _ _).alloc (Zhc _) _).alloc Z1 _).alloc Zge _,Z0,?_,?_,λ_ _=>rfl,λj hj=>Z0,λj hj=>Z0,λi j _ hj=>Z0⟩⟩;have:=ZhB ((w.alloc<|.cells #[.int .u64 h.base,.int .i64 h.cap,.int .i64 h.to,.bool h.aa,.int .i64 h.Z,d 0,d 1,d 2,d 3,d 4] 30).alloc<|.cells #[.int .u64 0,.int .i64 0,.int .i64 0,.bool xw,.int .i64 0,.slice U 0 0,.slice U 0 0,.slice U 0 0,.slice U 0 0,.slice U 0 0] 30)<|.cells #[.int .u64 h.base,.int .i64 h.cap,.int .i64 h.to,.bool h.aa,.int .i64 h.Z,d 0,d 1,d 2,d 3,d 4] 109;simp_all;intro c h1 h2;have:c=(xz<|xj w)\/c=xz (xj w)+1:=Z0;obtain rfl|rfl:=this;rw[Zhi rfl,Zht _ _ _ Zge,Zht _ _ _ Z1];exact ZhB _ _;rw[Zhg Z0,Zht _ _ _ Z1];have:=ZhB (w.alloc<|.cells #[.int .u64 h.base,.int .i64 h.cap,.int .i64 h.to,.bool h.aa,.int .i64 h.Z,d 0,d 1,d 2,d 3,d 4] 30)<|.cells #[.int .u64 0,.int .i64 0,.int .i64 0,.bool xw,.int .i64 0,.slice U 0 0,.slice U 0 0,.slice U 0 0,.slice U 0 0,.slice U 0 0] 30;simp_all
 case round=>
  obtain⟨k,xs,rfl,hk,g⟩:=hrel;have a4:=Y2 g.out.blk;by_cases a2:k<4
  .have b4:((k+1:Nat):Int)<=4:=Z0;have c0:wr.cell? ⟨xz (xj w)+2,5+k,U⟩=J (d k):=by
    rw[Zhl _ _ _ _ _ _ g.out.blk];have h3:k=0\/k=1\/k=2\/k=3:=Z0;have hr:=g.out.rest k<|Zhc _;obtain rfl|rfl|rfl|rfl:=h3<;>simp[<-hr]
   have f0:wr.frozen? ⟨xz (xj w)+2,5+k,U⟩=xw:=YA g.out.blk;have b2:I (Zw h k)<=1000000:=R0 HH.out k
   go_wp2_with (first
    |(go_at_call 44;refine(Z7Q _ _ _ a2).mono ?_;rintro e w1 ⟨rfl,C⟩;have c1:=(C.cell (p:=⟨xz (xj w)+2,5+k,U⟩)<|by exact a4).trans c0;have f1:=(C.frozen (p:=⟨xz (xj w)+2,5+k,U⟩)<|by exact a4).trans f0;have S:=Zhf<|(HS.out k<|by omega).keep (w':=w1) (λb hb=>by rw[C.block b (by have:=hG b hb;omega)];exact g.out.below.block b<|hG b hb) (λ_ h=>h);have a5:=Zhf C;have b5:=C.size;have a3:=g.out.below.size;clear C)
    |(at_builtin;refine Eh (B:=xz<|xj w) (n:=0) (xs:=[]) rfl _ _ _ rfl QM AD rfl rfl (Ziq _ _ _ _) (by omega) (l:=(Zw h k).map vu) (Gy:=G) S.out (by grind [RM,jF]) (by grind [Yc]) ?_))
   intro v6 w6 x a f A Q;simp only[RM]at a;have W:I x=I (Zw h k):=by have:=a.1;simp_all
   rw[C2 Q W]at a;try simp only[ZhM,ZhZ,Zi8]at a
   obtain⟨P,R,X⟩:=YW a;subst X;have u:(Value.slice U 0 0).ownBlock=U:=rfl;rw[u]at f;have c6:=(f.cell_far ⟨xz (xj w)+2,5+k,U⟩ Zgc Z1).trans c1;have f6:=(f.frozen_far ⟨xz (xj w)+2,5+k,U⟩ Zgc Z1).trans f1;have q:∀c,(Value.slice P (I<|Zw h k) R).ownBlock=J c->xz (xj w1)<=c:=by
    intro c t;obtain e|⟨_,e⟩:=A;simp_all;exact(e.lt c t).1
   have HN:=Zhf<|g.out.next a2 a5.out f a q;clear a f A Q q;go_wp2;go_roundw
   case rel=>grind
   case measure=>grind [intOf]
  .have a9:k=4:=Z0;subst a9;have b0:=g.out.ra (xz<|xj w) Z0 Z0;rw[Zhi rfl]at b0;have b1:=g.out.ra (xz (xj w)+1) Z0 Z0;rw[Zhg Z0]at b1;have c9:wr.cell? ⟨xz<|xj w,9,U⟩=J (d 4):=by rw[Zhl _ _ _ _ _ _ b0];rfl
   have b2:I (Zw h 4)<=1000000:=R0 HH.out 4;have S:=Zhf<|(HS.out 4 Z0).keep (w':=wr) (λb hb=>g.out.below.block b<|hG b hb) (λ_ h=>h);have a3:=g.out.below.size;go_wp2_with (at_builtin;refine Eh (B:=xz<|xj w) (n:=0) (xs:=[]) rfl _ _ _ rfl QM AD rfl rfl (Ziq _ _ _ _) Z0 (l:=(Zw h 4).map vu) (Gy:=G) S.out (by grind [RM,jF]) (by grind [Yc]) ?_)
   intro v6 w6 x a f A Q;simp only[RM]at a;have W:I x=I (Zw h 4):=by have:=a.1;simp_all
   rw[C2 Q W]at a;try simp only[ZhM,ZhZ,Zi8]at a
   obtain⟨P,R,X⟩:=YW a;subst X;have u:(Value.slice U 0 0).ownBlock=U:=rfl;rw[u]at f;obtain⟨D,L,e0⟩:=YW<|g.out.own 0 Z0;obtain⟨F,M,e1⟩:=YW<|g.out.own 1 Z0;obtain⟨H,N,e2⟩:=YW<|g.out.own 2 Z0;obtain⟨K,O,e3⟩:=YW<|g.out.own 3 Z0;have blk:wr.heap[xz (xj w)+2]?=J (.cells #[.int .u64 h.base,.int .i64 h.cap,.int .i64 h.to,.bool h.aa,.int .i64 h.Z,.slice D (I<|Zw h 0) L,.slice F (I<|Zw h 1) M,.slice H (I<|Zw h 2) N,.slice K (I<|Zw h 3) O,d 4] 109 (0,0)):=by rw[<-e0,<-e1,<-e2,<-e3];exact g.out.blk
   have y:=(f.block (xz (xj w)+2) Z0 Z1).trans blk;have Z:=(f.block (xz (xj w)+1) Z0 Z1).trans b1;have x9:w6.cell? ⟨xz (xj w)+2,9,U⟩=J (d 4):=by rw[Zhl _ _ _ _ _ _ y];rfl
   have y9:w6.frozen? ⟨xz (xj w)+2,9,U⟩=xw:=YA y;obtain⟨Y,h7⟩:∃Y,w6.setCell ⟨xz (xj w)+2,9,U⟩ (.slice P (I<|Zw h 4) R)=Y:=⟨_,rfl⟩;have a0:Y.heap[xz (xj w)+2]?=J (.cells #[.int .u64 h.base,.int .i64 h.cap,.int .i64 h.to,.bool h.aa,.int .i64 h.Z,.slice D (I<|Zw h 0) L,.slice F (I<|Zw h 1) M,.slice H (I<|Zw h 2) N,.slice K (I<|Zw h 3) O,.slice P (I<|Zw h 4) R] 109 (0,0)):=by
    rw[<-h7];simp[World.setCell,ZhT,y]
   have T:Y.heap[xz (xj w)+1]?=J (.cells Y9 30 (0,0)):=by
    rw[<-h7,Zhv _ _ _ _ Z1];exact Z
   have l:=λj=>Zhl _ _ j _ _ _ a0;have m:=λj=>Zhl _ _ j _ _ _ T;unfold Y9 at m;have r:=λj=>YA (o:=j) T;have z:=Qo T (.int .u64 h.base) (.int .i64 h.cap) (.int .i64 h.to) (.bool h.aa) (.int .i64 h.Z) (.slice D (I<|Zw h 0) L) (.slice F (I<|Zw h 1) M) (.slice H (I<|Zw h 2) N) (.slice K (I<|Zw h 3) O)<|.slice P (I<|Zw h 4) R;have a7:Below (xz<|xj w) w Y:=by rw[<-h7];exact(g.out.below.grown f a3 Z1).setCell Z1 _
   have b3:∀c,c≠xz (xj w)+2->Y.heap[c]?=w6.heap[c]? :=λc t=>by rw[<-h7];exact Zhv _ _ _ _ t
   have q:∀c,(Value.slice P (I<|Zw h 4) R).ownBlock=J c->xz (xj wr)<=c:=by
    intro c t;obtain e|⟨_,e⟩:=A;simp_all;exact(e.lt c t).1
   clear y Z blk b0 b1 c9;go_wp2;refine Zi0 (v:=.agg #[.int .u64 h.base,.int .i64 h.cap,.int .i64 h.to,.bool h.aa,.int .i64 h.Z,.slice D (I<|Zw h 0) L,.slice F (I<|Zw h 1) M,.slice H (I<|Zw h 2) N,.slice K (I<|Zw h 3) O,.slice P (I<|Zw h 4) R]) (by simp[results,Tryz.results18,go_sem,z]) rfl ⟨λj=>if j=4 then .slice P (I<|Zw h 4) R else xs j,by simp[ZJ,e0,e1,e2,e3],TL a7 Z1,?_⟩;have a1:=λc h1 h2=>(@JE Y (xz (xj w)+1) c h1 (.int .u64 h.base) (.int .i64 h.cap) (.int .i64 h.to) (.bool h.aa) (.int .i64 h.Z) (.slice D (I<|Zw h 0) L) (.slice F (I<|Zw h 1) M) (.slice H (I<|Zw h 2) N) (.slice K (I<|Zw h 3) O)<|.slice P (I<|Zw h 4) R).trans<|b3 c h2;refine⟨λj hj=> ?_,λi j a8 hj c t=> ?_⟩;by_cases h4:j=4;subst h4;rw[Zhi rfl];exact Xs a λc t=>a1 c (by have:=q c t;omega) (by have:=q c t;omega);rw[Zhg h4];have ho:=g.out.own j Z0;exact Xs ho λc t=>by
    have h1:=g.out.ri j Z0 c t;have h2:=(ho.lt c t).2;rw[a1 c Z0 Z0,f.block c h2 Z1]
   rw[Zhg Z0]at t;by_cases h4:j=4;subst h4;rw[Zhi rfl];intro e;have h1:=q c e;have h2:=((g.out.own i Z0).lt c t).2;omega;rw[Zhg h4];exact g.out.apart i j a8 Z0 c t
def ZbI(z:Zg)(n:Nat):(Builtin.zeroCells #[z] n).toList=List.replicate n z:=by
 simp[Builtin.zeroCells];apply List.ext_getElem;simp;intro i a d;simp[Nat.mod_one]
def Z9C{P:Z5}{w:Z3}{T tI ty e:Zh}{i:TypeInfo}{z:Zg}{kn:IntKind}(Z:P.underlying T=J (.slice e))(R:P.underlying tI=J (.int kn))(Y:P.info? e=J i)(hz:i.zero=J z)
  (H:z.cells=#[z]) (h1:z.oneCell'=xk) (hs:i.size=1) (M:i.bytes=8) {B n m:Nat} {v:Zg} {xs:Zp} (l:w.ownsRow B e 1 v n xs) (hB:B<=xz (xj w)) (hm:0<m) (a1:n+m<=4294967296) (N:IntKind):
  ∃O K,(Builtin.append_ #[T,tI] ty #[v,.int N m]).run P w=.ok O K/\K.ownsRow B e 1 O (n+m) (xs++List.replicate m z)/\w.grownBy K v.ownBlock/\
   (O.ownBlock=v.ownBlock\/(w.grownBy K U/\K.ownsRow (xz<|xj w) e 1 O (n+m) (xs++List.replicate m z))):=by
 have q:I xs=n:=by have:=l.1;simpa using this
 have f:I (xs++List.replicate m z)=n+m:=by simp[q]
 have Q:n+m<=maxLen:=by simp only[maxLen];omega
 have d:∀(a:Nat),a<n+m->∀(row:Zt) (L:Ze),L=xs.toArray++(List.replicate m z).toArray->
   (w.drew.alloc<|.cells (L++Builtin.zeroCells z.cells (grownCap w (n+m) a e- (n+m))) e).ownsRow (xz<|xj w) e 1
    (.slice (J ⟨xz<|xj w,0,U⟩) (n+m)<|grownCap w (n+m) a e) (n+m) (xs++List.replicate m z)/\
   w.grownBy (w.drew.alloc<|.cells (L++Builtin.zeroCells z.cells (grownCap w (n+m) a e- (n+m))) e) row:=by
  rintro a ho row L rfl;have X:=grownCap_ge w (n+m) a e;have x:grownCap w (n+m) a e<=maxLen:=grownCap_le_maxLen w (n+m) a e Q;refine⟨⟨Zgs,.inr ⟨xz<|xj w,_,_,rfl,Zhc _,ZhB w.drew _,X,x,?_,?_⟩⟩,⟨rfl,rfl,rfl,Z1,λk F _=>Zht w.drew _ k F⟩⟩;simp only[Array.size_append,ZiF,size_zeroCells,H];simp[q];omega;simp only[Array.toList_append,ZhW];rw[<-ZhW,Zlm,<-f];exact ZkQ
 have A:Builtin.zeroCells z.cells m=(List.replicate m z).toArray:=by
  rw[H];apply Array.ext';rw[ZbI]
 obtain⟨rfl,rfl⟩|⟨g,cap,h,rfl,S,hg,a2,x,a0,p⟩:=l.2;have hx:xs=[]:=Zj0 q;subst hx;have t:=Lib.run_append_nil_zeros (P:=P) w T tI ty e i z N kn Z R Y hz m hm Z0 Z0 (by rw[M];omega);have D:=d 0 Z0;simp only[ZhZ,Zi8,Array.empty_append]at D t⊢;rw[A]at t;obtain⟨g1,g2⟩:=D U _ rfl;exact⟨_,_,t,Lt g1 hB,g2,.inr ⟨g2,g1⟩⟩;by_cases o:n+m<=cap;have r:n+I (List.replicate m z)<=h.size:=Zge;have y:=run_storeCells_at P g n e (List.replicate m z) 0 h w hg (by simpa using r) (by intro v hv;rw[List.eq_of_mem_replicate hv];exact h1);simp only[ZiS]at y;have hw:IntKind.i64.wrap (m:Int)=m:=by rw[IntKind.wrap_i64];omega
 have G:¬((m:Int)<0):=Z0;have C:¬(281474976710656< (m:Int)*8):=Z0;have F:m≠0:=Z0
 have t:(Builtin.append_ #[T,tI] ty #[.slice (J ⟨g,0,U⟩) n cap,.int N m]).run P w=
   .ok (.slice (J ⟨g,0,U⟩) (n+m) cap) (w.setRow g (h.toList.take n++List.replicate m z++h.toList.drop (n+I (List.replicate m z))).toArray):=by
  simp[Builtin.append_,ZhQ Z,ZhQ R,Go.sizeOf,typeInfo,zeroValue,Y,hz,asInt,asIntOf,hw,G,hs,M,C,F,o,A,ZiZ];simp at y;rw[y];simp
 refine⟨_,_,t,⟨Zgs,.inr ⟨g,cap,_,rfl,S,Zll w g h _ e _ hg,o,x,?_,?_⟩⟩,⟨rfl,rfl,rfl,Z1,λk _ F=>Zj4 w g k _<|λe=>F (by simp[Value.ownBlock,e])⟩,.inl rfl⟩;simp only[ZiF,ZhY,Zid,Zjg,Zjy];simp at r⊢;omega;rw[Zlm]at p⊢;rw[p,<-f];exact ZkQ;have holds:∀j u,xs[j]?=J u->w.cell? ((⟨g,0,U⟩:Addr).add j)=J u:=l.cells (g:=g) rfl;have W:=run_firstCells_some (P:=P) w.drew i.size n ⟨g,0,U⟩ n cap xs (by rw[hs,Zlm];exact q) (by simpa using holds);have t:=Lib.run_append_grow_zeros (P:=P) w T tI ty e i z N kn Z R Y hz (J ⟨g,0,U⟩) n cap xs W m hm Z0 Z0 Z0 (by rw[M];omega)<|growslice_fits Z0 (by rw[M];omega);rw[A]at t;obtain⟨g1,g2⟩:=d cap Z0 U _ rfl;obtain⟨_,g3⟩:=d cap Z0 (Value.ownBlock<|.slice (J ⟨g,0,U⟩) n cap) _ rfl;exact⟨_,_,t,Lt g1 hB,g3,.inr ⟨g2,g1⟩⟩
end Vm
end
section
namespace Vm
open Go Go.Proofs
def Hp.ex:Hp.zero.ok:=by
 refine⟨?_,?_,?_,?_,?_,?_,?_,?_,?_,?_,?_,?_,?_,?_⟩<;>simp[Hp.zero,ZB,Y7]
def M7{h:Hp}(d:h.ok){part:Int}{a n:Nat}(o:a+n<=I (Zx h part))(h2:(n:Int)<=Xt (Zv h))(p:0<n):(Xy h part a n).ok:=by
 have g:ZD (Zv h)=xk:=by
  cases j:ZD<|Zv h;have:Xt (Zv h)=0:=by unfold Xt;rw[j];rfl
  omega;rfl
 have l:Xt (Zv h)=(Zv h).cap- (Zv h).H- (Zv h).ae:=by unfold Xt;rw[g];rfl
 have k:=WG.1 g;have q:(Zv h).H=I h.H:=rfl;have r:(Zv h).ae=I h.ae:=rfl;refine⟨d.base,d.cap,d.to,d.Z,?_,d.ae,d.ah,d.aj,d.E,?_,d.ic,d.ml,d.lz,d.gc⟩;simp only[Xy,ZhY,Zjg,Zid];omega;intro w f;simp only[Xy]at f;obtain f|f:=ZhC.1 f;exact d.gq w f;exact(Xf d part).1 w (Zie<|Zjr f)
def Z0x{ws:Z6}{a:Nat}(h:∀w∈ws,ZB w):∀n,∀w∈zr ws a n,ZB w
 |0=>h
 |n+1=>by
  intro w d;obtain d|d:=ZiB d;exact Z0x h n w d;subst d;unfold ZB;omega
def Z42{h:Hp}(f:h.ok){part:Int}{a n:Nat}(g:0<n):(SW h part a n).2.1.ok/\ZB (SW h part a n).1:=by
 unfold SW;split;exact⟨Hp.ex,Zh0⟩;split;exact⟨Hp.ex,Zh0⟩;rename_i g1 g2;have j:=Xf f part;refine⟨Zbq (M7 f Z0 Z0 g) Zge ?_,Oh⟩;intro w d;obtain d|d:=ZiB d;exact Z0x j.1 _ w d;subst d;exact Oh
def H6{h:Hp}(a:h.ok){w:Int}(j:ZB w):(fwd h w).2.1.ok/\ZB (fwd h w).1:=by
 unfold fwd;split;exact⟨Hp.ex,Zh0⟩;split;exact⟨a,Zh0⟩;split;exact⟨Hp.ex,Zh0⟩;split;exact⟨Hp.ex,Zh0⟩;split;exact⟨a,j⟩;split;refine⟨a,?_⟩;generalize (ZZ (Zv h) (adr w).1).2.1.toNat=k;have g:=(Xf a (ZZ (Zv h) (adr w).1).1).1;generalize Zx h (ZZ (Zv h) (adr w).1).1=d at*;by_cases f:k<I d;have e:d.getD k 0=d[k]:=by simp[List.getD,f]
 simp only[e];exact g _<|Zhx f;have e:d.getD k 0=0:=by simp[List.getD,f]
 simp only[e];unfold ZB;omega;split;exact⟨Hp.ex,Zh0⟩;exact Z42 a Z0
def Z4k{x:Rw}(hx:x.ok):(Ub x).ok/\ZD (Zv<|Ub x)=xk/\(Ub x).E.length<=5:=by
 have key:∀c,(Yu x<|Ym x c).ok/\ZD (Zv<|Yu x<|Ym x c)=xk/\(Yu x<|Ym x c).E.length<=5:=λc=>by
  obtain⟨a,d,f⟩:=JR hx c;obtain⟨k1,g,_,_⟩:=AL (x:=x) a d;refine⟨k1,by rw[g];exact f,?_⟩;simp only[Yu,ZhM];exact a.rl
 unfold Ub jM;split;exact key xw;exact key xk
end Vm
end
section
namespace Vm
open Go Go.Proofs Go.RowKit
section
def QX:V->Value
 |.int k n=>.int k n
 |.bool b=>.bool b
 |_=>xy
def Tv:V->Bool
 |.int _ _=>xk
 |.bool _=>xk
 |_=>xw
def SM:V->Value
 |.agg a=>.agg (a.map QX).toArray
 |x=>QX x
def Tw:V->Bool
 |.agg a=>a.all Tv
 |x=>Tv x
def AA:V->Value
 |.aq l=>.tuple (l.map SM).toArray
 |x=>SM x
def yk:V->Bool
 |.aq l=>l.all Tw
 |x=>Tw x
variable {w:Z3}{G:Z4}
def Z8N{x:V}(h:Tv x=xk):Rd w G x<|QX x:=by
 cases x<;>simp[Tv]at h;exact .int _ _;exact .bool _
def Z8O{x:V}(h:Tw x=xk):Rd w G x<|SM x:=by
 cases x with
 |agg d=>
  simp only[Tw,Zhn]at h;refine .agg _ _ Z1 (λc a=> ?_) λi c a=> ?_;have:=h c a;cases c<;>simp[Tv]at this<;>rfl;have f:=Z8N (w:=w) (G:=G)<|h c<|Zhh a;have:((d.map QX).toArray).getD i xy=QX c:=by
   obtain⟨g,rfl⟩:=Zh9.1 a;simp[Array.getD,g]
  rw[this];exact f
 |int k n=>exact .int _ _
 |bool b=>exact .bool _
 |_=>simp[Tw,Tv]at h
def Z3n{x:V}{v:Zg}(h:Tv x=xk)(r:Rd w G x v):v=QX x:=by
 cases x<;>simp[Tv]at h;cases r;rfl;cases r;rfl
def Gc{x:V}{v:Zg}(h:Tw x=xk)(r:Rd w G x v):v=SM x:=by
 cases x with
 |agg a=>
  simp only[Tw,Zhn]at h;cases r with
  |agg _ vs j _ l=>
   simp only[SM,Value.agg.injEq];apply ZjX;simpa using j;intro i f o;have d:i<I a:=Z0;have g:a[i]?=J a[i]:=Zh8 d;have:=Z3n (h _<|Zhx d)<|l i _ g;simp[Array.getD,f]at this;simpa using this
 |int k n=>cases r;rfl
 |bool b=>cases r;rfl
 |_=>simp[Tw,Tv]at h
def Gd{x:V}{v:Zg}(h:yk x=xk)(r:Rd w G x v):v=AA x:=by
 cases x with
 |aq a=>
  simp only[yk,Zhn]at h;cases r with
  |aq _ vs j l=>
   simp only[AA,Value.tuple.injEq];apply ZjX;simpa using j;intro i f o;have d:i<I a:=Z0;have g:a[i]?=J a[i]:=Zh8 d;have:=Gc (h _<|Zhx d)<|l i _ g;simp[Array.getD,f]at this;simpa using this
 |agg a=>exact Gc (x:=.agg a) h r
 |int k n=>cases r;rfl
 |bool b=>cases r;rfl
 |_=>simp[yk,Tw,Tv]at h
def Tr{P:Z5}{f:Zq}{fr:Bool}{args:Zr}{r:V}(h:VC P f fr args r)(a:args.all Tw=xk)(k:yk r=xk)(w:Z3):
  Calls P f (args.map SM).toArray w λe g=>e=.returned (AA r)/\Below (xz<|xj w) w g:=by
 simp only[Zhn]at a;refine ZjU (h.2 w (λ_=>False) _ Z1 Z1 ?_) ?_;intro i x n;obtain⟨d,rfl⟩:=Zh9.1 n;have:((args.map SM).toArray).getD i xy=SM args[i]:=by simp[Array.getD,d]
 rw[this];exact Z8O<|a _<|Zhx d;rintro e g ⟨v,rfl,j,l⟩;exact⟨by rw[Gd k l],j⟩
def Wk(l:Ly):Value:=.agg #[.int .u64 l.base,.int .i64 l.cap,.int .i64 l.to,.int .i64 l.H,.int .i64 l.ae,.int .i64 l.ah,.int .i64 l.aj]
def Z9o{l:Ly}(a:l.an)(w:Z3):Calls xP 33 #[Wk l] w λe d=>e=.returned (.bool<|ZD l)/\Below (xz<|xj w) w d:=
 Tr (Qu a) rfl rfl w
def Z9q{l:Ly}(a:l.an)(w:Z3):Calls xP 82 #[Wk l] w λe d=>e=.returned (.int .i64<|Xt l)/\Below (xz<|xj w) w d:=
 Tr (Z9r a) rfl rfl w
def Fk{l:Ly}(a:l.an)(part at_:Int)(w:Z3):Calls xP 35 #[Wk l,.agg #[.int .i64 part,.int .i64 at_]] w λe d=>e=.returned (.tuple #[.int .u64 (ZU l part at_).1,.int .i64 (ZU l part at_).2])/\Below (xz<|xj w) w d:=
 Tr (Aa a) rfl rfl w
def Z3J{l:Ly}(f:l.an){a:Int}(d:ZB a)(w:Z3):Calls xP 34 #[Wk l,.int .u64 a] w λe g=>e=.returned (.tuple #[.agg #[.int .i64 (ZZ l a).1,.int .i64 (ZZ l a).2.1],.int .i64 (ZZ l a).2.2])/\Below (xz<|xj w) w g:=
 Tr (GG f d) rfl rfl w
def SE{x:Int}(hx:ZB x)(w:Z3):Calls xP 24 #[.int .u64 x] w λe a=>e=.returned (.tuple #[.int .u64 (adr x).1,.int .i64 (adr x).2])/\Below (xz<|xj w) w a:=
 Tr (QO hx) rfl rfl w
def Z8v{x:Int}(hx:ZB x)(w:Z3):Calls xP 36 #[.int .u64 x] w λe a=>e=.returned (.tuple #[.int .u64 (Xz x).1,.int .i64 (Xz x).2])/\Below (xz<|xj w) w a:=
 Tr (Oi hx) rfl rfl w
def JT{x:Int}(hx:ZB x)(w:Z3):Calls xP 81 #[.int .u64 x] w λe a=>e=.returned (.tuple #[.agg #[.int .i64 (ZS x).1,.int .i64 (ZS x).2.1],.int .i64 (ZS x).2.2])/\Below (xz<|xj w) w a:=
 Tr (Z00 hx) rfl rfl w
def Ke{h:Hp}{x:Z9}(g:∀b,G b->b<xz (xj w))(d:∀j,j<5->Rd w G (.sl<|(Zw h j).map vu) (x j)):
  Calls xP 19 #[ZJ h x] w λe f=>e=.returned (Wk<|Zv h)/\Below (xz<|xj w) w f:=by
 refine ZjU ((EB (h:=h)).2 w G _ g rfl ?_) ?_;intro i y a
 match i,a with
 |0,a=>
  cases a;refine .agg _ _ rfl (by simp[V.one]) ?_;intro i y a
  match i,a with
  |0,a=>cases a;exact .int _ _
  |1,a=>cases a;exact .int _ _
  |2,a=>cases a;exact .int _ _
  |3,a=>cases a;exact .bool _
  |4,a=>cases a;exact .int _ _
  |5,a=>cases a;exact d 0 Z0
  |6,a=>cases a;exact d 1 Z0
  |7,a=>cases a;exact d 2 Z0
  |8,a=>cases a;exact d 3 Z0
  |9,a=>cases a;exact d 4 Z0
 rintro e f ⟨v,rfl,k,l⟩;exact⟨by rw[Gd Zh2 l];rfl,k⟩
end
end Vm
end
section
namespace Vm
open Go Go.Proofs Go.RowKit
structure Now (B:Nat) (w:World) (b:Nat) (h:Hp) (x:Nat->Value):Prop where
 blk:w.heap[b]?=J (.cells #[.int .u64 h.base,.int .i64 h.cap,.int .i64 h.to,.bool h.aa,.int .i64 h.Z,x 0,x 1,x 2,x 3,x 4] 154 (0,0))
 own:HOwn B w h x
 aj:∀j,j<5->∀c,(x j).ownBlock=J c->c≠b
 new:B<=b
def Sr(h:Hp)(part:Int)(a n:Nat):Int:=(Xz (ZU (Zv<|Xy h part a n) 1<|I h.H).1).1
def Z0E(B:Nat)(w:World)(b:Nat)(h:Hp)(p a n:Nat)(e:Ending)(w':World):Prop:=
 ∃d,e=.returned (.int .u64<|Sr h (p+1) a n)/\Below B w w'/\Now B w' b (YB (Xy h (p+1) a n) (p+1)<|(zr (Zw h p) a n).set a<|Sr h (p+1) a n) d
def ZbC{P}w{o:Oper}{a K Q}s t
  (d:o.op=.call {callee:=.builtin .clear,args:=#[s],argTypes:=#[t]}) vs (g:a.eval s=vs)
  w' (f:(Builtin.clear_ #[t] o.type #[vs]).run P w=.ok (.tuple #[]) w') (h:K (a.put o.dst<|.tuple #[]) w'):o.wp P a w K Q:=by
 unfold Oper.wp execOp;simp[d,resolve,invoke,builtin,g,f];exact h
def Zbz{P}w{ops rest o a Q}(d:o.guard=U)s t
  (f:o.op=.call {callee:=.builtin .clear,args:=#[s],argTypes:=#[t]}) vs (j:a.eval s=vs)
  w' (g:(Builtin.clear_ #[t] o.type #[vs]).run P w=.ok (.tuple #[]) w') (h:wpList P ops Q rest (a.put o.dst<|.tuple #[]) w'):wpList P ops Q (o::rest) a w:=
 wpList_plain d λ_ k=>ZbC w s t f vs j w' g Zgd
def Pu{b c}(hc:c≠b):∀vs o (w:World),(w.setCells b o vs).heap[c]?=w.heap[c]?
 | [],_,_=>rfl
 |v::r,o,w=>by
  show((w.setCell ⟨b,o,U⟩ v).setCells b _ r).heap[c]?=_;rw[Pu hc r];exact Zhv _ _ _ _ hc
def Pv b:∀vs o (w:World),xz (xj<|w.setCells b o vs)=xz (xj w)
 | [],_,_=>rfl
 |v::r,o,w=>by
  show xz (xj<|(w.setCell ⟨b,o,U⟩ v).setCells b _ r)=_;rw[Pv b r];simp
def Ps{B b}(d:B<=b):∀vs o a w,Below B a w->Below B a (w.setCells b o vs)
 | [],_,_,_,h=>h
 |v::r,o,a,w,h=>Ps d r _ a _<|h.setCell d _
def N1{B g len cap L}a:∀n k (w:World),a+k+n<=len->w.ownsRow B 24 1 (.slice (J ⟨g,0,U⟩) len cap) len (Yo .u64<|zr L a k)->
  (w.setCells g (a+k)<|List.replicate n<|.int .u64 0).ownsRow B 24 1 (.slice (J ⟨g,0,U⟩) len cap) len (Yo .u64<|zr L a<|k+n)
 |0,k,w,_,h=>h
 |n+1,k,w,j,h=>by
  have d:=(h.stored (a+k)<|.int .u64 0).1;have f:(Yo .u64<|zr L a k).set (a+k) (.int .u64 0)=Yo .u64 (zr L a<|k+1):=by rw[zr,qr]
  rw[f]at d;have:=N1 a n _ _ Z0 d;rw[show k+1+n=k+(n+1)by omega]at this;exact this
def Z3a(w:World)(B b:Nat)(h:Hp)(x:Nat->Value)(q:Now B w b h x)(hB:B<=xz (xj w))(hh:h.ok)(p a n:Nat)(hp:p=2\/p=3)(S:0<n)(hn:n<=1000)(f3:(n:Int)<=Xt (Zv h))
  (g cap:Nat) (hx:x p=.slice (J ⟨g,0,U⟩) (I<|Zw h p) cap) (j0:a+n<=I (Zw h p)) (c':Nat):
  Calls xP 83 #[.pointer<|J ⟨b,0,U⟩,.slice (J ⟨g,a,U⟩) n c'] w (Z0E B w b h p a n):=by
 obtain⟨iU,e7,i7,i4,j1⟩:=info_parts Z5A;have k5:I (Zw h 0)<=1000000:=R0 hh 0;obtain⟨v1,w1,i3,f2,z,a9⟩:=Z9C (P:=xP) (w:=w) (T:=28) (tI:=3) (ty:=28) QM Z2f e7 i7 rfl rfl i4 j1 (q.own.own 0 Z0) hB S Z0 .i64;obtain⟨a0,q0,e0⟩:=YW<|q.own.own 0 Z0;have b0:w.cell? ⟨b,5,U⟩=J (x 0):=by rw[Zhl _ _ _ _ _ _ q.blk];rfl
 have f0:w.frozen? ⟨b,5,U⟩=xw:=YA q.blk;have c8:=Y2 q.blk;have F:J b≠(x 0).ownBlock:=λe=>q.aj 0 Z0 b e.symm rfl;have c1:=(z.cell_far ⟨b,5,U⟩ c8 F).trans b0;have f1:=(z.frozen_far ⟨b,5,U⟩ c8 F).trans f0;rw[e0]at i3 b0 c1;have i0:I (Yo .u64<|Zw h 0)=I (Zw h 0):=by simp[Yo]
 obtain⟨_,k0⟩|⟨g0,q1,y,j9,b3,g6,j7,j8,b1,f5⟩:=f2.2;omega;subst j9;have k2:¬q1=I (Zw h 0):=Z0;have R:g0≠b:=by
  intro e;obtain r|⟨_,r⟩:=a9;exact F (by rw[<-r,e];rfl);have:=(r.lt g0 rfl).1;omega
 have e4:g≠b:=q.aj p Z0 g (by rw[hx];rfl);have h7:g<xz (xj w):=((q.own.own p Z0).lt g (by rw[hx];rfl)).2;have e5:J g≠(x 0).ownBlock:=λe=>q.own.apart 0 p Z0 Z0 g e.symm (by rw[hx];rfl);have b4:g≠g0:=by
  intro e;obtain r|⟨_,r⟩:=a9;exact e5 (by rw[<-r,e];rfl);have:=(r.lt g0 rfl).1;omega
 obtain⟨w2,H⟩:∃w2,w2=w1.setCell ⟨b,5,U⟩ (.slice (J ⟨g0,0,U⟩) (I (Zw h 0)+n) q1):=⟨_,rfl⟩;have Q:w2.heap[g0]?=J (.cells y 24 (0,0)):=by rw[H,Zhv _ _ _ _ R];exact g6
 have h5:∀c,c≠b->c<xz (xj w)->J c≠(x 0).ownBlock->w2.heap[c]?=w.heap[c]? :=λc A h2 h3=>by
  rw[H,Zhv _ _ _ _ A,z.block c h2 h3]
 have N:w2.heap[b]?=J (.cells #[.int .u64 h.base,.int .i64 h.cap,.int .i64 h.to,.bool h.aa,.int .i64 h.Z,.slice (J ⟨g0,0,U⟩) (I (Zw h 0)+n) q1,x 1,x 2,x 3,x 4] 154 (0,0)):=by
  have:=(z.block b c8 F).trans q.blk;rw[H];simp[World.setCell,ZhT,this]
 have i8:w2.cell? ⟨b,5,U⟩=J (.slice (J ⟨g0,0,U⟩) (I (Zw h 0)+n) q1):=by rw[Zhl _ _ _ _ _ _ N];rfl
 have X:w2.ownsRow B 24 1 (x p) (I<|Zw h p)<|Yo .u64<|Zw h p:=Xs (q.own.own p Z0) λc f=>by
  rw[hx]at f;cases f;exact h5 g e4 h7 e5
 obtain⟨M,a8⟩:∃M,M=Yo .u64 (((Zw h p).take<|a+n).drop a):=⟨_,rfl⟩;have O:I M=n:=by rw[a8];simp[Yo];omega
 have i5:∀j v,M[j]?=J v->w2.cell? ((⟨g,a,U⟩:Addr).add j)=J v:=by
  intro j v hv;have o:j<n:=by rw[<-O];exact(Zh9.1 hv).1
  rw[hx]at X;have:=X.cellAt (a+j) Z0;rw[ZiZ,this];rw[a8]at hv;simp only[Yo]at hv⊢;rw[<-hv];simp[ZhL,show a+j<a+n by omega]
 obtain⟨w3,K⟩:∃w3,w3=w2.setRow g0 (y.toList.take (I<|Zw h 0)++(M++y.toList.drop (I (Zw h 0)+I M))).toArray:=⟨_,rfl⟩;have b2:I (Zw h 0)+I M<=y.size:=by rw[O];simp at b1;omega
 have i2:∀v∈M,v.oneCell'=xk:=by
  intro v hv;rw[a8]at hv;obtain⟨_,_,rfl⟩:=Zhq.1 hv;rfl
 have i1:I M=Nat.min n n:=by rw[O];simp
 have i6:(xP.info? 24).map (·.size)=J 1:=by rw[e7];simp[i4]
 have d:w3.heap[b]?=J (.cells #[.int .u64 h.base,.int .i64 h.cap,.int .i64 h.to,.bool h.aa,.int .i64 h.Z,.slice (J ⟨g0,0,U⟩) (I (Zw h 0)+n) q1,x 1,x 2,x 3,x 4] 154 (0,0)):=by
  rw[K,Zj4 _ _ _ _ R.symm];exact N
 have h8:∀c,c≠b->c≠g0->c<xz (xj w)->J c≠(x 0).ownBlock->w3.heap[c]?=w.heap[c]? :=λc A h2 h3 h4=>by
  rw[K,Zj4 _ _ _ _ h2];exact h5 c A h3 h4
 have k3:xz (xj w)<=xz (xj w3):=by
  have:=z.size;have e2:xz (xj w2)=xz (xj w1):=by rw[H];simp[World.setCell]
  have e3:xz (xj w3)=xz (xj w2):=by rw[K];simp[World.setRow]
  omega
 have j4:Zw (Xy h (p+1) a n) 0=Zw h 0++((Zw h p).take<|a+n).drop a:=by
  obtain rfl|rfl:=hp<;>rfl
 have h9:∀j,j≠0->Zw (Xy h (p+1) a n) j=Zw h j:=λj o=>by
  unfold Zw Xy;simp[o]
 have Y:∀j,j<5->w3.ownsRow B 24 1 (if j=0 then .slice (J ⟨g0,0,U⟩) (I (Zw h 0)+n) q1 else x j) (I<|Zw (Xy h (p+1) a n) j) (Yo .u64<|Zw (Xy h (p+1) a n) j):=by
  intro j o;by_cases e8:j=0;subst e8;rw[Zhi rfl,j4];have hd:I (((Zw h p).take<|a+n).drop a)=n:=Zge;refine⟨by simp[Yo],.inr ⟨g0,q1,(y.toList.take (I<|Zw h 0)++(M++y.toList.drop (I (Zw h 0)+I M))).toArray,?_,b3,?_,?_,j8,?_,?_⟩⟩;rw[ZhY,hd];rw[K];exact Zll _ _ _ _ _ _ Q;rw[ZhY,hd];exact j7;simp[O]at b1 b2⊢;omega;have ht:y.toList.take (I<|Zw h 0)=Yo .u64 (Zw h 0):=by
   have:=Zii (List.take<|I<|Zw h 0) f5;rw[List.take_take,Zlg Z0]at this;rw[this,List.take_left' i0]
  rw[ZhY,hd,ht];simp only[Zlm];rw[<-ZhW,List.take_left' (by simp[i0,O]),a8];simp[Yo];rw[Zhg e8,h9 j e8];have ho:=q.own.own j o
  exact Xs ho λc f=>h8 c (q.aj j o c f) (λe=>by
   obtain r|⟨_,r⟩:=a9;exact q.own.apart 0 j Z0 o c (by rw[<-r,e];rfl) f;have A:=(r.lt g0 rfl).1;have h2:=(ho.lt c f).2;omega) (ho.lt c f).2 (λe=>q.own.apart 0 j Z0 o c e.symm f)
 have g7:∀j,0<j->j<5->(x j).ownBlock≠J g0:=λj h0 o f=>by
  obtain r|⟨_,r⟩:=a9;exact q.own.apart 0 j h0 o g0 (by rw[<-r];rfl) f;have A:=(r.lt g0 rfl).1;have h2:=((q.own.own j o).lt g0 f).2;omega
 have j2:∀j,j<5->j≠p->(x j).ownBlock≠J g:=λj o F f=>by
  have h6:(x p).ownBlock=J g:=by rw[hx];rfl
  obtain A|A:=Zjl F;exact q.own.apart j p A Z0 g f h6;exact q.own.apart p j A o g h6 f
 have g9:B<=g:=((q.own.own p Z0).lt g (by rw[hx];rfl)).1;have b5:=q.own.own p Z0;rw[hx]at b5;have Z:∀W:World,W.heap[g]?=w.heap[g]? ->W.ownsRow B 24 1 (.slice (J ⟨g,0,U⟩) (I<|Zw h p) cap) (I<|Zw h p) (Yo .u64<|Zw h p):=λW hW=>Xs b5 λc f=>by
  cases f;exact hW
 have j5:I (Yo .u64<|Zw h p)=I (Zw h p):=by simp[Yo]
 have l:∀W:World,W.heap[g]?=w.heap[g]? ->(∀j,j<n->(W.cell? ⟨g,a+j,U⟩).isSome=xk)/\(∀j,j<n->W.frozen? ⟨g,a+j,U⟩=xw):=λW hW=>⟨λj o=>by
  rw[(Z W hW).cellAt (a+j) Z0];simp[j5];omega,λj o=>(Z W hW).frozenAt _⟩
 have g8:w3.heap[g]?=w.heap[g]? :=h8 g e4 b4 h7 e5;have HN:=Zhf q;have HO:=Zhf f2;have HG:=Zhf z;have f9:=Zhf H;have g3:=Zhf K;have f8:=Zhf Y;have d0:w3.cell? ⟨b,0,U⟩=J (Value.int .u64 h.base):=Zgn;have d1:w3.cell? ⟨b,1,U⟩=J (Value.int .i64 h.cap):=Zgn;have d2:w3.cell? ⟨b,2,U⟩=J (Value.int .i64 h.to):=Zgn;have d3:w3.cell? ⟨b,3,U⟩=J (Value.bool h.aa):=Zgn;have d4:w3.cell? ⟨b,4,U⟩=J (Value.int .i64 h.Z):=Zgn;have d5:w3.cell? ⟨b,5,U⟩=J (Value.slice (J ⟨g0,0,U⟩) (I (Zw h 0)+n) q1):=Zgn;have d6:w3.cell? ⟨b,6,U⟩=J (x 1):=Zgn;have d7:w3.cell? ⟨b,7,U⟩=J (x 2):=Zgn;have d8:w3.cell? ⟨b,8,U⟩=J (x 3):=Zgn;have d9:w3.cell? ⟨b,9,U⟩=J (x 4):=Zgn;have j6:(Xy h (p+1) a n).ok:=M7 hh (by obtain rfl|rfl:=hp<;>exact j0) f3 S;clear q f2 z H K Y;go_enter Fb,Tryz.ntmps83
 go_wp2_with (first
  |(at_builtin;refine Lib.wpList_append_run _ rfl _ _ 28 3 rfl _ _ rfl rfl _ _ i3 ?_)
  |(rw[<-f9.out];refine wpList_copy_own rfl _ _ 28 28 rfl 24 QM i6 g0 (I<|Zw h 0) n (q1- I (Zw h 0)) ⟨g,a,U⟩ n c' rfl rfl y 24 Q M i1 i5 b2 i2 ?_;rw[<-g3.out])
  |(go_at_call 19;refine(Ke (h:=Xy h (p+1) a n) (x:=λj=>if j=0 then .slice (J ⟨g0,0,U⟩) (I (Zw h 0)+n) q1 else x j) (G:=λc=>B<=c/\c<xz (xj w3)) (λc f=>f.2)<|λj o=>qG (f8.out j o) (λc A h2=>⟨A,h2⟩)).mono ?_;rintro e w4 ⟨rfl,g5⟩;have t:=Zhf g5;clear g5)
  |(go_at_call 35;refine(Fk j6.be _ _ _).mono ?_;rintro e C ⟨rfl,a6⟩;have D:C.heap[g]?=w.heap[g]? :=(a6.block g (by have:=t.out.size;omega)).trans<|(t.out.block g<|by omega).trans g8;have k7:xz (xj w3)<=xz (xj C):=ZhD t.out.size a6.size;have a4:=Zhf a6;clear a6;obtain⟨w6,a3⟩:∃w6,w6=C.setCells g a (List.replicate n<|.int .u64 0):=⟨_,rfl⟩;have k8:xz (xj w6)=xz (xj C):=by {rw[a3];exact Pv _ _ _ _};have c6:w6.cell? ⟨g,a,U⟩=J (.int .u64 0):=by {rw[a3];have:=World.cell?_setCells_in g (List.replicate n<|Value.int .u64 0) a C (by simpa using(l C D).1) 0 (by simpa using S);simpa using this};have f6:w6.frozen? ⟨g,a,U⟩=xw:=by {rw[a3,World.frozen?_setCells];exact(l C D).2 0 S};have a5:=Zhf a3;clear a3)
  |(refine Zbz _ rfl _ 28 rfl _ rfl _ (Lib.run_clear_slice _ _ 24 _ (.int .u64 0) QM (js e7 i7) rfl rfl g a n c' S (l C D).1 (l C D).2) ?_;rw[<-a5.out])
  |(go_at_call 36;refine(Z8v Fl _).mono ?_;rintro e w7 ⟨rfl,a7⟩;have c7:=(a7.cell (p:=⟨g,a,U⟩) (by show g<xz (xj w6);omega)).trans c6;have f7:=(a7.frozen (p:=⟨g,a,U⟩) (by show g<xz (xj w6);omega)).trans f6;have b6:=Zhf a7;clear a7))
 go_ret
 have b7:Below B w w3:=by
  rw[g3.out,f9.out];exact Go.below_setRow (Below.setCell (p:=⟨b,5,U⟩) ((Zhw B w).grown HG.out hB<|λk hk=>((HN.out.own.own 0 Z0).lt k hk).1) HN.out.new _) b3 _
 have i9:B<=xz (xj w3):=Z0;have b8:Below B w C:=(b7.trans<|t.out.mono i9).trans<|a4.out.mono (by have:=t.out.size;omega);have b9:Below B w w6:=by rw[a5.out];exact Ps g9 _ _ _ _ b8
 have c0:Below B w w7:=b9.trans<|b6.out.mono Z0;have k6:=t.out.size;have k4:=a4.out.size;have g4:∀(c:Nat) (u:Value),c≠g->c<xz (xj w3)->(w7.setCell ⟨g,a,U⟩ u).heap[c]?=w3.heap[c]? :=λc u A h2=>by
  rw[Zhv _ _ _ _ A,b6.out.block c Z0,a5.out,Pu A,a4.out.block c Z0,t.out.block c h2]
 have D:C.heap[g]?=w.heap[g]? :=(a4.out.block g Z0).trans<|(t.out.block g Z0).trans g8;have a1:=N1 (L:=Zw h p) a n 0 C Z0<|Z C D;have e6:C.setCells g (a+0) (List.replicate n<|.int .u64 0)=w6:=a5.out.symm;rw[e6,ZhZ]at a1;have f4:=Xs (w':=w7) a1 λc f=>by
  cases f;exact b6.out.block g Z0
 have a2:=(f4.stored a<|.int .u64<|Sr h (p+1) a n).1;rw[<-qr]at a2;refine⟨λj=>if j=0 then .slice (J ⟨g0,0,U⟩) (I (Zw h 0)+n) q1 else x j,rfl,c0.setCell g9 _,?_,⟨?_,?_⟩,?_,HN.out.new⟩;rw[g4 b _ (λe=>e4 e.symm) Z0,d];obtain rfl|rfl:=hp<;>rfl;intro j o;by_cases e9:j=p;subst e9;have r:Zw (YB (Xy h (j+1) a n) (j+1)<|(zr (Zw h j) a n).set a<|Sr h (j+1) a n) j=(zr (Zw h j) a n).set a (Sr h (j+1) a n):=by
  obtain rfl|rfl:=hp<;>rfl
 rw[r,Zhg Z0,hx,Zjt,zw];exact a2;have r:Zw (YB (Xy h (p+1) a n) (p+1)<|(zr (Zw h p) a n).set a<|Sr h (p+1) a n) j=Zw (Xy h (p+1) a n) j:=by
  have:j=0\/j=1\/j=2\/j=3\/j=4:=Z0;obtain rfl|rfl:=hp<;>obtain rfl|rfl|rfl|rfl|rfl:=this<;>first|rfl|exact(e9 rfl).elim
 rw[r];have ho:=f8.out j o;refine Xs ho λc f=>g4 c _ (λe=> ?_) (ho.lt c f).2;subst e;by_cases h0:j=0;rw[Zhi h0]at f;cases f;exact b4 rfl;rw[Zhg h0]at f;exact j2 j o e9 f;intro i j j3 o c f;rw[Zhg (Z0:¬j=0)];by_cases h0:i=0;rw[Zhi h0]at f;cases f;exact g7 j Z0 o;rw[Zhg h0]at f;exact HN.out.own.apart i j j3 o c f;intro j o c f;by_cases h0:j=0;rw[Zhi h0]at f;cases f;exact R;rw[Zhg h0]at f;exact HN.out.aj j o c f
end Vm
namespace Vm
open Go Go.Proofs Go.RowKit
def Z3Z(w:World)(B b:Nat)(h:Hp)(x:Nat->Value)(j:Now B w b h x)(o:h.ok)(p a:Nat)(q:p=2\/p=3)(g cap:Nat)
  (hx:x p=.slice (J ⟨g,0,U⟩) (I<|Zw h p) cap) (y:a< I (Zw h p)):
  Calls xP 80 #[.pointer<|J ⟨b,0,U⟩,.agg #[.int .i64<|(p:Int)+1,.int .i64 a]] w λe r=>e=.returned (.slice (J ⟨g,a,U⟩) (I (Zw h p)-a)<|cap-a)/\Below (xz<|xj w) w r:=by
 have f:=Y2 j.blk;have z:=R0 o p;have l:I (Zw h p)<=cap:=by
  have:=(j.own.own p Z0).2;rw[hx]at this;obtain⟨k,_⟩|⟨_,_,_,k,_,_,n,_⟩:=this;cases k;cases k;exact n
 obtain rfl|rfl:=q
 .have t:(w.alloc<|.cells #[.int .i64 3,.int .i64 a] 95).cell? ⟨b,7,U⟩=J (.slice (J ⟨g,0,U⟩) (I<|Zw h 2) cap):=by
   rw[ZiC _ _ _ f,Zhl _ _ _ _ _ _ j.blk,<-hx];rfl
  have d:(I (Zw h 2):Int)<=9223372036854775807:=Z0;go_enter A5,Tryz.ntmps80;go_wp2;go_region;go_wp2;go_ret
  exact⟨rfl,((Zhw _ _).alloc (Zhc _) _).drew⟩
 .have u:(w.alloc<|.cells #[.int .i64 4,.int .i64 a] 95).cell? ⟨b,8,U⟩=J (.slice (J ⟨g,0,U⟩) (I<|Zw h 3) cap):=by
   rw[ZiC _ _ _ f,Zhl _ _ _ _ _ _ j.blk,<-hx];rfl
  have d:(I (Zw h 3):Int)<=9223372036854775807:=Z0;go_enter A5,Tryz.ntmps80;go_wp2;go_region;go_wp2;go_ret
  exact⟨rfl,((Zhw _ _).alloc (Zhc _) _).drew⟩
end Vm
namespace Vm
open Go Go.Proofs Go.RowKit
def FwdPost(w:World)(r:Int×Hp×Int)(e:Ending)(w':World):Prop:=
 ∃x,e=.returned (.tuple #[.int .u64 r.1,ZJ r.2.1 x,.int .i64 r.2.2])/\Below (xz<|xj w) w w'/\HOwn (xz<|xj w) w' r.2.1 x
def qH{B' B}{w:World}{e n v l}(h:w.ownsRow B' e 1 v n l)(k:∀c,B'<=c->c<xz (xj w)->B<=c/\c<xz (xj w)):w.ownsRow B e 1 v n l:=by
 refine⟨h.1,?_⟩;obtain d|⟨g,cap,a,j,o,f,r⟩:=h.2;exact .inl d;exact .inr ⟨g,cap,a,j,Zgc,f,r⟩
def Kb w' G:∀j,j<5->Rd w' G (.sl<|(Zw Hp.zero j).map vu) (.slice U 0 0):=λj a=>by
 have:Zw Hp.zero j=[]:=by
  unfold Zw Hp.zero;split;rfl;split;rfl;split;rfl;split<;>rfl
 rw[this];exact .nil _ _ (by unfold maxLen;omega)
def ZbL B w':HOwn B w' Hp.zero (λ_=>.slice U 0 0):=⟨λj d=>by
 have:Zw Hp.zero j=[]:=by
  unfold Zw Hp.zero;split;rfl;split;rfl;split;rfl;split<;>rfl
 rw[this];exact Ziq _ _ _ _,λi j _ _ c a=>by cases a⟩
def QE(w:World)(o:Obj):((w.alloc o).alloc<|.cells #[.int .u64 0,.int .i64 0,.int .i64 0,.bool xw,.int .i64 0,.slice U 0 0,.slice U 0 0,.slice U 0 0,.slice U 0 0,.slice U 0 0] 30).heap[xz (xj w)+1]?=J (.cells Y9 30 (0,0)):=by
 have e:xz (xj<|w.alloc o)=xz (xj w)+1:=Z1;have:=ZhB (w.alloc o)<|.cells Y9 30;rw[e]at this;exact this
end Vm
namespace Vm
open Go Go.Proofs Go.RowKit
def Eg(h:Hp)(x:Nat->Value):Obj:=.cells #[.int .u64 h.base,.int .i64 h.cap,.int .i64 h.to,.bool h.aa,.int .i64 h.Z,x 0,x 1,x 2,x 3,x 4] 154
def Z71{B a h x}(f:HOwn B a h x)(k:B<=xz (xj a)):Now B (a.alloc<|Eg h x) (xz<|xj a) h x:=by
 refine⟨ZhB a _,⟨λj d=> ?_,f.apart⟩,λj d c g=> ?_,k⟩;exact Xs (f.own j d) λc g=>Zht _ _ _ ((f.own j d).lt c g).2;have:=((f.own j d).lt c g).2;omega
def MZ{w:World}{B n q e z a v xs}(h:w.ownsRow B e z v n xs)(j:v=.slice a n q)(l:0<n):∃g,a=J ⟨g,0,U⟩:=by
 subst j;obtain⟨_,k⟩|⟨g,cap,d,f,_⟩:=h.2;omega;cases f;exact⟨g,rfl⟩
def Z7H{w:World}{B n q e z a xs}(h:w.ownsRow B e z (.slice a n q) n xs)(o:0<n):n<=q/\q<=maxLen:=by
 obtain⟨_,l⟩|⟨g,cap,d,k,_,_,f,j,_⟩:=h.2;omega;cases k;exact⟨f,j⟩
def Z7I{w:World}{B g cap l}(h:w.ownsRow B 24 1 (.slice (J ⟨g,0,U⟩) (I l) cap) (I l)<|Yo .u64 l){i v}(a:l[i]?=J v):w.cell? ⟨g,i,U⟩=J (.int .u64 v):=by
 let⟨d,f⟩:=Zh9.1 a;rw[h.cellAt i Z0];simp[Yo,a]
abbrev UQ:=List<|Nat×Array Value×TypeId
structure Kp (w W:World) (L:UQ):Prop where
 dm:Below (xz<|xj w) w W
 row:∀x∈L,W.heap[x.1]?=J (.cells x.2.1 x.2.2 (0,0))
def Kf(W:World):UQ->Prop
 | []=>True
 |x::L=>((∀j,W.cell? ⟨x.1,j,U⟩=x.2.1[j]?)/\∀j,W.frozen? ⟨x.1,j,U⟩=xw)/\Kf W L
def Kp.below{w W a:World}{L:UQ}(k:Kp w W L)(d:Below (xz<|xj W) W a):Kp w a L:=⟨k.dm.trans<|d.mono k.dm.size,λx f=>(d.block _<|Y2<|k.row x f).trans<|k.row x f⟩
def Kp.alloc{w W:World}{L:UQ}(k:Kp w W L)(cs:Array Value)(T:TypeId){n:Nat}(d:xz (xj W)=n:=by first|rfl):Kp w (W.alloc<|.cells cs T)<|(n,cs,T)::L:=by
 subst d;refine⟨k.dm.alloc k.dm.size _,λx a=> ?_⟩;obtain rfl|a:=Zhs.1 a;exact ZhB W _;rw[Zht _ _ _<|Y2<|k.row x a];exact k.row x a
def Kp.F{w W:World}:∀ {L:UQ},Kp w W L->Kf W L
 | [],_=>trivial
 |x::L,k=>⟨⟨λj=>Zhl _ _ _ _ _ _<|k.row x<|.head _,λj=>YA<|k.row x<|.head _⟩,Kp.F ⟨k.dm,λy a=>k.row y<|.tail _ a⟩⟩
def Now.below{B b:Nat}{W a:World}{h:Hp}{x:Nat->Value}(s:Now B W b h x)(d:Below (xz<|xj W) W a):Now B a b h x:=
 ⟨(d.block _<|Y2 s.blk).trans s.blk,⟨λj f=>Xs (s.own.own j f) λc g=>d.block _ ((s.own.own j f).lt c g).2,s.own.apart⟩,s.aj,s.new⟩
abbrev UI(h:Hp)(a:Nat->Option Addr)(q:Nat->Nat):Nat->Value:=λj=>.slice (a j) (I<|Zw h j)<|q j
def HOwn.lc{B:Nat}{w:World}{h:Hp}{x:Nat->Value}(o:HOwn B w h x):∃a q,ZJ h x=ZJ h (UI h a q)/\HOwn B w h (UI h a q):=by
 have:∀j,∃p:Option Addr×Nat,j<5->x j=.slice p.1 (I<|Zw h j) p.2:=λj=>by
  by_cases d:j<5;obtain⟨a,q,e⟩:=YW<|o.own j d;exact⟨(a,q),λ_=>e⟩;exact⟨(U,0),λh=>absurd h d⟩
 obtain⟨f,e⟩:=ZjZ this;refine⟨λj=>(f j).1,λj=>(f j).2,?_,λj d=> ?_,λi j g d c k=> ?_⟩;simp only[ZJ,e 0 Z0,e 1 Z0,e 2 Z0,e 3 Z0,e 4 Z0];have:=o.own j d;rwa[e j d]at this;have:=o.apart i j g d c;rw[e i Z0,e j d]at this;exact this k
def ZbM{w W:World}{L:UQ}(k:Kp w W L){rb:Nat}(a:xz (xj w)<=rb){r:Int×Hp×Int}{c:Int}(e:r=(0,Hp.zero,c)):
  FwdPost w r (.returned<|.tuple #[.int .u64 0,.agg Y9,.int .i64 r.2.2]) (Ri W rb (.int .u64 0) (.int .i64 0) (.int .i64 0) (.bool xw) (.int .i64 0) (.slice U 0 0) (.slice U 0 0) (.slice U 0 0) (.slice U 0 0)<|.slice U 0 0):=by
 subst e;exact⟨λ_=>.slice U 0 0,by simp[ZJ,Hp.zero,Y9],TL k.dm a,ZbL _ _⟩
def FwdPost.drew{w W:World}{r:Int×Hp×Int}{e:Ending}(p:FwdPost w r e W):FwdPost w r e W.drew:=by
 obtain⟨x,d,f,a⟩:=p;exact⟨x,d,f.drew,⟨λj g=>Xs (a.own j g) λc h=>rfl,a.apart⟩⟩
def Hh{w W:World}{rb B:Nat}{L:UQ}(k:Kp w W L)(f:xz (xj w)<=rb)(p:rb<B){h:Hp}{x:Nat->Value}(o:HOwn B W h x){r:Int×Hp×Int}(c:Int)(e:r=(c,h,0)):
  FwdPost w r (.returned<|.tuple #[.int .u64 c,ZJ h x,.int .i64 0]) (RB W rb h x):=by
 subst e;refine⟨x,rfl,TL k.dm f,λj l=> ?_,o.apart⟩;have a:=o.own j l;exact qH (Xs a λc g=>JE (by have:=(a.lt c g).1;omega)) λc n d=>⟨Z0,d⟩
def EI(w:World)(G:Nat->Prop)(n:∀b,G b->b<xz (xj w))(h:Hp)(p:h.ok)(d:Nat->Value)(t:∀j,j<5->Rd w G (.sl<|(Zw h j).map vu) (d j)):
  Calls xP 18 #[ZJ h d] w λe g=>∃a q,e=.returned (ZJ h<|UI h a q)/\Below (xz<|xj w) w g/\HOwn (xz<|xj w) g h (UI h a q):=
 (EJ w G n h p d t).mono λe g ⟨x,k,o,r⟩=>by
  obtain⟨a,q,l,f⟩:=r.lc;exact⟨a,q,by rw[k,l],o,f⟩
def Z43{h:Hp}(P:h.ok){v:Int}(S:ZB v):
  (ZD (Zv h)=xw/\fwd h v=(0,Hp.zero,1))\/(ZD (Zv h)=xk/\¬v=0/\¬(adr v).2=0/\fwd h v=(0,Hp.zero,3))\/(ZD (Zv h)=xk/\¬v=0/\(adr v).2=0/\¬(ZZ (Zv h) (adr v).1).2.2=0/\fwd h v=(0,Hp.zero,6))\/
  (ZD (Zv h)=xk/\v=0/\fwd h v=(0,h,0))\/(∃(part:Int) (at_:Nat),ZD (Zv h)=xk/\¬v=0/\(adr v).2=0/\ZZ (Zv h) (adr v).1=(part,(at_:Int),0)/\(part=1\/part=2)/\fwd h v=(v,h,0))\/
  ∃(j at_:Nat) (f:Int),ZD (Zv h)=xk/\¬v=0/\(adr v).2=0/\ZZ (Zv h) (adr v).1=((j:Int)+1,(at_:Int),0)/\(j=2\/j=3)/\(Zw h j)[at_]?=J f/\ZB f/\
   (((adr f).2=0/\fwd h v=(f,h,0))\/(¬(adr f).2=0/\∃(sz:Nat) (pt x:Int),ZS f=((sz:Int),pt,x)/\sz<=255/\
     ((¬x=0/\fwd h v=(0,Hp.zero,3))\/(x=0/\I (Zw h j)<at_+(sz+1)/\fwd h v=(0,Hp.zero,2))\/
       (x=0/\at_+(sz+1)<=I (Zw h j)/\Xt (Zv h)< ((sz+1:Nat):Int)/\fwd h v=(0,Hp.zero,7))\/
       (x=0/\at_+(sz+1)<=I (Zw h j)/\¬Xt (Zv h)< ((sz+1:Nat):Int)/\
        fwd h v=(Sr h ((j:Int)+1) at_<|sz+1,YB (Xy h ((j:Int)+1) at_<|sz+1) ((j:Int)+1)<|(zr (Zw h j) at_<|sz+1).set at_<|Sr h ((j:Int)+1) at_<|sz+1,0))))):=by
 cases p:ZD<|Zv h;exact .inl ⟨rfl,by simp[fwd,p]⟩;by_cases a:v=0;exact .inr<|.inr<|.inr<|.inl ⟨rfl,a,by simp[fwd,p,a]⟩;by_cases o:(adr v).2=0;case neg=>exact .inr<|.inl ⟨rfl,a,o,by simp[fwd,p,a,o]⟩
 by_cases D:(ZZ (Zv h) (adr v).1).2.2=0;case neg=>exact .inr<|.inr<|.inl ⟨rfl,a,o,D,by simp[fwd,p,a,o,D]⟩
 obtain⟨_,L,M,N,G,_⟩:=Z3K D;rw[Ti ⟨L,M⟩]at G;obtain⟨k,K⟩:=Zhp N;have t:ZZ (Zv h) (adr v).1=((ZZ (Zv h) (adr v).1).1,(k:Int),0):=by rw[<-K,<-D]
 rw[K]at G;generalize (ZZ (Zv h) (adr v).1).1=part at*;by_cases u:part<3;exact .inr<|.inr<|.inr<|.inr<|.inl ⟨part,k,rfl,a,o,t,Z0,by simp[fwd,p,a,o,t,u]⟩;obtain⟨j,Q,rfl,l⟩:∃j:Nat,(j=2\/j=3)/\(j:Int)+1=part/\Zx h part=Zw h j:=by
  have:part=3\/part=4:=Z0;obtain rfl|rfl:=this;exact⟨2,.inl rfl,rfl,rfl⟩;exact⟨3,.inr rfl,rfl,rfl⟩
 have r:=(Xf P<|(j:Int)+1).1;rw[l]at G r;have y:k< I (Zw h j):=Z0;have C:(Zw h j)[k]?=J (Zw h j)[k]:=Zh8 y;replace r:=r _<|Zhx y;generalize (Zw h j)[k]=f at*;have z:(Zw h j).getD k 0=f:=by simp[List.getD,C]
 refine .inr<|.inr<|.inr<|.inr<|.inr ⟨j,k,f,rfl,a,o,t,Q,C,r,?_⟩;by_cases g:(adr f).2=0;exact .inl ⟨g,by simp[fwd,p,a,o,t,u,l,-List.getD_eq_getElem?_getD,z,g]⟩;refine .inr ⟨g,?_⟩;by_cases d:(ZS f).2.2=0;have R:=YN.1<|DZ (w:=f) d;obtain⟨n,F⟩:=Zhp R.1;have H:ZS f=((n:Int),(ZS f).2.1,(ZS f).2.2):=by rw[<-F]
 refine⟨n,_,_,H,Z0,.inr ?_⟩;by_cases q:I (Zw h j)<k+(n+1);exact .inl ⟨d,q,by simp[fwd,SW,p,a,o,t,u,l,-List.getD_eq_getElem?_getD,z,g,d,F,q]⟩;by_cases A:Xt (Zv h)< ((n+1:Nat):Int);exact .inr<|.inl ⟨d,Z0,A,by simp[fwd,SW,p,a,o,t,u,l,-List.getD_eq_getElem?_getD,z,g,d,F,q];omega⟩;refine .inr<|.inr ⟨d,Z0,A,?_⟩;have B:¬Xt (Zv h)< (n:Int)+1:=Z0;simp only[fwd,p,a,o,t,Zif,Zi9,ZkF,Zls,ZkU];simp[-List.getD_eq_getElem?_getD,u,l,z,g,F,d,SW,q,B];exact⟨rfl,rfl⟩;have O:ZS f=(((0:Nat):Int),(ZS f).2.1,(ZS f).2.2):=by
  unfold ZS at d⊢;split;rename_i c;rw[Zhi c]at d;exact absurd rfl d;rfl
 exact⟨0,_,_,O,Z0,.inl ⟨d,by simp[fwd,p,a,o,t,u,l,-List.getD_eq_getElem?_getD,z,g,d]⟩⟩
abbrev FwQ{w W:World}{L:UQ}{B b c d:Nat}{h:Hp}{x:Nat->Value}{r s:Array Value}{T S:TypeId}(_:Hid<|Kp w W L)(_:Hid<|Now B W b h x)(_:(c,r,T)∈L)(_:(d,s,S)∈L)(W:World):Prop:=
 (∀j,W.cell? ⟨c,j,U⟩=r[j]?)/\(∀j,W.cell? ⟨d,j,U⟩=s[j]?)/\Kp w W L/\Now B W b h x
theorem FwQ.of{w W V:World}{L:UQ}{B b c d:Nat}{h:Hp}{x:Nat->Value}{r s:Array Value}{T S:TypeId}{k:Hid (Kp w W L)}{n:Hid (Now B W b h x)}{m:(c,r,T)∈L}{m':(d,s,S)∈L}(e:Kp w V L)(o:Now B V b h x):FwQ k n m m' V:=
 ⟨λj=>Zhl _ _ _ _ _ _<|e.row _ m,λj=>Zhl _ _ _ _ _ _<|e.row _ m',e,o⟩
def Kp.drew{w W:World}{L:UQ}(k:Kp w W L):Kp w W.drew L:=⟨k.dm.drew,k.row⟩
def Now.drew{B b:Nat}{W:World}{h:Hp}{x:Nat->Value}(s:Now B W b h x):Now B W.drew b h x:=⟨s.blk,⟨λj a=>Xs (s.own.own j a) λc d=>rfl,s.own.apart⟩,s.aj,s.new⟩
def Kp.sub{w W a:World}{L:UQ}(k:Kp w W L){B c:Nat}{r:Array Value}{T:TypeId}(d:Below B W a)(f:xz (xj w)<=B)(m:(c,r,T)∈L)(hc:c<B):Kp w a [(c,r,T)]:=
 ⟨k.dm.trans<|d.mono f,λx g=>by
  cases Zic.1 g;exact(d.block _ hc).trans (k.row _ m)⟩
def Now.lc{B b:Nat}{W:World}{h:Hp}{x:Nat->Value}(s:Now B W b h x):∃a q,Now B W b h<|UI h a q:=by
 obtain⟨a,q,e,o⟩:=s.own.lc;simp only[ZJ,Value.agg.injEq]at e;have d:=s.blk;rw[e]at d;refine⟨a,q,d,o,λj f c g=> ?_,s.new⟩;simp at e;have:=s.aj j f c
 match j,f with
 |0,_|1,_|2,_|3,_|4,_=>simp_all
def qF{w:World}{B g cap:Nat}{l:List Int}{a:Option Addr}(h:w.ownsRow B 24 1 (.slice a (I l) cap) (I l)<|Yo .u64 l)(d:a=J ⟨g,0,U⟩){i:Nat}{v:Int}(f:l[i]?=J v):w.cell? ⟨g,i,U⟩=J (.int .u64 v):=by
 subst d;exact Z7I h f
def Z0K(w:World)(G:Nat->Prop)(hG:∀b,G b->b<xz (xj w))(h:Hp)(hh:h.ok)(f:Nat->Value)(hs:∀j,j<5->Rd w G (.sl<|(Zw h j).map vu) (f j))(v:Int)(hv:ZB v):
  Calls xP 64 #[ZJ h f,.int .u64 v] w (FwdPost w<|fwd h v):=by
 have HS:=Zhf hs;have K:=Zhf hh;have HW:=Z43 hh hv;clear hs hh;have KZ:=Zhf<|((Kp.mk (Zhw (xz<|xj w) w) (L:=[]) nofun).alloc #[.int .u64 h.base,.int .i64 h.cap,.int .i64 h.to,.bool h.aa,.int .i64 h.Z,f 0,f 1,f 2,f 3,f 4] 30).alloc Y9 30 (n:=xz (xj w)+1) Z1;unfold ZJ;go_enter F6,Tryz.ntmps64;obtain⟨hr,d⟩|⟨hr,a1,h1,d⟩|⟨hr,a1,h1,h2,d⟩|⟨hr,rfl,d⟩|⟨part,at_,hr,a1,h1,hf,rfl|rfl,d⟩|⟨j,at_,wd,hr,a1,h1,hf,O,u,b0,H⟩:=HW
 rotate_right
 have h5:j<5:=Z0;have hp:(j:Int)+1=3\/(j:Int)+1=4:=by clear H;omega
 have b4:=(Zh9.1 u).1;have e5:=R0 K.out j;obtain⟨m,hm⟩:∃m,I (Zw h j)-at_=m:=⟨_,rfl⟩;have e3:0<m:=Z0;have e4:(0:Int)< (m:Int):=Z0;have hz:at_+0=at_:=rfl;have e6:m<=1000000:=Z0;have e2:at_+m=I (Zw h j):=Z0;generalize b5:(j:Int)+1=part at hp hf;obtain⟨H,d⟩|⟨H,sz,pt,er,c0,g3,⟨Z,d⟩|⟨Z,t,d⟩|⟨Z,t,a8,d⟩|⟨Z,t,a8,d⟩⟩:=H;iterate 5 (obtain rfl|rfl:=hp;rotate_left 2)
 all_goals
  go_wp2_with (first
   |(go_at_call 80;obtain⟨g,hg⟩:=MZ (N6.out.own.own j h5) rfl (by omega);have a0:=Z3Z _ _ _ h _ N6.out K.out j at_ O g (q j) (by simp[UI,hg]) b4;rw[b5,hm]at a0;refine a0.mono ?_;clear a0;rintro e w7 ⟨rfl,B⟩;have e1:=Z7H (N6.out.own.own j h5) (by omega);obtain⟨qm,b6⟩:∃qm,q j-at_=qm:=⟨_,rfl⟩;rw[b6];have k7:=K6.out.below B;have n:=N6.out.below B;have b9:=B.size;simp at b9;have k:=k7.F;simp only[Kf,Y9]at k;obtain⟨⟨n7,m7⟩,⟨p7,_⟩,⟨c7,f7⟩,⟨y7,z7⟩,_⟩:=k;have d7:=qF (n.own.own j h5) hg u;have Q:=Zhf n.own;have N7:=Zhf n;have K7:=Zhf k7;have l:=K7;clear k7 B n n6 m6 p6 c6 f6 y6 z6)
   |(go_at_call 24;have k7:=K7.out;refine(SE b0 _).mono ?_;rintro e w8 ⟨rfl,C⟩;have k8:=k7.below C;have n:=N7.out.below C;have f0:=C.size;have k:=k8.F;simp only[Kf,Y9]at k;obtain⟨⟨n8,m8⟩,⟨p8,_⟩,⟨c8,f8⟩,⟨y8,z8⟩,_⟩:=k;have d8:=qF (n.own.own j h5) hg u;have Q:=Zhf n.own;have N8:=Zhf n;have K8:=Zhf k8;have l:=K8;clear k7 k8 C n n7 m7 p7 c7 f7 y7 z7 d7)
   |(go_at_call 81;refine(JT b0 _).mono ?_;rintro e w9 ⟨rfl,D⟩;rw[c0];dsimp only;have f1:=D.size;have k9:=(K8.out.below D).alloc #[.int .i64 (sz:Nat),.int .i64 pt] 69;have n:=(N8.out.below D).below<|(Zhw _ _).alloc (Zhc _)<|.cells #[.int .i64 (sz:Nat),.int .i64 pt] 69;have k:=k9.F;simp only[Kf,Y9]at k;obtain⟨⟨s9,_⟩,⟨n9,m9⟩,⟨p9,_⟩,⟨c9,f9⟩,⟨y9,z9⟩,_⟩:=k;have d9:=qF (n.own.own j h5) hg u;have Q:=Zhf n.own;have N9:=Zhf n;have K9:=Zhf k9;have l:=K9;clear k9 D n n8 m8 p8 c8 f8 y8 z8 d8)
   |(go_at_call 19;refine(Ke (h:=h) (x:=f) (G:=G) (λc hc=>by have:=hG c hc;simp;omega) (λj O=>(HS.out j O).keep (λb z=>by have:=hG b z;rw[Zht _ _ _ (by simp;omega),Zht _ _ _ (by omega)])<|λ_ h=>h)).mono ?_;rintro e w1 ⟨rfl,W⟩;unfold Wk;have K1:=Zhf<|KZ.out.below W;have a9:=W.size;simp at a9;clear W)
   |(go_at_call 33;refine(Z9o K.out.be _).mono ?_;rintro e w2 ⟨rfl,X⟩;rw[hr];have k2:=(K1.out.alloc _ _).below X;have b7:=X.size;simp at b7;have k:=k2.F;simp only[Kf,Y9]at k;obtain⟨⟨c2,f2⟩,⟨y2,z2⟩,⟨x2,_⟩,_⟩:=k;have K2:=Zhf k2;have l:=K2;clear k2 X)
   |(go_at_call 24;refine(SE hv _).mono ?_;rintro e w3 ⟨rfl,o⟩;have k3:=K2.out.below o;have e8:=o.size;have k:=k3.F;simp only[Kf,Y9]at k;obtain⟨⟨c3,f3⟩,⟨y3,z3⟩,⟨x3,_⟩,_⟩:=k;have K3:=Zhf k3;have l:=K3;clear k3 o c2 f2 y2 z2 x2)
   |(go_at_call 34;refine(Z3J K.out.be (Fm hv) _).mono ?_;rintro e w4 ⟨rfl,Y⟩;(try (rw[hf];dsimp only));have e9:=Y.size;have k4:=K3.out.below Y;have k:=λcs T=>(k4.alloc cs T).F;simp only[Kf,Y9,forall_and]at k;obtain⟨_,⟨c4,f4⟩,⟨y4,z4⟩,⟨x4,_⟩,_⟩:=k;have K4:=Zhf k4;have l:=Zhf<|k4.alloc #[.int .i64 (ZZ (Zv h) (adr v).1).1,.int .i64 (ZZ (Zv h) (adr v).1).2.1] 95;clear k4 Y c3 f3 y3 z3 x3)
   |(go_at_call 18;have kg:=K4;refine(EI _ G (λb z=>by have:=hG b z;simp;omega) h K.out f (λj O=>(HS.out j O).keep (λb z=>(K4.out.dm.alloc (by have:=K4.out.dm.size;omega) _).block b<|hG b z)<|λ_ h=>h)).mono ?_;rintro e w5 ⟨a,q,rfl,A,a7⟩;have k5:=(K4.out.alloc _ _).below A;have b8:=A.size;simp at b8;have hN:=Z71 a7 A.size;have k6:Kp w (w5.alloc<|Eg h<|UI h a q) _:=k5.alloc _ _;unfold ZJ;unfold Eg at k6 hN;dsimp only[UI]at k6 hN⊢;have k:=k6.F;simp only[Kf,Y9]at k;obtain⟨⟨n6,m6⟩,⟨p6,_⟩,⟨c6,f6⟩,⟨y6,z6⟩,_⟩:=k;have Q:=Zhf hN.own;have N6:=Zhf hN;have K6:=Zhf k6;have l:=K6;clear kg k5 k6 hN A a7 c4 f4 y4 z4 x4)
   |(go_at_call 18;refine(EI _ G (λb z=>by have:=hG b z;omega) h K.out f<|λj O=>(HS.out j O).keep (λb z=>K2.out.dm.block b<|hG b z) (λ_ h=>h)).mono ?_;rintro e w3 ⟨a,q,rfl,o,a6⟩;unfold ZJ;dsimp only[UI];have k3:=K2.out.below o;have k:=k3.F;simp only[Kf,Y9]at k;obtain⟨⟨c3,f3⟩,⟨y3,z3⟩,⟨x3,_⟩,_⟩:=k;have l:=Zhf k3;have Q:=Zhf a6;clear k3 o a6))
  try
   generalize f5:sz+1=sm at a8 t d;have g4:IntKind.i64.wrap ((sz:Int)+1)=(sm:Int):=by rw[ZA ((sz:Int)+1) Z0 Z0];omega
   have a9:(sm:Int)<=(qm:Int):=Z0;have e7:(0:Int)<=(sm:Int):=Z0;have HL:=Zhf t;have S:=FwQ.of (k:=K9) (n:=N9) (m:=.tail _<|.tail _<|.tail _<|.head _) (m':=.head _) K9.out.drew N9.out.drew;clear s9 n9 m9 p9 c9 f9 y9 z9 d9 t
   go_region_held3 (FwQ K9 N9 (.tail _<|.tail _<|.tail _<|.head _)<|.head _) (first|exact S|assumption)
    (first|(go_at_call 82;refine(Z9q K.out.be _).mono ?_;rintro e d5 ⟨rfl,M⟩;have S:=FwQ.of (k:=K9) (n:=N9) (m:=.tail _<|.tail _<|.tail _<|.head _) (m':=.head _) (S.2.2.1.below M)<|S.2.2.2.below M))
   obtain⟨-,-,a2,a4⟩:=S;rename_i R;clear R;have k:=a2.F;simp only[Kf,Y9]at k;obtain⟨⟨d0,_⟩,⟨b1,c1⟩,⟨qI,_⟩,⟨Am,b3⟩,⟨d6,e0⟩,_⟩:=k;have b2:=qF (a4.own.own j h5) hg u;have a5:=Zhf a2;have l:=a5;have P:=Zhf a4;clear a2 a4;go_wp2_with (first|(go_at_call 83;refine(Z3a d5 _ _ h _ P.out (by have:=Y2 P.out.blk;have:=P.out.new;omega) K.out j at_ sm O Z0 Z0 Z0 g (q j) (by simp[UI,hg]) (by have:=HL.out;omega) qm).mono ?_;rintro e g5 ⟨x',rfl,N,y⟩;obtain⟨a',q',y⟩:=y.lc;generalize Sr h ((j:Int)+1) at_ sm=to at*;generalize YB (Xy h ((j:Int)+1) at_ sm) ((j:Int)+1) ((zr (Zw h j) at_ sm).set at_ to)=h' at*;have a3:=a5.out.sub N (by have:=K1.out.dm.size;simp;omega) (c:=xz (xj w)+1) (r:=Y9) (T:=30) Z1 Zge;have k:=a3.F;have n:=λj=>Zhl _ _ j _ _ _ y.blk;simp only[Kf,Y9]at k;dsimp only[UI]at n;have Q:=Zhf y.own;have l:=Zhf a3;clear a3 N y d0 b1 c1 qI Am b3 d6 e0 b2))
  have r:=Qo<|l.out.row (xz (xj w)+1,Y9,30) Z1;dsimp only at r;first
  |go_region
   all_goals
    go_wp2;try simp only[Exit.inBlock,Exit.then]
    refine Zi0 ?_ rfl (Hh l.out Z0 Zge Q.out _ d).drew
  |have p:=ZbM l.out (rb:=xz (xj w)+1) (by omega) d
   refine Zi0 ?_ rfl p
  |have p:=Hh l.out (rb:=xz (xj w)+1) (by omega) (by omega) Q.out _ d
   refine Zi0 ?_ rfl p
  all_goals simp[results,Tryz.results64,go_sem,r,ZJ,UI,Y9,d]
end Vm
namespace Vm
open Go Go.Proofs Go.RowKit
def Uj{w G k n v}(r:Rd w G (.int k n) v):v=.int k n:=by cases r;rfl
def D9{w G b v}(r:Rd w G (.bool b) v):v=.bool b:=by cases r;rfl
def Hk{w G h v}(r:Rd w G (ZM h) v):∃f,v=ZJ h f/\∀j,j<5->Rd w G (.sl<|(Zw h j).map vu) (f j):=by
 cases r with
 |agg _ vs t _ a=>
  refine⟨λj=>vs.getD (5+j) xy,?_,?_⟩;have g:=Uj<|a 0 _ rfl;have k:=Uj<|a 1 _ rfl;have l:=Uj<|a 2 _ rfl;have n:=D9<|a 3 _ rfl;have o:=Uj<|a 4 _ rfl;have d:=t;unfold ZJ;rw[<-g,<-k,<-l,<-n,<-o];congr 1;apply ZjX;simp[d];intro i u x;have p:i<10:=Z0
  match i,p with
  |0,_|1,_|2,_|3,_|4,_|5,_|6,_|7,_|8,_|9,_=>simp[Array.getD,d]
  intro j q
  match j,q with
  |0,_=>exact a 5 _ rfl
  |1,_=>exact a 6 _ rfl
  |2,_=>exact a 7 _ rfl
  |3,_=>exact a 8 _ rfl
  |4,_=>exact a 9 _ rfl
def yE{w G h x}(d:∀j,j<5->Rd w G (.sl<|(Zw h j).map vu) (x j)):Rd w G (ZM h)<|ZJ h x:=by
 refine .agg _ _ rfl Z1 ?_;intro i y a
 match i,a with
 |0,a=>cases a;exact .int _ _
 |1,a=>cases a;exact .int _ _
 |2,a=>cases a;exact .int _ _
 |3,a=>cases a;exact .bool _
 |4,a=>cases a;exact .int _ _
 |5,a=>cases a;exact d 0 Z0
 |6,a=>cases a;exact d 1 Z0
 |7,a=>cases a;exact d 2 Z0
 |8,a=>cases a;exact d 3 Z0
 |9,a=>cases a;exact d 4 Z0
end Vm
end
section
namespace Vm
open Go Go.Proofs Go.RowKit
def Rd.dz{w:Z3}{G:Z4}{l:Zr}{v:Zg}(h:Rd w G (.sl l) v):∃a c,v=.slice a (I l) c:=by
 cases h with
 |nil a cap _=>exact⟨a,cap,rfl⟩
 |sl l b o cap k vs=>exact⟨_,cap,rfl⟩
def Z3C(w:Z3)(n c:Nat):Sem.run xP (binOp .eql 28 (.slice U n c)<|.slice U 0 0) w=.ok (.bool xk) w:=Zh2
def Z3D(w:Z3)(a:Addr)(n c:Nat):Sem.run xP (binOp .eql 28 (.slice (J a) n c)<|.slice U 0 0) w=.ok (.bool xw) w:=Zh2
def Z0F(w:Z3){G:Z4}(D:∀b,G b->b<xz (xj w)){l:Z6}{y:Zg}(M:I l<=1000000)(g:Rd w G (.sl<|l.map vu) y):
  Calls xP 79 #[y] w λe o=>∃v,e=.returned v/\Below (xz<|xj w) w o/\o.ownsRow (xz<|xj w) 24 1 v (I l) (Yo .u64 l):=by
 obtain⟨a,c,rfl⟩:=Rd.dz g;cases a with
 |none=>
  have C:l=[]:=by
   generalize F:l.map vu=L at g;cases g with
   |nil=>simpa using F
  subst C;have q:=Z3C w 0 c;go_enter A4,Tryz.ntmps79;simp only[Zj5,ZiI];go_wp2;exact Zi0 (v:=.slice U 0 0) (by simp[results,Tryz.results79,go_sem]) rfl ⟨_,rfl,Zhw _ _,Ziq _ _ _ _⟩
 |some u=>
  have q:=Z3D w u (I l) c;go_enter A4,Tryz.ntmps79;have h:Rd (w.alloc<|.cells #[] 24) G (.sl<|l.map vu)<|.slice (J u) (I<|l.map vu) c:=g.keep (λb H=>Zht _ _ _<|D b H) λ_ q=>q;have f:Below (xz<|xj w) w<|w.alloc<|.cells #[] 24:=(Zhw _ _).alloc (Zhc _) _;have d:(w.alloc<|.cells #[] 24).ownsRow (xz<|xj w) 24 1 (.slice (J ⟨xz<|xj w,0,U⟩) 0 0) 0 []:=⟨rfl,.inr ⟨_,0,_,rfl,Zhc _,ZhB _ _,Zhc _,by unfold maxLen;omega,rfl,rfl⟩⟩;rw[<-RM]at d;have p:=Zhf<|And.intro f d;clear f d g;go_wp2_with (at_builtin;refine Eh (B:=xz<|xj w) (n:=0) (xs:=[]) rfl _ _ _ rfl QM AD rfl rfl p.out.2 Z1 (l:=l.map vu) (Gy:=G) h (by rw[RM];exact jF _) Zgw ?_)
  intro A o j d x _ z;try simp only[RM]at d
  have k:I j=I l:=by have:=d.1;simpa using this
  rw[C2 z k]at d;try simp only[ZhM,ZhZ,Zi8]at d
  have t:=Zhf<|And.intro d x;clear d x z h;go_wp2;exact Zi0 (v:=A) (by simp[results,Tryz.results79,go_sem]) rfl ⟨A,rfl,Below.grown p.out.1 t.out.2 Z1 λr K=>by cases K;exact Zhc _,t.out.1⟩
section
def QN(K:Act->World->Prop)(Q:Zk):Exit->Act->World->Prop
 |.normal,a,w=>K a w
 |.ret,a,w=>Q .ret a w
 |.outgrown,a,w=>Q .outgrown a w
 |e,a,w=>Q e a w
section
variable {P:Z5}{ops:Zm}{Q:Zk}
def ZbA{i:Nat}{o:Oper}{K:Act->World->Prop}{a:Act}{w:Z3}(k:ops[i]?=J o)(h:wpList P ops (QN K Q) [o] a w):wpOp P ops Q i K a w:=by
 unfold wpOp;rw[k];simp only;unfold wpList at h;split at h;rename_i f;rw[Zhi f];obtain h|⟨g,j⟩:=h;left;unfold Oper.wp at*;generalize (execOp a.eval o).run P w=r at*;cases r with
 |ok n l=>
  cases n<;>simp only[Oper.upon]at h⊢ <;>
   first
    |exact h
    |exact ZjU h (λe p d=>by cases e<;>exact d)
    |exact Rows.mono h (λ_ _ d=>d)
 |halt x l=>cases x<;>simp only[Oper.upon]at h⊢ <;>exact h
 exact .inr ⟨g,j⟩;rename_i f;rw[Zhg f];exact h
def Z9c{id:Nat}{C:Act}{w0:Z3}(hm:P.follows .mixedOrders=xk)(y:∀(i:Nat) (o:Oper),ops[i]?=J o->∀e∈U7 o,e<i)(I:(Nat->Bool)->Act->World->Prop)
  (S:I (λ_=>xw) C {w0 with drawn:=w0.drawn+1})
  (H:∀(L:Nat->Bool) (i:Nat) (o:Oper) (a:Act) (w:Z3),ops[i]?=J o->L i=xw->(∀j∈U7 o,L j=xk)->I L a w->wpList P ops (QN (I<|add L i) Q) [o] a w)
  (M:∀(L:Nat->Bool) (a:Act) (w:Z3),(∀i,i<ops.size->L i=xk)->I L a w->Q .normal a w):(Code.region id ops xk).wp P Q C w0:=by
 have t:∀(listed:Array Bool) (i:Nat),listed.size=ops.size->i<ops.size->listed.getD i xk=listed.getD i xw:=by
  intro listed i l D;simp[Zhd,l,D]
 have h:∀(listed:Array Bool),listed.size=ops.size->Region.ready .any ops listed=[]->∀i,i<ops.size->listed.getD i xw=xk:=by
  intro listed f z i;induction i using Nat.strongRecOn with
  |_ i K=>
   intro q;cases Z:listed.getD i xw with
   |true=>rfl
   |false=>
    have:i∈Region.ready .any ops listed:=Zl6.2 ⟨by rw[t listed i f q];exact Z,ops[i],Zi1 q,λe X W=>by
     have k:=y i ops[i] (Zi1 q) e.on<|IW X W;exact K e.on k Z0⟩
    rw[z]at this;simp at this
 refine wp_region_any hm ?_;have A:∀(d:Nat) (listed:Array Bool) (a:Act) (w:Z3),listed.size=ops.size->zk ops.size (λi=>listed.getD i xw)<=d->I (λi=>listed.getD i xw) a w->wpAny P .any ops Q d listed a w:=by
  intro d;induction d with
  |zero=>
   intro listed a w f N B;have g:=u9<|Nat.le_zero.1 N;refine⟨?_,M _ a w g B⟩;cases z:Region.ready .any ops listed with
   |nil=>rfl
   |cons i r=>
    have:i∈Region.ready .any ops listed:=by rw[z];simp
    obtain⟨l,o,x,_⟩:=Zl6.1 this;have q:i<ops.size:=(Zhe.1 x).1;rw[t listed i f q,g i q]at l;cases l
  |succ d K=>
   intro listed a w f N B;refine⟨λz=>M _ a w (h listed f z) B,λi q=> ?_⟩;obtain⟨l,o,x,g⟩:=Zl6.1 q;have k:i<ops.size:=(Zhe.1 x).1;rw[t listed i f k]at l;have p:(λj=>(listed.setIfInBounds i xk).getD j xw)=add (λi=>listed.getD i xw) i:=by
    funext j;simp only[add];by_cases u:j=i;subst u;have:j<listed.size:=Z0;simp[Zhd,this];have:(listed.setIfInBounds i xk).getD j xw=listed.getD j xw:=getD_set_ne xw<|ZiX u;rw[this];simp[u]
   have hs:=ZbA x (H _ i o a w x l (λj Y=>by
    obtain⟨R,D,T,rfl⟩:=Gi Y;exact g R D T) B)
   refine wpOp_mono (λO w' F=>K _ O w' Zgs ?_ (by rw[p];exact F)) hs;rw[p];have:=u5 (n:=ops.size) (L:=λi=>listed.getD i xw) k l;omega
 have G:(λi=>(Array.replicate ops.size xw).getD i xw)=λ_=>xw:=by
  funext i;simp only[Zhd,Array.getElem?_replicate];split<;>rfl
 refine A _ _ C _ Z1 ?_ (by rw[G];exact S);exact ZhD (Zkk _ _) Z1
end
def D3(a:Act)(l:List<|Nat×Value):Act:= {a with tmps:=l.foldl (λt p=>t.setIfInBounds p.1 p.2) a.tmps}
def C7(ops:Zm):Bool:=(List.range ops.size).all λi=>match ops[i]? with|some o=>(U7 o).all λe=>decide (e<i)|none=>xk
def Z7z{ops:Zm}(h:C7 ops=xk):∀(i:Nat) (o:Oper),ops[i]?=J o->∀e∈U7 o,e<i:=by
 intro i o a e d;unfold C7 at h;rw[Zhn]at h;have:=h i (by simpa using(Zhe.1 a).1);rw[a]at this;simp only[Zhn,ZhG]at this;exact this e d
def SB(L:Nat->Bool)(i:Nat):add L i i=xk:=by simp[add]
def Ya{L:Nat->Bool}{i j:Nat}(h:j≠i):add L i j=L j:=by simp[add,h]
end
end Vm
end
section
namespace Vm
open Go Go.Proofs
def N3:Fn:=⟨5,[0,1,2,3,4],pQ [pR [(1,pS 0 10),pV 2 pF],pC [pK 5 30 [.mm 1 0 10]] [pV 3<|.ext (.s 5) 0,pV 4<|.ext (.s 5) 1]]<|px [pV 2<|.s 4],[(2,.v)]⟩
def c10:xQ [.fz] Tryz.f10=J N3:=Z2
def Nh:Fn:=⟨8,[0,1,2,4,5,6,7,22],pQ [pR [(2,pS 0 10),pV 3 pN,pV 4<|pI 0],pC [pK 8 30 [.mm 2 0 10]] [pV 5<|.ext (.s 8) 0,pV 6<|.ext (.s 8) 1],pQ [.au ⟨[.lt 9 []<|.un .not<|.s 6,.lt 10 []<|.ite (.s 9) pT<|pl (.s 1)<|pI 1],[([(9,xw)],pl (.s 1)<|pI 1),([(10,xw)],pj (.s 1)<|pI 4)],[pV 7<|.ite (.s 10) pT<|pj (.s 1)<|pI 4]⟩]<|pw (.s 7)<|px [pV 4<|pI 1]]<|px [pV 3<|.ac (.ai (.bi (.ax<|.s 5) 17 4) (pb (.s 1)<|pI 1) 4 1 xk) 0,pV 4<|pI 0],[(3,.v),(4,.v)]⟩
def c21:xQ [.fz,.fz] Tryz.f21=J Nh:=Z2
def Nk:Fn:=⟨6,[0,1,2,3,4,11],pQ [pR [(1,pS 0 10),pV 2<|pI 0],pC [pK 6 30 [.mm 1 0 10]] [pV 3<|.ext (.s 6) 0,pV 4<|.ext (.s 6) 1],pi 5 (.un .not<|.s 4)<|px [pV 2<|pI 0],pC [pK 7 48 [.s 3]] [pV 2<|.s 7]] .ret,[(2,.v)]⟩
def c27:xQ [.fz] Tryz.f27=J Nk:=Z2
def Nn:Fn:=⟨12,[0,1,2,3,13,4,16,15,17,6,14,24],pQ [pR [(1,pS 0 10),pV 2<|.c<|.mh 0,pV 3 pF],.au ⟨[pK 12 19 [.mm 1 0 10]],[([],.ag [.ac (.mm 1 0 10) 0,.ac (.mm 1 0 10) 1,.ac (.mm 1 0 10) 2,.ac (.mm 1 0 10) 3,.ac (.mm 1 0 10) 4,.ac (.mm 1 0 10) 5,.ac (.mm 1 0 10) 6,.ac (.mm 1 0 10) 7,.ac (.mm 1 0 10) 8,.ac (.mm 1 0 10) 9,.ac (.sz (.s 12) 7) 0,.ac (.sz (.s 12) 7) 1,.ac (.sz (.s 12) 7) 2,.ac (.sz (.s 12) 7) 3,.ac (.sz (.s 12) 7) 4,.ac (.sz (.s 12) 7) 5,.ac (.sz (.s 12) 7) 6,pN,pN,pN,pN,.c<|.mp 0 [] [],.c<|.mp 0 [] []])],[(5,.m [.ac (.mm 1 0 10) 0,.ac (.mm 1 0 10) 1,.ac (.mm 1 0 10) 2,.ac (.mm 1 0 10) 3,.ac (.mm 1 0 10) 4,.ac (.mm 1 0 10) 5,.ac (.mm 1 0 10) 6,.ac (.mm 1 0 10) 7,.ac (.mm 1 0 10) 8,.ac (.mm 1 0 10) 9,.ac (.sz (.s 12) 7) 0,.ac (.sz (.s 12) 7) 1,.ac (.sz (.s 12) 7) 2,.ac (.sz (.s 12) 7) 3,.ac (.sz (.s 12) 7) 4,.ac (.sz (.s 12) 7) 5,.ac (.sz (.s 12) 7) 6,pN,pN,pN,pN,.c<|.mp 0 [] [],.c<|.mp 0 [] []])]⟩,pQ [pC [pK 10 50 []] [pV 6<|pI 0,pV 7<|.len<|.s 10]]<|po [0,1,2,3,5,6,7,10] 8 (pl (.s 6)<|.s 7) (pQ [pR [(9,.m [.ac (.bi (.ba (.s 10) (.s 6) 1) 0 1) 0])],pC [.ct 13 [] (.e<|.m 9 0) [.mem [.fz,.fz,.fz,.fz,.fz,.fz,.fz,.fz,.fz,.fz,.fz,.fz,.fz,.fz,.fz,.fz,.fz,.fz,.fz,.fz,.fz,.own 75,.own 113]] [.ag [.m 5 0,.m 5 1,.m 5 2,.m 5 3,.m 5 4,.m 5 5,.m 5 6,.m 5 7,.m 5 8,.m 5 9,.m 5 10,.m 5 11,.m 5 12,.m 5 13,.m 5 14,.m 5 15,.m 5 16,.m 5 17,.m 5 18,.m 5 19,.m 5 20,.m 5 21,.m 5 22]]] [(5,pM (.ext (.s 13) 1) 23),pV 11<|.un .not<|.ext (.s 13) 0]]<|pw (.s 11)<|px [pV 2<|.c<|.mh 0,pV 3 pF])<|pc 6]<|px [pV 2<|.pt U [.m 5 0,.m 5 1,.m 5 2,.m 5 3,.m 5 4,.m 5 5,.m 5 6,.m 5 7,.m 5 8,.m 5 9,.m 5 10,.m 5 11,.m 5 12,.m 5 13,.m 5 14,.m 5 15,.m 5 16,.m 5 17,.m 5 18,.m 5 19,.m 5 20,.m 5 21,.m 5 22],pV 3 pT,(5,.no)],[(2,.v),(3,.v)]⟩
def c30:xQ [.fz] Tryz.f30=J Nn:=Z2
def Nv:Fn:=⟨11,[0,2,3,4,8,19,18,20,6,17,25],pQ [pR [pV 1<|pI 0],pR [pV 2<|pI 0],pQ [pR [pV 3<|pI 3]]<|.block 0<|.loop [0,1,2,3]<|pQ [pu 4 (pL (.s 3)<|pI 4) .skip<|.exit 0,.block 1<|pQ [pR [pV 5<|pI 0,pV 6<|.len<|.ac (.ai (.bi (.ax<|.s 0) 17 4) (pb (.s 3)<|pI 1) 4 1 xk) 0,pV 9<|.ac (.ai (.bi (.ax<|.s 0) 17 4) (pb (.s 3)<|pI 1) 4 1 xk) 0]]<|.block 2<|.loop [0,1,2,3,4,5,6,9]<|pQ [pR [pV 7<|pl (.s 5)<|.s 6],.cond (.s 7) .skip<|.exit 2,.block 3<|pQ [pR [(8,pM (.bi (.ba (.s 9) (.s 5) 5) 0 5) 5)]]<|pi 10 (.un .not<|.m 8 3)<|pR [pV 2<|pa (.s 2)<|pa (pI 1)<|.m 8 1]]<|pc 5]<|pc 3]<|px [pV 1<|.s 2],[(1,.v)]⟩
def c48:xQ [.fz] Tryz.f48=J Nv:=Z2
def Nx:Fn:=⟨1,[0],pQ [pR [pV 0 pN]]<|px [pV 0<|.lit [.ag [.c<|.fn 66],.ag [.c<|.fn 67],.ag [.c<|.fn 68],.ag [.c<|.fn 69],.ag [.c<|.fn 70],.ag [.c<|.fn 71],.ag [.c<|.fn 72],.ag [.c<|.fn 73]]],[(0,.v)]⟩
def c50:xQ [] Tryz.f50=J Nx:=Z2
def NE:Fn:=⟨2,[0,2],pQ [pR [pV 1 pF],.au ⟨[pK 2 33 [.bi (.ax<|.s 0) 10 7],.lt 3 []<|.s 2,.lt 4 []<|.ite (.s 3) (pL (.len<|.ac (.ax<|.s 0) 9)<|pI 16) pF,.lt 5 []<|.ite (.s 4) (pg (.ac (.ax<|.s 0) 4)<|pI 0) pF],[([(3,xk)],pL (.len<|.ac (.ax<|.s 0) 9)<|pI 16),([(4,xk)],pg (.ac (.ax<|.s 0) 4)<|pI 0),([(5,xk)],pL (.ac (.ax<|.s 0) 4)<|.len<|.ac (.ax<|.s 0) 5)],[pV 1<|.ite (.s 5) (pL (.ac (.ax<|.s 0) 4)<|.len<|.ac (.ax<|.s 0) 5) pF]⟩] .ret,[(1,.v)]⟩
def c66:xQ [.fz] Tryz.f66=J NE:=Z2
def Lw:Fn:=⟨3,[0,2,7],pQ [pR [pV 1 pF],pi 2 (.ac (.ax<|.s 0) 3)<|px [pV 1<|pl (.ac (.ax<|.s 0) 4)<|.len<|.ac (.ax<|.s 0) 5],.au ⟨[.lt 3 []<|pe (.len<|.ac (.ax<|.s 0) 7)<|pI 0,.lt 4 []<|.ite (.s 3) (pe (.len<|.ac (.ax<|.s 0) 8)<|pI 0) pF],[([(3,xk)],pe (.len<|.ac (.ax<|.s 0) 8)<|pI 0),([(4,xk)],pe (.ac (.ax<|.s 0) 4)<|.len<|.ac (.ax<|.s 0) 5)],[pV 1<|.ite (.s 4) (pe (.ac (.ax<|.s 0) 4)<|.len<|.ac (.ax<|.s 0) 5) pF]⟩] .ret,[(1,.v)]⟩
def c67:xQ [.fz] Tryz.f67=J Lw:=Z2
def NF:Fn:=⟨11,[0,2,3,8,9,4,5,6,7,18,39],pQ [pR [pV 1 pF],pR [pV 2 pT],.skip,pQ [pR [pV 3<|pI 0]]<|po [0,1,2,3] 4 (pl (.s 3)<|pI 4) (pQ [pR [pV 5<|.s 3],pR [pV 6<|pa (.s 5)<|pI 1],pR [pV 7 pN],pR [pV 8<|pI 0],pQ [.au ⟨[.lt 11 []<|pe (.s 6)<|pI 1],[([(11,xw)],pe (.s 6)<|pI 2)],[pV 9<|.ite (.s 11) pT<|pe (.s 6)<|pI 2]⟩]<|.cond (.s 9) (pC [pK 12 86 [.pt U [.m 0 0,.m 0 1,.m 0 2,.m 0 3,.m 0 4,.m 0 5,.m 0 6,.m 0 7,.m 0 8,.m 0 9,.m 0 10,.m 0 11,.m 0 12,.m 0 13,.m 0 14,.m 0 15,.m 0 16,.m 0 17,.m 0 18,.m 0 19,.m 0 20,.m 0 21,.m 0 22],.s 6],.call 13 [] (.id 85) xk xw [.s 12]] [pV 7<|.ext (.s 13) 0,pV 8<|.ext (.s 13) 1])<|pC [pK 14 86 [.pt U [.m 0 0,.m 0 1,.m 0 2,.m 0 3,.m 0 4,.m 0 5,.m 0 6,.m 0 7,.m 0 8,.m 0 9,.m 0 10,.m 0 11,.m 0 12,.m 0 13,.m 0 14,.m 0 15,.m 0 16,.m 0 17,.m 0 18,.m 0 19,.m 0 20,.m 0 21,.m 0 22],.s 6],pK 15 86 [.pt U [.m 0 0,.m 0 1,.m 0 2,.m 0 3,.m 0 4,.m 0 5,.m 0 6,.m 0 7,.m 0 8,.m 0 9,.m 0 10,.m 0 11,.m 0 12,.m 0 13,.m 0 14,.m 0 15,.m 0 16,.m 0 17,.m 0 18,.m 0 19,.m 0 20,.m 0 21,.m 0 22],.s 6],pK 16 88 [.pt U [.m 0 0,.m 0 1,.m 0 2,.m 0 3,.m 0 4,.m 0 5,.m 0 6,.m 0 7,.m 0 8,.m 0 9,.m 0 10,.m 0 11,.m 0 12,.m 0 13,.m 0 14,.m 0 15,.m 0 16,.m 0 17,.m 0 18,.m 0 19,.m 0 20,.m 0 21,.m 0 22],.s 15],.call 17 [] (.id 87) xk xw [.s 14,.s 16]] [pV 7<|.ext (.s 17) 0,pV 8<|.ext (.s 17) 1],pi 10 (pn (.s 8)<|pI 0)<|pQ [pR [pV 2 pF]]<|.exit 0]<|pC [.ct 18 [] (.id 89) [.mem [.fz,.fz,.fz,.fz,.fz,.fz,.fz,.fz,.fz,.fz,.fz,.fz,.fz,.fz,.fz,.fz,.fz,.fz,.fz,.fz,.fz,.own 75,.own 113],.fz,.fz] [.ag [.m 0 0,.m 0 1,.m 0 2,.m 0 3,.m 0 4,.m 0 5,.m 0 6,.m 0 7,.m 0 8,.m 0 9,.m 0 10,.m 0 11,.m 0 12,.m 0 13,.m 0 14,.m 0 15,.m 0 16,.m 0 17,.m 0 18,.m 0 19,.m 0 20,.m 0 21,.m 0 22],.s 6,.s 7]] [(0,pM (.ext (.s 18) 1) 23)])<|pc 3]<|px [pV 1<|.s 2],[(1,.v)]⟩
def c68:V2 xP fresh sig [(.mem [.fz,.fz,.fz,.fz,.fz,.fz,.fz,.fz,.fz,.fz,.fz,.fz,.fz,.fz,.fz,.fz,.fz,.fz,.fz,.fz,.fz,(.own 75),(.own 113)])] [(0,(.mem [.fz,.fz,.fz,.fz,.fz,.fz,.fz,.fz,.fz,.fz,.fz,.fz,.fz,.fz,.fz,.fz,.fz,.fz,.fz,.fz,.fz,(.own 75),(.own 113)]))] Tryz.f68=J NF:=Z2
def Cs:Fn:=⟨13,[0,2,12,3,4,15,26,25,27,6,24,32,46],pQ [pR [pV 1 pF],pi 2 (.un .not<|.ac (.ax<|.s 0) 3)<|px [pV 1 pT],pR [pV 3<|.c<|.mp 0 [] []],pQ [pR [pV 4<|pI 3]]<|.block 0<|.loop [0,1,2,3,4]<|pQ [pu 5 (pL (.s 4)<|pI 4) .skip<|.exit 0,.block 1<|pQ [pR [pV 6<|pI 0,pV 7<|.len<|.ac (.ai (.bi (.ax<|.s 0) 17 4) (pb (.s 4)<|pI 1) 4 1 xk) 0,pV 10<|.ac (.ai (.bi (.ax<|.s 0) 17 4) (pb (.s 4)<|pI 1) 4 1 xk) 0]]<|.block 2<|.loop [0,1,2,3,4,5,6,7,10]<|pQ [pR [pV 8<|pl (.s 6)<|.s 7],.cond (.s 8) .skip<|.exit 2,.block 3<|pQ [pR [(9,pM (.bi (.ba (.s 10) (.s 6) 5) 0 5) 5)],pi 11 (.un .not<|.m 9 3)<|.exit 3,pQ [.au ⟨[.lt 13 []<|pn (.lk (.i .u64) (.ac (.ax<|.s 0) 21) (.m 9 4) (.int .i64 0) xw)<|pI 1],[([(13,xw)],.fl<|.lk (.i .u64) (.s 3) (.m 9 4) (.bool xw) xw)],[pV 12<|.ite (.s 13) pT<|.fl<|.lk (.i .u64) (.s 3) (.m 9 4) (.bool xw) xw]⟩]<|pw (.s 12)<|px [pV 1 pF]]<|pR [pV 3<|.dj (.i .u64) (.s 3) (.m 9 4) pT]]<|pc 6]<|pc 4]<|px [pV 1<|pe (.eo<|.s 3)<|.len<|.ac (.ai (.bi (.ax<|.s 0) 17 4) (pI 0) 4 1 xk) 0],[(1,.v)]⟩
def c69:xQ [.fz] Tryz.f69=J Cs:=Z2
def NG:Fn:=⟨9,[0,1,2,11,10,12,4,9,18],pQ [pR [(1,.m [.one<|.s 0]),pV 2 pF],pQ [pR [pV 3<|pI 0,pV 4<|.len<|.ac (.ax<|.m 1 0) 9,pV 7<|.ac (.ax<|.m 1 0) 9]]<|po [0,1,2,3,4,7] 5 (pl (.s 3)<|.s 4) (pQ [pR [pV 6<|.ac (.ba (.s 7) (.s 3) 1) 0],pC [pK 9 90 [.m 1 0,.s 6,pI 1,pI 2]] [pV 8<|.un .not<|.s 9]]<|pw (.s 8)<|px [pV 2 pF])<|pc 3,pC [.call 10 [] (.id 91) xw xk [.m 1 0,pI 2,.pt (J 92) [.pt U [.m 1 0]]],.lt 11 []<|.s 10,.call 12 [(11,xk)] (.id 91) xw xk [.m 1 0,pI 1,.pt (J 93) [.pt U [.m 1 0]]]] [pV 2<|.ite (.s 11) (.s 12) pF]] .ret,[(2,.v)]⟩
def c70:xQ [.fz] Tryz.f70=J NG:=Z2
def NH:Fn:=⟨3,[0,1,2],pQ [pR [(1,.m [.one<|.s 0]),pV 2 pF],pC [.call 3 [] (.id 91) xw xk [.m 1 0,pI 1,.pt (J 94) [.pt U [.m 1 0]]]] [pV 2<|.s 3]] .ret,[(2,.v)]⟩
def c71:xQ [.fz] Tryz.f71=J NH:=Z2
def NI:Fn:=⟨4,[0,1,2,3],pQ [pR [(1,.m [.one<|.s 0]),pV 2 pF],pR [(3,.no)],pC [.call 4 [] (.id 91) xw xk [.m 1 0,pI 3,.pt (J 95) [.pt U [.m 1 0]]],.lt 5 []<|.s 4,.call 6 [(5,xk)] (.id 91) xw xk [.m 1 0,pI 4,.pt (J 95) [.pt U [.m 1 0]]]] [pV 2<|.ite (.s 5) (.s 6) pF,(3,.no)]] .ret,[(2,.v)]⟩
def c72:xQ [.fz] Tryz.f72=J NI:=Z2
def NJ:Fn:=⟨2,[0,2],pQ [pR [pV 1 pF],pC [pK 2 48 [.s 0]] [pV 1<|pL (pa (pa (.len<|.ac (.ax<|.s 0) 5)<|.len<|.ac (.ax<|.s 0) 6)<|.s 2)<|.ac (.ax<|.s 0) 1]] .ret,[(1,.v)]⟩
def c73:xQ [.fz] Tryz.f73=J NJ:=Z2
def NP:Fn:=⟨3,[0,1,4],pQ [pR [pV 2 pN]]<|px [pV 2<|.ai (.ag [.ac (.ax<|.s 0) 5,.ac (.ax<|.s 0) 6,.ac (.ax<|.s 0) 7,.ac (.ax<|.s 0) 8]) (pb (.s 1)<|pI 1) 4 1 xw],[(2,.v)]⟩
def c86:xQ [.fz,.fz] Tryz.f86=J NP:=Z2
def NQ:Fn:=⟨14,[0,1,4,5,6,15,7,8,9,25,10,11,36,52],pQ [pR [pV 2 pN],pR [pV 3 pN],pQ [pR [pV 4<|pI 0]]<|.block 0<|.loop [0,1,2,3,4]<|pQ [pu 5 (pl (.s 4)<|.len<|.s 1) .skip<|.exit 0]<|.block 1<|pQ [pR [(6,.m [pI 0,pI 0])],pQ [pC [pK 14 24 [.ac (.ba (.s 1) (.s 4) 1) 0]] [pV 7<|.ext (.s 14) 0,pV 8<|.ext (.s 14) 1]]<|pu 9 (pe (.s 8)<|pI 0) (pQ [pR [(10,pM (.sz (.ext (.lk (.i .u64) (.ac (.ax<|.s 0) 22) (.s 7) (.agg [.int .i64 0,.int .i64 0]) xk) 0) 2) 2),pV 11<|.ext (.lk (.i .u64) (.ac (.ax<|.s 0) 22) (.s 7) (.agg [.int .i64 0,.int .i64 0]) xk) 1],pi 12 (.un .not<|.s 11)<|px [pV 2<|.s 3,(3,.no)],pR [(6,pM (.mm 10 0 2) 2)]]<|pR [pV 3<|.app (.s 3) (.lit [.mm 6 0 2]) 2])<|pQ [pC [pK 15 81 [.ac (.ba (.s 1) (.s 4) 1) 0]] [(6,pM (.sz (.ext (.s 15) 0) 2) 2),pV 8<|.ext (.s 15) 1]]<|pi 13 (pn (.s 8)<|pI 0)<|px [pV 2<|.s 3,(3,.no)]]<|pR [pV 4<|pa (.s 4)<|pa (pI 1)<|.m 6 0]]<|px [pV 2<|.s 3,(3,.no)],[(2,.v)]⟩
def c88:xQ [.fz,.fz] Tryz.f88=J NQ:=Z2
def Lz:Fn:=⟨11,[0,1,2,19,18,20,7,17,8,9,42],pQ [.au ⟨[],[([],.ai (.c<|.agg [(.bool xk),(.bool xk),(.bool xk),(.bool xk)]) (pb (.s 1)<|pI 1) 4 1 xw)],[(0,.m [.m 0 0,.m 0 1,.m 0 2,.m 0 3,.m 0 4,.m 0 5,.m 0 6,.m 0 7,.m 0 8,.m 0 9,.m 0 10,.m 0 11,.m 0 12,.m 0 13,.m 0 14,.m 0 15,.m 0 16,.ac (.di (.mm 0 17 4) (pb (.s 1)<|pI 1) 4 1<|.one<|.s 2) 0,.ac (.di (.mm 0 17 4) (pb (.s 1)<|pI 1) 4 1<|.one<|.s 2) 1,.ac (.di (.mm 0 17 4) (pb (.s 1)<|pI 1) 4 1<|.one<|.s 2) 2,.ac (.di (.mm 0 17 4) (pb (.s 1)<|pI 1) 4 1<|.one<|.s 2) 3,.m 0 21,.m 0 22])]⟩,pR [pV 3<|pI 0,pV 4<|.len<|.s 2,pV 7<|.s 2]]<|po [0,1,2,3,4,7] 5 (pl (.s 3)<|.s 4) (pQ [pR [(6,pM (.bi (.ba (.s 7) (.s 3) 5) 0 5) 5)],pC [pK 11 35 [.mm 0 10 7,.ag [.one<|.s 1,.m 6 0]]] [pV 8<|.ext (.s 11) 0,pV 9<|.ext (.s 11) 1],pR [(0,.m [.m 0 0,.m 0 1,.m 0 2,.m 0 3,.m 0 4,.m 0 5,.m 0 6,.m 0 7,.m 0 8,.m 0 9,.m 0 10,.m 0 11,.m 0 12,.m 0 13,.m 0 14,.m 0 15,.m 0 16,.m 0 17,.m 0 18,.m 0 19,.m 0 20,.dj (.i .u64) (.m 0 21) (.s 8)<|.s 1,.m 0 22])]]<|pi 10 (pe (.s 1)<|pI 1)<|pR [(0,.m [.m 0 0,.m 0 1,.m 0 2,.m 0 3,.m 0 4,.m 0 5,.m 0 6,.m 0 7,.m 0 8,.m 0 9,.m 0 10,.m 0 11,.m 0 12,.m 0 13,.m 0 14,.m 0 15,.m 0 16,.m 0 17,.m 0 18,.m 0 19,.m 0 20,.m 0 21,.dj (.i .u64) (.m 0 22) (.s 8)<|.mm 6 1 2])])<|pc 3,[]⟩
def c89:V2 xP fresh sig [(.mem [.fz,.fz,.fz,.fz,.fz,.fz,.fz,.fz,.fz,.fz,.fz,.fz,.fz,.fz,.fz,.fz,.fz,.fz,.fz,.fz,.fz,(.own 75),(.own 113)]),.fz,.fz] [(0,(.mem [.fz,.fz,.fz,.fz,.fz,.fz,.fz,.fz,.fz,.fz,.fz,.fz,.fz,.fz,.fz,.fz,.fz,.fz,.fz,.fz,.fz,(.own 75),(.own 113)]))] Tryz.f89=J Lz:=Z2
def Cu:Fn:=⟨11,[0,1,2,3,8,14,9,10,21,11,12],pQ [pR [pV 4 pF],pi 5 (pe (.s 1)<|pU 0)<|px [pV 4 pT],pC [pK 11 24 [.s 1]] [pV 6<|.ext (.s 11) 0,pV 7<|.ext (.s 11) 1],pi 8 (pn (.s 7)<|pI 0)<|px [pV 4 pF],pR [pV 9<|.ext (.lk (.i .u64) (.ac (.ax<|.s 0) 21) (.s 6) (.int .i64 0) xk) 0,pV 10<|.ext (.lk (.i .u64) (.ac (.ax<|.s 0) 21) (.s 6) (.int .i64 0) xk) 1],.au ⟨[.lt 12 []<|.s 10,.lt 13 []<|.ite (.s 12) (pg (.s 9)<|.s 2) pF],[([(12,xk)],pg (.s 9)<|.s 2),([(13,xk)],pL (.s 9)<|.s 3)],[pV 4<|.ite (.s 13) (pL (.s 9)<|.s 3) pF]⟩] .ret,[(4,.v)]⟩
def c90:xQ [.fz,.fz,.fz,.fz] Tryz.f90=J Cu:=Z2
def NS:Fn:=⟨17,[0,1,2,6,7,23,22,24,9,21,28,32,31,33,10,11,47],pQ [pR [pV 3 pF],pC [pK 17 86 [.s 0,.s 1]] [pV 4<|.s 17],pQ [pR [pV 5<|pI 0,pV 6<|.len<|.ac (.ai (.bi (.ax<|.s 0) 17 4) (pb (.s 1)<|pI 1) 4 1 xk) 0,pV 9<|.ac (.ai (.bi (.ax<|.s 0) 17 4) (pb (.s 1)<|pI 1) 4 1 xk) 0]]<|po [0,1,2,3,4,5,6,9] 7 (pl (.s 5)<|.s 6) (pQ [pR [(8,pM (.bi (.ba (.s 9) (.s 5) 5) 0 5) 5)],pi 10 (.m 8 3)<|.exit 1,pR [pV 11<|pI 0,pV 12<|.m 8 2]]<|.block 2<|.loop [0,1,2,3,4,5,6,7,8,9,10,11,12]<|pQ [pR [pV 13<|pl (.s 11)<|.s 12],.cond (.s 13) .skip<|.exit 2,.block 3<|pQ [pR [pV 14<|.s 11],pR [pV 15<|pa (pa (.m 8 0)<|pI 1)<|.s 14],pC [.call 18 [] (.e<|.s 2) xw xw [.s 15,.ac (.ba (.s 4) (.s 15) 1) 0]] [pV 16<|.un .not<|.s 18]]<|pw (.s 16)<|px [pV 3 pF]]<|pc 11)<|pc 5]<|px [pV 3 pT],[(3,.v)]⟩
def c91:xQ [.fz,.fz,.fz] Tryz.f91=J NS:=Z2
def NT:Fn:=⟨4,[0,1,2,5],pQ [pR [pV 3 pF],pC [pK 4 90 [.ac (.ax<|.s 2) 0,.s 1,pI 1,pI 2]] [pV 3<|.s 4]] .ret,[(3,.v)]⟩
def c92:xQ [.fz,.fz,.fz] Tryz.f92=J NT:=Z2
def Cv:Fn:=⟨4,[0,1,2,5],pQ [pR [pV 3 pF],pC [.lt 4 []<|pg (.s 0)<|.ac (.ax<|.ac (.ax<|.s 2) 0) 4,.call 5 [(4,xw)] (.id 90) xw xw [.ac (.ax<|.s 2) 0,.s 1,pI 1,pI 2]] [pV 3<|.ite (.s 4) pT<|.s 5]] .ret,[(3,.v)]⟩
def c93:xQ [.fz,.fz,.fz] Tryz.f93=J Cv:=Z2
def Cw:Fn:=⟨4,[0,1,2,5],pQ [pR [pV 3 pF],pC [.lt 4 []<|pl (.s 0)<|.ac (.ax<|.ac (.ax<|.s 2) 0) 4,.call 5 [(4,xw)] (.id 90) xw xw [.ac (.ax<|.s 2) 0,.s 1,pI 1,pI 4]] [pV 3<|.ite (.s 4) pT<|.s 5]] .ret,[(3,.v)]⟩
def c94:xQ [.fz,.fz,.fz] Tryz.f94=J Cw:=Z2
def NU:Fn:=⟨4,[0,1,2,5],pQ [pR [pV 3 pF],pC [pK 4 90 [.ac (.ax<|.s 2) 0,.s 1,pI 3,pI 4]] [pV 3<|.s 4]] .ret,[(3,.v)]⟩
def c95:xQ [.fz,.fz,.fz] Tryz.f95=J NU:=Z2
end Vm
end
section
namespace Vm
open Go Go.Proofs
def XV{α:Type}(l:List<|Int×α)(k:Int)(v:α):List<|Int×α:=match l.findIdx? (·.1==k)with
 |some i=>l.set i (k,v)
 |none=>l++[(k,v)]
def Y4{α:Type}(l:List<|Int×α)(k:Int):Option α:=(l.find? (·.1==k)).map (·.2)
def Yh{α:Type}(f:α->V)(l:List<|Int×α):V:=.mp 0 (l.map λx=>vu x.1) (l.map λx=>f x.2)
def AQ{α:Type}{k}:∀ {l:List (Int×α)},Tu (vu k) (l.map λx=>vu x.1)=J (l.findIdx? (·.1==k))
 | []=>rfl
 |y::l=>by
  simp only[ZhN,Tu,L4,Zk2];by_cases h:k=y.1;simp[h];have a:(k==y.1)=xw:=Zh5;have d:(y.1==k)=xw:=by simpa using ZiX h
  simp[a,d,AQ]
def KH{α:Type}{p}:∀ {l:List α},l.find? p=(l.findIdx? p).bind λi=>l[i]?
 | []=>rfl
 |x::l=>by
  rw[List.find?_cons,Zk2];cases h:p x;simp;rw[KH (l:=l)];cases l.findIdx? p<;>simp;simp
theorem Qb{α f}{l:List (Int×α)}{k z ok}:UA (.i .u64) (Yh f l) (vu k) z ok=match Y4 l k with
  |some x=>J (if ok then .aq [f x,.bool xk]else f x)
  |none=>J (if ok then .aq [z,.bool xw]else z):=by
 unfold UA Yh Y4;simp[Vg,AQ,KH];grind [List.findIdx?_eq_some_iff_getElem]
def Lc{α f l k}{x:α}:T8 (.i .u64) (Yh f l) (vu k) (f x)=J (Yh f<|XV l k x):=by
 unfold T8 Yh XV;simp[Vg,AQ];cases h:l.findIdx? (·.1==k)with
 |none=>simp
 |some i=>
  let⟨d,g,_⟩:=Zi7.1 h;have a:(l[i]).1=k:=by simpa using g
  simp only[Zh7,V.mp.injEq,true_and];constructor;rw[ZjW];apply ZiV;intro j;rw[ZiA];split;rename_i e;subst e;simp[d,a];rfl;rw[ZjW]
@[simp]theorem ZeN{α}f(l:List<|Int×α):YV (Yh f l)=J (Yh f l):=rfl
@[simp]theorem ZcQ{α}f(l:List<|Int×α):(Yh f l).cells=[Yh f l]:=rfl
@[simp]theorem ZeY{α}f(l:List<|Int×α):(Yh f l).one=xk:=rfl
@[simp]theorem ZeC{α}f(l:List<|Int×α):R5 (Yh f l)=J (vi<|I l):=by simp[Yh]
def J7{α l k j}{x:α}:Y4 (XV l k x) j=if k=j then J x else Y4 l j:=by
 unfold Y4 XV;cases h:l.findIdx? (·.1==k)with
 |none=>
  grind
 |some i=>
  let⟨d,o,a⟩:=Zi7.1 h;by_cases e:k=j;subst e;rw[Zhi rfl,KH];grind [List.findIdx?_eq_some_iff_getElem,List.getElem_set_ne];rw[Zhg e,KH,KH];have:(l.set i (k,x)).findIdx? (·.1==j)=l.findIdx? (·.1==j):=by
   apply Option.ext;intro q;rw[Zi7,Zi7];constructor;grind;grind
  rw[this];cases f:l.findIdx? (·.1==j)with
  |none=>rfl
  |some q=>
   let⟨g,n,_⟩:=Zi7.1 f;grind
structure Ck where
 h:Hp
 o1:List Ob
 o2:List Ob
 o3:List Ob
 o4:List Ob
 pm:List<|Int×Int
 lm:List<|Int×(Int×Int)
def Ck.dw(s:Ck)(k:Int):List Ob:=if k=1 then s.o1 else if k=2 then s.o2 else if k=3 then s.o3 else s.o4
def ZX(s:Ck):List V:=[vu s.h.base,vi s.h.cap,vi s.h.to,.bool s.h.aa,vi s.h.Z,.sl<|s.h.H.map vu,.sl<|s.h.ae.map vu,.sl<|s.h.ah.map vu,.sl<|s.h.aj.map vu,.sl<|s.h.E.map vu,
 vu s.h.base,vi s.h.cap,vi s.h.to,vi<|I s.h.H,vi<|I s.h.ae,vi<|I s.h.ah,vi<|I s.h.aj,
 .sl (s.o1.map ZN),.sl<|s.o2.map ZN,.sl<|s.o3.map ZN,.sl<|s.o4.map ZN,Yh vi s.pm,Yh Wb s.lm]
def Xa(s:Ck):V:=.ptr<|ZX s
def Ru:IntKind.i64.wrap 0=0:=Zgm
def Tk:IntKind.i64.wrap 1=1:=Zgm
def U1:IntKind.i64.wrap 2=2:=Zgm
def Uo:IntKind.i64.wrap 3=3:=Zgm
def Z0k{s:Ck}{k:Int}(a:1<=k/\k<=4):VC xP 86 xw [Xa s,vi k]<|.sl<|(Zx s.h k).map vu:=by
 refine ZT Z25 follows Z2 c86 rfl ?_;have:k=1\/k=2\/k=3\/k=4:=Z0;obtain rfl|rfl|rfl|rfl:=this<;>simp[NP,Xa,ZX,Zx,Yb,Ru,Tk,U1,Uo]
def YU(s:Ck)(w first last:Int):Bool:=decide (w=0)||(decide ((adr w).2=0)&&match Y4 s.pm (adr w).1 with
 |some k=>decide (first<=k)&&decide (k<=last)
 |none=>xw)
def LD{s:Ck}{w first last:Int}(f:ZB w):VC xP 90 xw [Xa s,vu w,vi first,vi last]<|.bool<|YU s w first last:=by
 refine ZT Z29 follows Z2 c90 rfl ?_;unfold YU;by_cases a:w=0;simp[Cu,a];simp[Cu,a,Xa,ZX];refine Zz (QO f) Z1 ?_;by_cases d:(adr w).2=0;case neg=>simp[d]
 simp[d,Qb];cases g:Y4 s.pm (adr w).1 with
 |none=>simp
 |some k=>
  simp_all
def WB(h:Hp)(k:Int):List (Int×Int)->List Ob->List (Int×Int)
 |m,[]=>m
 |m,o::l=>WB h k (XV m (ZU (Zv h) k o.Y).1 k) l
def XG(h:Hp)(k:Int):List (Int×(Int×Int))->List Ob->List (Int×(Int×Int))
 |m,[]=>m
 |m,o::l=>XG h k (if k=1 then XV m (ZU (Zv h) k o.Y).1 (o.size,o.M)else m) l
def Ck.put(s:Ck)(k:Int)(l:List Ob):Ck:=if k=1 then {s with o1:=l}else if k=2 then {s with o2:=l}else if k=3 then {s with o3:=l}else {s with o4:=l}
def XT(s:Ck)(k:Int)(l:List Ob):Ck:= {s.put k l with pm:=WB s.h k s.pm l,lm:=XG s.h k s.lm l}
def Ln{h k}:∀ {l:List Ob} {i:Nat} {o:Ob} {m:List (Int×Int)},l[i]?=J o->WB h k m (l.take<|i+1)=XV (WB h k m<|l.take i) (ZU (Zv h) k o.Y).1 k
 | [],_,_,_,h=>ZgN
 |x::l,0,o,m,h=>by simp_all[WB]
 |x::l,i+1,o,m,h=>by
  simp_all[ZkA,WB,Ln]
def Ll{h k}:∀ {l:List Ob} {i:Nat} {o:Ob} {m:List (Int×(Int×Int))},l[i]?=J o->XG h k m (l.take<|i+1)=if k=1 then XV (XG h k m<|l.take i) (ZU (Zv h) k o.Y).1 (o.size,o.M)else XG h k m (l.take i)
 | [],_,_,_,h=>ZgN
 |x::l,0,o,m,h=>by simp_all[XG]
 |x::l,i+1,o,m,h=>by
  simp_all[ZkA,XG,Ll]
abbrev zV:List CK:=[.fz,.fz,.fz,.fz,.fz,.fz,.fz,.fz,.fz,.fz,.fz,.fz,.fz,.fz,.fz,.fz,.fz,.fz,.fz,.fz,.fz,.own 75,.own 113]
@[simp]theorem Z8C(s:Ck)k l:(s.put k l).h=s.h:=by
 unfold Ck.put;split;rfl;split;rfl;split<;>rfl
def qe{l k x}:T8 (.i .u64) (Yh vi l) (vu k) (vi x)=J (Yh vi<|XV l k x):=Lc
def qf{l k a b}:T8 (.i .u64) (Yh Wb l) (vu k) (.agg [vi a,vi b])=J (Yh Wb<|XV l k (a,b)):=Lc (f:=Wb) (x:=(a,b))
def qp{s:Ck}(r:s.h.ok){k:Int}(w:1<=k/\k<=4){l:List Ob}(x:I l<=1000000):Vo xP 89 [.mem zV,.fz,.fz] [.agg<|ZX s,vi k,.sl<|l.map ZN]<|.aq [.aq [],.agg<|ZX<|XT s k l]:=by
 refine JV Z28 follows Z2 c89 Z2 ?_;have t:k=1\/k=2\/k=3\/k=4:=Z0;have q:I l<=Yc:=by unfold Yc;omega
 have u:∀k,({s.put k l with pm:=s.pm,lm:=s.lm}:Ck)=s.put k l:=by
  intro k;unfold Ck.put;split;rfl;split;rfl;split<;>rfl
 have o:=λ(k at_:Int)=>Aa r.be (part:=k) (at_:=at_);unfold Zv YP at o;obtain rfl|rfl|rfl|rfl:=t
 .simp[Lz,ZX,Yb,US,Ru,Tk,U1,Uo,setCells];refine VF 3 (I l) (λi=>[(0,.m<|ZX {s.put 1 l with pm:=WB s.h 1 s.pm<|l.take i,lm:=XG s.h 1 s.lm (l.take i)}),(3,.v<|vi i)]) (λ_=>True) (by simp[ZX,Ck.put,WB,XG]) Z1 trivial ?_;intro i p _;have d:=ZA ((i:Int)+1) Z0 Z0;by_cases a:i<I l
  .have f:l[i]?=J l[i]:=Zh8 a;have g:=Ln (h:=s.h) (k:=1) (m:=s.pm) f;have j:=Ll (h:=s.h) (k:=1) (m:=s.lm) f;have n:=o 1 (l[i]).Y;simp[a,f,d,ZX,Xb];refine Zz n Z1 ?_;simp[qe,qf,g,j,d,a];first|done|rfl|exact⟨rfl,rfl⟩
  have:i=I l:=Z0;subst this;simp[ZX,XT,Zib]
 .simp[Lz,ZX,Yb,US,Ru,Tk,U1,Uo,setCells];refine VF 3 (I l) (λi=>[(0,.m<|ZX {s.put 2 l with pm:=WB s.h 2 s.pm<|l.take i,lm:=XG s.h 2 s.lm (l.take i)}),(3,.v<|vi i)]) (λ_=>True) (by simp[ZX,Ck.put,WB,XG]) Z1 trivial ?_;intro i p _;have d:=ZA ((i:Int)+1) Z0 Z0;by_cases a:i<I l
  .have f:l[i]?=J l[i]:=Zh8 a;have g:=Ln (h:=s.h) (k:=2) (m:=s.pm) f;have j:=Ll (h:=s.h) (k:=2) (m:=s.lm) f;have n:=o 2 (l[i]).Y;simp[a,f,d,ZX,Xb];refine Zz n Z1 ?_;simp[qe,qf,g,j,d,a];first|done|rfl|exact⟨rfl,rfl⟩
  have:i=I l:=Z0;subst this;simp[ZX,XT,Zib]
 .simp[Lz,ZX,Yb,US,Ru,Tk,U1,Uo,setCells];refine VF 3 (I l) (λi=>[(0,.m<|ZX {s.put 3 l with pm:=WB s.h 3 s.pm<|l.take i,lm:=XG s.h 3 s.lm (l.take i)}),(3,.v<|vi i)]) (λ_=>True) (by simp[ZX,Ck.put,WB,XG]) Z1 trivial ?_;intro i p _;have d:=ZA ((i:Int)+1) Z0 Z0;by_cases a:i<I l
  .have f:l[i]?=J l[i]:=Zh8 a;have g:=Ln (h:=s.h) (k:=3) (m:=s.pm) f;have j:=Ll (h:=s.h) (k:=3) (m:=s.lm) f;have n:=o 3 (l[i]).Y;simp[a,f,d,ZX,Xb];refine Zz n Z1 ?_;simp[qe,qf,g,j,d,a];first|done|rfl|exact⟨rfl,rfl⟩
  have:i=I l:=Z0;subst this;simp[ZX,XT,Zib]
 .simp[Lz,ZX,Yb,US,Ru,Tk,U1,Uo,setCells];refine VF 3 (I l) (λi=>[(0,.m<|ZX {s.put 4 l with pm:=WB s.h 4 s.pm<|l.take i,lm:=XG s.h 4 s.lm (l.take i)}),(3,.v<|vi i)]) (λ_=>True) (by simp[ZX,Ck.put,WB,XG]) Z1 trivial ?_;intro i p _;have d:=ZA ((i:Int)+1) Z0 Z0;by_cases a:i<I l
  .have f:l[i]?=J l[i]:=Zh8 a;have g:=Ln (h:=s.h) (k:=4) (m:=s.pm) f;have j:=Ll (h:=s.h) (k:=4) (m:=s.lm) f;have n:=o 4 (l[i]).Y;simp[a,f,d,ZX,Xb];refine Zz n Z1 ?_;simp[qe,qf,g,j,d,a];first|done|rfl|exact⟨rfl,rfl⟩
  have:i=I l:=Z0;subst this;simp[ZX,XT,Zib]
end Vm
namespace Vm
open Go Go.Proofs
def Va(s:Ck):V:=.ptr [Xa s]
def Za8{s:Ck}{a w:Int}(d:ZB w):VC xP 92 xw [vi a,vu w,Va s]<|.bool<|YU s w 1 2:=by
 refine ZT Z2b follows Z2 c92 rfl ?_;have k:=LD (s:=s) (first:=1) (last:=2) d;unfold Va Xa at*;simp[NT,YV,V.one];refine Zz k Z1 ?_;simp
def Za9{s:Ck}{a w:Int}(d:ZB w):VC xP 93 xw [vi a,vu w,Va s]<|.bool<|decide (s.h.Z<=a)||YU s w 1 2:=by
 refine ZT Z2c follows Z2 c93 rfl ?_;have k:=LD (s:=s) (first:=1) (last:=2) d;unfold Va Xa at*;by_cases h:s.h.Z<=a;simp[Cv,YV,V.one,ZX,h];simp[Cv,YV,V.one,ZX,h];refine Zz k (by simp[ZX]) ?_;simp[h]
def Zb8{s:Ck}{a w:Int}(d:ZB w):VC xP 94 xw [vi a,vu w,Va s]<|.bool<|decide (a<s.h.Z)||YU s w 1 4:=by
 refine ZT Z2d follows Z2 c94 rfl ?_;have k:=LD (s:=s) (first:=1) (last:=4) d;unfold Va Xa at*;by_cases h:a<s.h.Z;simp[Cw,YV,V.one,ZX,h];simp[Cw,YV,V.one,ZX,h];refine Zz k (by simp[ZX]) ?_;simp[h]
def Iy{s:Ck}{a w:Int}(d:ZB w):VC xP 95 xw [vi a,vu w,Va s]<|.bool<|YU s w 3 4:=by
 refine ZT Z2e follows Z2 c95 rfl ?_;have k:=LD (s:=s) (first:=3) (last:=4) d;unfold Va Xa at*;simp[NU,YV,V.one];refine Zz k Z1 ?_;simp
structure Ck.ok (s:Ck):Prop where
 h:s.h.ok
 ob:∀k,∀o∈s.dw k,QJ (I<|Zx s.h k) o/\ZB o.target
 len:∀k,I (s.dw k)<=1000000
def U2(ws:List Int)(k:Nat):Int:=(ws[k]?).getD 0
def obQ(s:Ck)(k:Int)(q:Int->Int->Bool)(o:Ob):Bool:=o.gone||(List.range o.M.toNat).all λj=>q ((o.Y.toNat+1+j:Nat):Int)<|U2 (Zx s.h k)<|o.Y.toNat+1+j
def WW(s:Ck)(k:Int)(q:Int->Int->Bool):Bool:=(s.dw k).all<|obQ s k q
def LC{s:Ck}(u:s.ok){k:Int}(W:1<=k/\k<=4){f:FuncId}{cs:List V}{q:Int->Int->Bool}(hq:∀a w,ZB w->VC xP f xw ([vi a,vu w]++cs) (.bool<|q a w)):
  VC xP 91 xw [Xa s,vi k,.cy f cs] (.bool<|WW s k q):=by
 refine ZT Z2a follows Z2 c91 rfl ?_;simp[-List.all_eq_true,-List.all_eq_false,NS];refine Zz (Z0k W) Z1 ?_;have Z:Y1 (.agg [.sl<|s.o1.map ZN,.sl<|s.o2.map ZN,.sl<|s.o3.map ZN,.sl<|s.o4.map ZN]) 0=J (.sl<|s.o1.map ZN):=rfl;have Q:=u.len k;have D:=u.ob k;have hw:=(Xf u.h k).1;have Y:=(Xf u.h k).2;have x:Yb (.agg [.sl<|s.o1.map ZN,.sl<|s.o2.map ZN,.sl<|s.o3.map ZN,.sl<|s.o4.map ZN]) (.int .i64<|IntKind.i64.wrap<|k-1) 4 1 xk=J (.agg [.sl<|(s.dw k).map ZN]):=by
  have:k=1\/k=2\/k=3\/k=4:=Z0;obtain rfl|rfl|rfl|rfl:=this<;>simp[Yb,Ck.dw,Ru,Tk,U1,Uo]
 unfold WW;generalize hL:s.dw k=L at*;generalize S:Zx s.h k=r at*;simp[-List.all_eq_true,-List.all_eq_false,Xa,ZX,x];refine zq 5 (I L) (λi=>(L.take i).all (obQ s k q)=xk) Z1 Z1 Z1 ?_;intro i hi O;have a0:=ZA ((i:Int)+1) Z0 Z0;by_cases l:i<I L;have M:L[i]?=J L[i]:=Zh8 l;obtain⟨⟨⟨a,N,P⟩,F⟩,_⟩:=D _<|Zhx l;generalize L[i]=o at*;obtain⟨s1,s2,s3,s4⟩:=YN.1 F;obtain⟨m,R⟩:=Zhp s3;have G:=ZA ((a:Int)+1) Z0 Z0;have C:obQ s k q o=xk->(L.take<|i+1).all (obQ s k q)=xk:=λh=>by simp_all[Fs]
 have y:obQ s k q o=xw->L.all (obQ s k q)=xw:=λg=>Fr M g;cases z:o.gone;have t:obQ s k q o=(List.range m).all λj=>q ((a+1+j:Nat):Int)<|U2 r<|a+1+j:=by
  unfold obQ;rw[R,N,S,z];rfl
 simp[-List.all_eq_true,-List.all_eq_false,l,M,Yp M,Xb,z,N,R];refine zq 11 m (λj=>((List.range j).all λj=>q ((a+1+j:Nat):Int)<|U2 r<|a+1+j)=xk) Z1 Z1 Z1 ?_;intro j hj T;have a1:=ZA ((j:Int)+1) Z0 Z0;by_cases A:j<m;obtain⟨w,d,hu⟩:∃w,r[a+1+j]?=J w/\ZB w:=⟨_,Zh8 Z0,hw _<|Zhx _⟩;have K:U2 r (a+1+j)=w:=by unfold U2;rw[d];rfl
 have p:((List.range<|j+1).all λj=>q ((a+1+j:Nat):Int)<|U2 r<|a+1+j)=(((List.range j).all λj=>q ((a+1+j:Nat):Int)<|U2 r<|a+1+j)&&q ((a+1+j:Nat):Int) w):=by
  rw[Zjv,List.all_append];simp[K]
 have g:q ((a+1+j:Nat):Int) w=xw->L.all (obQ s k q)=xw:=λg=>y (by
  grind)
 obtain⟨n,X⟩:∃n,a+1+j=n:=⟨_,rfl⟩;have B:(a:Int)+1+(j:Int)=(n:Int):=Z0;have H:=ZA (n:Int) Z0 Z0;rw[X]at d p g;have kq:=hq (n:Int) w hu;simp[-List.all_eq_true,-List.all_eq_false,A,G,B,H,d,Yp d,Xb];refine Zz kq Z1 ?_;simp_all;have:j=m:=Z0;simp_all;have t:obQ s k q o=xk:=by unfold obQ;rw[z];rfl
 simp_all;have:i=I L:=Z0;simp_all
@[simp]theorem Zf6 l:(V.ptr l).one=xk:=rfl
@[simp]theorem ZeV l:YV (.ptr l)=J (.ptr l):=rfl
@[simp]theorem Zf2 f l:(V.cy f l).one=xk:=rfl
@[simp]theorem ZeR f l:YV (.cy f l)=J (.cy f l):=rfl
@[simp]theorem ZeQ s:YV (Xa s)=J (Xa s):=rfl
@[simp]theorem Zf1 s:(Xa s).one=xk:=rfl
@[simp]theorem Zfy s:Tj (Xa s)=J (.agg<|ZX s):=rfl
@[simp]theorem Zd7 s:(ZX s)[4]?=J (vi s.h.Z):=rfl
@[simp]theorem Zd0 s:(ZX s)[3]?=J (.bool s.h.aa):=rfl
@[simp]theorem Zd6 s:(ZX s)[9]?=J (.sl<|s.h.E.map vu):=rfl
@[simp]theorem Zd4 s:(ZX s)[5]?=J (.sl<|s.h.H.map vu):=rfl
@[simp]theorem Zd2 s:(ZX s)[6]?=J (.sl<|s.h.ae.map vu):=rfl
@[simp]theorem Zd5 s:(ZX s)[7]?=J (.sl<|s.h.ah.map vu):=rfl
@[simp]theorem Zd1 s:(ZX s)[8]?=J (.sl<|s.h.aj.map vu):=rfl
@[simp]theorem ZcZ s:(ZX s)[1]?=J (vi s.h.cap):=rfl
def Qy(s:Ck):Bool:=s.h.E.all (λw=>YU s w 1 2)&&(WW s 2 (λ_ w=>YU s w 1 2)&&WW s 1 (λa w=>decide (s.h.Z<=a)||YU s w 1 2))
def Zaa{s:Ck}(n:s.ok):VC xP 70 xw [Xa s]<|.bool<|Qy s:=by
 refine ZT Z1W follows Z2 c70 rfl ?_;have k1:=LC n (k:=2) Z0 (f:=92) (cs:=[Va s]) (q:=λ_ w=>YU s w 1 2) (λa w l=>Za8 l);have y:=LC n (k:=1) Z0 (f:=93) (cs:=[Va s]) (q:=λa w=>decide (s.h.Z<=a)||YU s w 1 2) (λa w l=>Za9 l);have C:=λw (l:ZB w)=>LD (s:=s) (first:=1) (last:=2) l;have A:=n.h.E;have t:=n.h.gc;unfold Qy;unfold Va at k1 y;generalize WW s 2 (λ_ w=>YU s w 1 2)=z at*;generalize WW s 1 (λa w=>decide (s.h.Z<=a)||YU s w 1 2)=D at*;simp[-List.all_eq_true,-List.all_eq_false,NG];refine zq 3 (I s.h.E) (λi=>(s.h.E.take i).all (λw=>YU s w 1 2)=xk) Z1 Z1 Z1 ?_;intro i F g;have u:=ZA ((i:Int)+1) Z0 Z0;by_cases j:i<I s.h.E;have o:s.h.E[i]?=J s.h.E[i]:=Zh8 j;have B:=t _<|Zhx j;generalize s.h.E[i]=w at*;have p:YU s w 1 2=xw->s.h.E.all (λw=>YU s w 1 2)=xw:=λr=>Fr o r;have d:=Fs (q:=λw=>YU s w 1 2) o;rw[g]at d;simp[-List.all_eq_true,-List.all_eq_false,j,o,Yp o,Xb];refine Zz (C w B) Z1 ?_;cases x:YU s w 1 2;simp[-List.all_eq_true,-List.all_eq_false,p x];rw[x]at d;simp[-List.all_eq_true,-List.all_eq_false,u,j,d];have:i=I s.h.E:=Z0;subst this;rw[Ziy]at g;simp[-List.all_eq_true,-List.all_eq_false,g];refine Zz k1 (by simp[WA,V.bp]) ?_;cases z;simp;simp;refine Zz y (by simp[WA,V.bp]) ?_;simp
def QB(s:Ck):Bool:=WW s 1 (λa w=>decide (a<s.h.Z)||YU s w 1 4)
def Zb9{s:Ck}(d:s.ok):VC xP 71 xw [Xa s]<|.bool<|QB s:=by
 refine ZT Z1X follows Z2 c71 rfl ?_;have k1:=LC d (k:=1) Z0 (f:=94) (cs:=[Va s]) (q:=λa w=>decide (a<s.h.Z)||YU s w 1 4) (λa w g=>Zb8 g);unfold QB;unfold Va at k1;simp[NH];refine Zz k1 (by simp[WA,V.bp]) ?_;simp
def Q9(s:Ck):Bool:=WW s 3 (λ_ w=>YU s w 3 4)&&WW s 4 (λ_ w=>YU s w 3 4)
def Z5S{s:Ck}(g:s.ok):VC xP 72 xw [Xa s]<|.bool<|Q9 s:=by
 refine ZT Z1Y follows Z2 c72 rfl ?_;have k1:=LC g (k:=3) Z0 (f:=95) (cs:=[Va s]) (q:=λ_ w=>YU s w 3 4) (λa w d=>Iy d);have h:=LC g (k:=4) Z0 (f:=95) (cs:=[Va s]) (q:=λ_ w=>YU s w 3 4) (λa w d=>Iy d);unfold Q9;unfold Va at k1 h;generalize WW s 3 (λ_ w=>YU s w 3 4)=j at*;generalize WW s 4 (λ_ w=>YU s w 3 4)=l at*;simp[NI];refine Zz k1 (by simp[WA,V.bp]) ?_;cases j;simp;simp;refine Zz h (by simp[WA,V.bp]) ?_;simp
end Vm
namespace Vm
open Go Go.Proofs
def SJ(s:Ck):Bool:=ZD (Zv s.h)&&(decide (I s.h.E<=16)&&(decide (0<=s.h.Z)&&decide (s.h.Z<=I s.h.H)))
def Z2W{s:Ck}(f:s.h.ok):VC xP 66 xw [Xa s]<|.bool<|SJ s:=by
 refine ZT Z1S follows Z2 c66 rfl ?_;have k:=Qu f.be;unfold SJ;unfold Zv YP at k;simp[NE];simp[ZX];refine Zz k Z1 ?_;have e:ZD {base:=s.h.base,cap:=s.h.cap,to:=s.h.to,H:=(I s.h.H:Int),ae:=(I s.h.ae:Int),ah:=(I s.h.ah:Int),aj:=(I s.h.aj:Int)}=ZD (Zv s.h):=rfl;rw[e];cases ZD (Zv s.h);simp;by_cases d:I s.h.E<=16;have a:(I s.h.E:Int)<=16:=Z0;simp_all;have a:¬(I s.h.E:Int)<=16:=Z0;simp[d,a]
def Qt(s:Ck):Bool:=if s.h.aa then decide (s.h.Z<I s.h.H)else decide (I s.h.ah=0)&&(decide (I s.h.aj=0)&&decide (s.h.Z=I s.h.H))
def Z9m{s:Ck}:VC xP 67 xw [Xa s]<|.bool<|Qt s:=by
 refine ZT Z1T follows Z2 c67 rfl ?_;unfold Qt;cases f:s.h.aa;by_cases g:I s.h.ah=0;have a:s.h.ah=[]:=ZiQ.1 g;by_cases j:I s.h.aj=0;have d:s.h.aj=[]:=ZiQ.1 j;simp[Lw,f,a,d];have d:¬s.h.aj=[]:=λe=>j (by simp[e]);simp[Lw,f,a,j,d];have a:¬s.h.ah=[]:=λe=>g (by simp[e]);simp[Lw,f,g,a];simp[Lw,f]
def Sv(s:Ck):Nat:=Yx s.o3+Yx s.o4
@[simp]theorem ZeH s:((ZX s).drop 17).take 4=[.sl<|s.o1.map ZN,.sl<|s.o2.map ZN,.sl<|s.o3.map ZN,.sl<|s.o4.map ZN]:=rfl
@[simp]theorem Zd3 s:I (ZX s)=23:=rfl
def Z08{s:Ck}(t:s.ok):VC xP 48 xw [Xa s]<|vi<|Sv s:=by
 refine ZT Z1C follows Z2 c48 rfl ?_;have p:∀k,∀o∈s.dw k,YE o.size o.M=xk:=λk o n=>(t.ob k o n).1.2;have K:I s.o3<=1000000:=t.len 3;have L:I s.o4<=1000000:=t.len 4;have a:∀o∈s.o3,YE o.size o.M=xk:=p 3;have d:∀o∈s.o4,YE o.size o.M=xk:=p 4;have F:=K0 a;have G:=K0 d;have A:Yb (.agg [.sl<|s.o1.map ZN,.sl<|s.o2.map ZN,.sl<|s.o3.map ZN,.sl<|s.o4.map ZN]) (.int .i64 2) 4 1 xk=J (.agg [.sl<|s.o3.map ZN]):=by simp[Yb]
 have B:Yb (.agg [.sl<|s.o1.map ZN,.sl<|s.o2.map ZN,.sl<|s.o3.map ZN,.sl<|s.o4.map ZN]) (.int .i64 3) 4 1 xk=J (.agg [.sl<|s.o4.map ZN]):=by simp[Yb]
 simp[Nv];refine Sy (λ(i:Nat)=>[(2,.v<|vi ((if 0<i then Yx s.o3 else 0)+(if 1<i then Yx s.o4 else 0):Nat)),(3,.v<|vi ((i+3:Nat):Int))]) (λi=>i<=2) (Xk 3 5) 0 Z1 Z1 ?_;rintro i M;have q:i=0\/i=1\/i=2:=Z0;obtain rfl|rfl|rfl:=q;simp[U1,A];refine VF 5 (I s.o3) (λj=>[(2,.v<|vi<|Yx<|s.o3.take j),(5,.v<|vi j)]) (λ_=>True) (by simp[Yx]) (λi=>Z1) trivial ?_;rintro j H-;have w:=ZA ((j:Int)+1) Z0 Z0;by_cases h:j<I s.o3;have x:s.o3[j]?=J s.o3[j]:=Zh8 h;have f:=a _<|Zhx h;have u:=Z0r x;generalize s.o3[j]=o at*;have r:Yx (s.o3.take j)<=256*I s.o3:=by
  refine ZhD (K0 λo n=>a o<|Zie n) ?_;simp;omega
 obtain⟨g1,g2,C,D⟩:=YN.1 f;obtain⟨z,y⟩:=Zhp g1;have w1:=ZA (1+(z:Int)) Z0 Z0;have w2:=ZA ((Yx (s.o3.take j):Int)+(1+z)) Z0 Z0;cases l:o.gone;have g:WH o=1+z:=by simp[WH,l,y]
 simp_all;have g:WH o=0:=by simp[WH,l]
 simp_all;have:j=I s.o3:=Z0;subst this;rw[Ziy];simp[Xb,ZA];exact⟨1,Z0,Z1,Zh3⟩;simp[Uo,B];refine VF 5 (I s.o4) (λj=>[(2,.v<|vi (Yx s.o3+Yx (s.o4.take j):Nat)),(5,.v<|vi j)]) (λ_=>True) (by simp[Yx]) (λi=>Z1) trivial ?_;rintro j H-;have w:=ZA ((j:Int)+1) Z0 Z0;by_cases h:j<I s.o4;have x:s.o4[j]?=J s.o4[j]:=Zh8 h;have f:=d _<|Zhx h;have u:=Z0r x;generalize s.o4[j]=o at*;have r:Yx (s.o4.take j)<=256*I s.o4:=by
  refine ZhD (K0 λo n=>d o<|Zie n) ?_;simp;omega
 obtain⟨g1,g2,C,D⟩:=YN.1 f;obtain⟨z,y⟩:=Zhp g1;have w1:=ZA (1+(z:Int)) Z0 Z0;have w2:=ZA ((Yx s.o3:Int)+Yx (s.o4.take j)+(1+z)) Z0 Z0;cases l:o.gone;have g:WH o=1+z:=by simp[WH,l,y]
 simp_all;omega;have g:WH o=0:=by simp[WH,l]
 simp_all;have:j=I s.o4:=Z0;subst this;rw[Ziy];simp[Xb,ZA];exact⟨2,Z0,Z1,Zh3⟩;simp[Sv]
def Qw(s:Ck):Bool:=decide ((I s.h.H:Int)+I s.h.ae+Sv s<=s.h.cap)
def Zbi{s}(a:s.ok):Sv s<=512*1000000:=by
 have f:=K0 (l:=s.o3) λo d=>(a.ob 3 o d).1.2;have g:=K0 (l:=s.o4) λo d=>(a.ob 4 o d).1.2;have h:I s.o3<=1000000:=a.len 3;have j:I s.o4<=1000000:=a.len 4;grind [Sv]
def Z9s{s:Ck}(a:s.ok):VC xP 73 xw [Xa s]<|.bool<|Qw s:=by
 refine ZT Z1Z follows Z2 c73 rfl ?_;have d:=Zbi a;have f:=a.h.H;have g:=a.h.ae;have w1:=ZA ((I s.h.H:Int)+I s.h.ae) Z0 Z0;have w2:=ZA ((I s.h.H:Int)+I s.h.ae+Sv s) Z0 Z0;simp[NJ];refine Zz (Z08 a) Z1 ?_;simp[w1,w2,Qw]
end Vm
namespace Vm
open Go Go.Proofs
def WN(lm:List<|Int×(Int×Int))(ws:List Int):Nat->Nat->List (Int×Int)->List (Int×Int)
 |0,_,a=>a
 |f+1,i,a=>
  match ws[i]? with
  |none=>a
  |some w=>if(adr w).2=0 then(match Y4 lm (adr w).1 with|none=>a|some sh=>WN lm ws f (i+1+sh.1.toNat)<|a++[sh])
   else if(ZS w).2.2=0 then WN lm ws f (i+1+(ZS w).1.toNat) a else a
def U0(lm:List<|Int×(Int×Int))(ws:List Int):List<|Int×Int:=WN lm ws (I ws+1) 0 []
def H9{α l k}{x:α}(h:Y4 l k=J x):(k,x)∈l:=by
 obtain⟨y,a,rfl⟩:=Zha.1 h;grind
def Zab{s:Ck}(D:∀x∈s.lm,YE x.2.1 x.2.2=xk){ws:List Int}(M:I ws<=1000000)(L:∀w∈ws,ZB w):
  VC xP 88 xw [Xa s,.sl<|ws.map vu] (.sl<|(U0 s.lm ws).map Wb):=by
 refine ZT Z27 follows Z2 c88 rfl ?_;have C:∀k,UA (.i .u64) (Yh Wb s.lm) (vu k) (.agg [vi 0,vi 0]) xk=match Y4 s.lm k with
  |some x=>J<|.aq [Wb x,.bool xk]
  |none=>J<|.aq [.agg [vi 0,vi 0],.bool xw]:=λk=>by grind [Qb,Y4]
 have B:(ZX s)[22]?=J (Yh Wb s.lm):=rfl;simp[NQ]
 refine Sy (λ(p:Nat×List (Int×Int))=>[(3,.v<|.sl<|p.2.map Wb),(4,.v<|vi p.1)])
  (λp=>p.1<=I ws+256/\I p.2<=p.1/\∃f,I ws<f+p.1/\0<f/\U0 s.lm ws=WN s.lm ws f p.1 p.2) (Xk 4<|I ws) (0,[]) Z1 ⟨Z1,Z1,I ws+1,Z1,Z0,rfl⟩ ?_
 rintro⟨i,g⟩ ⟨K,r,f,G,H,a⟩;simp only at K r G a;cases f with
 |zero=>omega
 |succ f=>
 by_cases d:i<I ws;have y:ws[i]?=J ws[i]:=Zh8 d;have F:=L _<|Zhx d;generalize ws[i]=w at*;simp only[WN,y]at a;have u:I g+1<=Yc:=Zgw;simp[d,y,Yp y,Xb];refine Zz (QO F) Z1 ?_;by_cases A:(adr w).2=0;rw[Zhi A]at a;simp[A,B,C];cases t:Y4 s.lm (adr w).1 with
 |none=>
  simp_all
 |some q=>
  rw[t]at a;simp only at a;have h:0<=q.1/\q.1<=255/\0<=q.2/\q.2<=q.1:=YN.1<|D _<|H9 t;obtain⟨z,o⟩:=Zhp h.1;have l:=ZA (1+(z:Int)) Z0 Z0;have n:=ZA ((i:Int)+(1+z)) Z0 Z0;rw[o,Zhm]at a;simp[u,o,l,n];refine⟨i+1+z,g++[q],⟨Z0,Zge,f,Z0,?_,a⟩,⟨by simp[Wb,o],Z0⟩,ZgZ⟩;omega
 rw[Zhg A]at a;simp[A,y,Yp y,d,Xb];refine Zz (Z00 F) Z1 ?_;by_cases j:(ZS w).2.2=0;rw[Zhi j]at a;have h:=YN.1<|DZ j;obtain⟨z,o⟩:=Zhp h.1;have l:=ZA (1+(z:Int)) Z0 Z0;have n:=ZA ((i:Int)+(1+z)) Z0 Z0;rw[o,Zhm]at a;simp[j,o,l,n];refine⟨i+1+z,g,⟨Z0,Z0,f,Z0,?_,a⟩,⟨rfl,Z0⟩,ZgZ⟩;omega;simp_all;simp_all[ZhP,WN]
end Vm
namespace Vm
open Go Go.Proofs
def Wy(pm:List<|Int×Int):List Ob->List (Int×Bool)->Option (List<|Int×Bool)
 | [],m=>J m
 |o::l,m=>if o.gone=xk then(if(Y4 pm o.target).getD 0=1/\(Y4 m o.target).getD xw=xw then Wy pm l (XV m o.target xk)else U)else Wy pm l m
def RP(s:Ck):Bool:= !s.h.aa||match(Wy s.pm s.o3 []).bind (Wy s.pm s.o4)with
 |none=>xw
 |some m=>decide (I m=I s.o1)
def Mb{l k x}:T8 (.i .u64) (Yh .bool l) (vu k) (.bool x)=J (Yh .bool<|XV l k x):=Lc
def Jh{l k}:UA (.i .u64) (Yh .bool l) (vu k) (.bool xw) xw=J (.bool<|(Y4 l k).getD xw):=by
 grind [Qb]
def Ji{l k}:UA (.i .u64) (Yh vi l) (vu k) (vi 0) xw=J (vi<|(Y4 l k).getD 0):=by
 grind [Qb]
def Z6B{α}(f:α->V):Yh f []=.mp 0 [] []:=rfl
def Z3q{s:Ck}(t:s.ok):VC xP 69 xw [Xa s]<|.bool<|RP s:=by
 refine ZT Z1V follows Z2 c69 rfl ?_;have K:I s.o3<=1000000:=t.len 3;have L:I s.o4<=1000000:=t.len 4;have A:∀o∈s.o3,ZB o.target:=λo z=>(t.ob 3 o z).2;have B:∀o∈s.o4,ZB o.target:=λo z=>(t.ob 4 o z).2;have G:Yb (.agg [.sl<|s.o1.map ZN,.sl<|s.o2.map ZN,.sl<|s.o3.map ZN,.sl<|s.o4.map ZN]) (.int .i64 2) 4 1 xk=J (.agg [.sl<|s.o3.map ZN]):=by simp[Yb]
 have H:Yb (.agg [.sl<|s.o1.map ZN,.sl<|s.o2.map ZN,.sl<|s.o3.map ZN,.sl<|s.o4.map ZN]) (.int .i64 3) 4 1 xk=J (.agg [.sl<|s.o4.map ZN]):=by simp[Yb]
 have F:Yb (.agg [.sl<|s.o1.map ZN,.sl<|s.o2.map ZN,.sl<|s.o3.map ZN,.sl<|s.o4.map ZN]) (.int .i64 0) 4 1 xk=J (.agg [.sl<|s.o1.map ZN]):=by simp[Yb]
 have k:(ZX s)[21]?=J (Yh vi s.pm):=rfl;have y:=(Z6B V.bool).symm;unfold RP;cases D:s.h.aa;simp[Cs,D];simp[Cs,D,y]
 refine Sy (λ(p:Nat×List (Int×Bool))=>[(3,.v<|Yh .bool p.2),(4,.v<|vi ((p.1+3:Nat):Int))])
  (λp=>(p.1=0/\p.2=[])\/(p.1=1/\Wy s.pm s.o3 []=J p.2)\/(p.1=2/\(Wy s.pm s.o3 []).bind (Wy s.pm s.o4)=J p.2)) (Xk 4 5) (0,[]) Z1 Z1 ?_
 rintro⟨i,m⟩ (⟨rfl,rfl⟩|⟨rfl,x⟩|⟨rfl,x⟩);simp[U1,G];refine Sy (λ(p:Nat×List (Int×Bool))=>[(3,.v<|Yh .bool p.2),(6,.v<|vi p.1)]) (λp=>p.1<=I s.o3/\Wy s.pm s.o3 []=Wy s.pm (s.o3.drop p.1) p.2) (Xk 6<|I s.o3) (0,[]) Z1 Z1 ?_;rintro⟨j,r⟩ ⟨w,a⟩;simp only at w a;have d:=ZA ((j:Int)+1) Z0 Z0;by_cases g:j<I s.o3;have f:s.o3[j]?=J s.o3[j]:=Zh8 g;have u:=Zi6 g;have C:=A _<|Zhx g;generalize s.o3[j]=o at*;rw[u,Wy]at a;cases l:o.gone;rw[l]at a;rw[Zhg Z1]at a;simp[Xb,g,f,Yp f,l,d];exact⟨j+1,r,⟨Z0,a⟩,⟨rfl,Z0⟩,ZgZ⟩;rw[l]at a;rw[Zhi rfl]at a;by_cases n:(Y4 s.pm o.target).getD 0=1;cases q:(Y4 r o.target).getD xw;rw[Zhi ⟨n,q⟩]at a;simp[Xb,g,f,Yp f,l,d,k,Ji,Jh,WA,V.bp,n,q,Mb];exact⟨j+1,XV r o.target xk,⟨Z0,a⟩,⟨rfl,Z0⟩,ZgZ⟩;rw[Zhg (by simp[q])]at a;simp[Xb,g,f,Yp f,l,d,k,Ji,Jh,WA,V.bp,n,q,a];rw[Zhg (by simp[n])]at a;simp[Xb,g,f,Yp f,l,d,k,Ji,Jh,WA,V.bp,n,a];have:j=I s.o3:=Z0;subst this;rw[List.drop_length,Wy]at a;simp[ZA];exact⟨1,r,by simp[a],Z1,Zh3⟩;simp[Uo,H];refine Sy (λ(p:Nat×List (Int×Bool))=>[(3,.v<|Yh .bool p.2),(6,.v<|vi p.1)]) (λp=>p.1<=I s.o4/\Wy s.pm s.o4 m=Wy s.pm (s.o4.drop p.1) p.2) (Xk 6<|I s.o4) (0,m) Z1 Z1 ?_;rintro⟨j,r⟩ ⟨w,a⟩;simp only at w a;have d:=ZA ((j:Int)+1) Z0 Z0;by_cases g:j<I s.o4;have f:s.o4[j]?=J s.o4[j]:=Zh8 g;have u:=Zi6 g;have C:=B _<|Zhx g;generalize s.o4[j]=o at*;rw[u,Wy]at a;cases l:o.gone;rw[l]at a;rw[Zhg Z1]at a;simp[Xb,g,f,Yp f,l,d];exact⟨j+1,r,⟨Z0,a⟩,⟨rfl,Z0⟩,ZgZ⟩;rw[l]at a;rw[Zhi rfl]at a;by_cases n:(Y4 s.pm o.target).getD 0=1;cases q:(Y4 r o.target).getD xw;rw[Zhi ⟨n,q⟩]at a;simp[Xb,g,f,Yp f,l,d,k,Ji,Jh,WA,V.bp,n,q,Mb];exact⟨j+1,XV r o.target xk,⟨Z0,a⟩,⟨rfl,Z0⟩,ZgZ⟩;rw[Zhg (by simp[q])]at a;simp[Xb,g,f,Yp f,l,d,k,Ji,Jh,WA,V.bp,n,q,x,a];rw[Zhg (by simp[n])]at a;simp[Xb,g,f,Yp f,l,d,k,Ji,Jh,WA,V.bp,n,x,a];have:j=I s.o4:=Z0;subst this;rw[List.drop_length,Wy]at a;simp[ZA];exact⟨2,r,Zgc,Z1,Zh3⟩;simp[Ru,U1,F];grind
end Vm
namespace Vm
open Go Go.Proofs
def RF:Prop:=∀a:List Int,I a<=1000000->(∀w∈a,ZB w)->VC xP 85 xk [.sl<|a.map vu] (.aq [.sl<|(ZQ a [] xw).1.map ZN,vi (ZQ a [] xw).2])
def RG:Prop:=∀(d:List Int) (a:List<|Int×Int),I d<=1000000->I a<=1000000->(∀w∈d,ZB w)->(∀x∈a,YE x.1 x.2=xk)->
 VC xP 87 xk [.sl<|d.map vu,.sl<|a.map Wb] (.aq [.sl<|(ZQ d a xk).1.map ZN,vi (ZQ d a xk).2])
def Xv(s:Ck)(k:Int):List Ob×Int:=if k<=2 then ZQ (Zx s.h k) [] xw else ZQ (Zx s.h k) (U0 s.lm<|Zx s.h k) xk
def V0:List Int->Ck->Bool×Ck
 | [],s=>(xk,s)
 |k::l,s=>if(Xv s k).2=0 then V0 l (XT s k (Xv s k).1)else(xw,s)
def Wc(s:Ck):Bool×Ck:=V0 [1,2,3,4] s
def Qi s k l:(XT s k l).h=s.h:=Z8C s k l
def Z8z{α l k x}{y:Int×α}(h:y∈XV l k x):y=(k,x)\/y∈l:=by
 grind [XV]
def Jq{h k}:∀ {l} {m:List (Int×(Int×Int))},(∀o∈l,YE o.size o.M=xk)->(∀x∈m,YE x.2.1 x.2.2=xk)->∀x∈XG h k m l,YE x.2.1 x.2.2=xk
 | [],m,_,a=>a
 |o::l,m,f,a=>by
  rw[XG];refine Jq Zgd ?_;split;intro x d;obtain rfl|d:=Z8z d;simp_all;grind;exact a
def zl{s}(a:s.h.ok){k}:(∀o∈(Xv s k).1,QJ (I<|Zx s.h k) o/\ZB o.target)/\(Xv s k).1.length<=I (Zx s.h k):=by
 unfold Xv;split;exact⟨JY (Xf a k).1,JZ⟩;exact⟨JY (Xf a k).1,JZ⟩
def Dw{lm ws}:∀ {f i} {a:List (Int×Int)},I a<=i->I a<=I ws->I (WN lm ws f i a)<=I ws
 |0,i,a,_,h=>h
 |f+1,i,a,j,h=>by
  rw[WN];cases g:ws[i]? with
  |none=>exact h
  |some w=>
   have d:=(Zh9.1 g).1;simp only;split;split;exact h;exact Dw Zge Zge;split;exact Dw Z0 h;exact h
def Pz{lm ws}:I (U0 lm ws)<=I ws:=Dw Z1 Z1
def jz{lm ws}(d:∀x∈lm,YE x.2.1 x.2.2=xk):∀ {f i} {a:List (Int×Int)},(∀x∈a,YE x.1 x.2=xk)->∀x∈WN lm ws f i a,YE x.1 x.2=xk
 |0,i,a,h=>h
 |f+1,i,a,h=>by
  rw[WN];cases g:ws[i]? with
  |none=>exact h
  |some w=>
   simp only;split;split;exact h;rename_i k j;refine jz d ?_;intro x g;obtain g|g:=ZhC.1 g;grind;simp at g;subst g;exact d _<|H9 j;split;exact jz d h;exact h
def jP:IntKind.i64.wrap 4=4:=Zgm
def Zbp(F:RF)(B:RG){s:Ck}(G:s.h.ok)(D:∀x∈s.lm,YE x.2.1 x.2.2=xk):Vo xP 68 [.mem zV] [.agg<|ZX s]<|.aq [.bool (Wc s).1,.agg<|ZX (Wc s).2]:=by
 refine JV Z1U follows Z2 c68 Z2 ?_;simp[NF];refine Sy (λ(p:Nat×Ck)=>[(0,.m<|ZX p.2),(3,.v<|vi p.1)]) (λp=>p.1<=4/\p.2.h=s.h/\(∀x∈p.2.lm,YE x.2.1 x.2.2=xk)/\Wc s=V0 ([1,2,3,4].drop p.1) p.2) (Xk 3 4) (0,s) Z1 ⟨Z1,rfl,D,rfl⟩ ?_;rintro⟨i,q⟩ ⟨H,A,n,f⟩;simp only at H A n f;have d:q.h.ok:=A▸G;have C:i=0\/i=1\/i=2\/i=3\/i=4:=Z0;have j:=λk K=>Z0k (s:=q) (k:=k) K;have w:=λk=>Zab (s:=q) n (Xf d k).2 (Xf d k).1;obtain rfl|rfl|rfl|rfl|rfl:=C;replace j:=j 1 Z0;have st:=zl d (k:=1);have t:=qp (s:=q) d (k:=1) Z0 (l:=(Xv q 1).1)<|ZhD st.2 (Xf d 1).2;have k1:=F _ (Xf d 1).2 (Xf d 1).1;have g:=Jq (h:=q.h) (k:=1) (l:=(Xv q 1).1) (m:=q.lm) (λo y=>(st.1 o y).1.2) n;replace f:Wc s=V0 (1:: [2,3,4]) q:=f;rw[V0]at f;have r:Xv q 1=ZQ (Zx q.h 1) [] xw:=rfl;rw[<-r]at k1;generalize Xv q 1=z at*;obtain⟨l,e⟩:=z;simp only at k1 t f g st;unfold Xa ZX at j;unfold ZX at t;simp[ZX,Tk,U1,Uo,jP];refine Zz j Z1 ?_;simp;refine Zz k1 Z1 ?_;simp;by_cases u:e=0;rw[Zhi u]at f;simp[u];refine U4 t ?_;simp[ZA];exact⟨1,XT q 1 l,⟨Z0,by rw[Qi,A],λa b c h=>g (a,b,c) h,f⟩,⟨Z1,rfl⟩,Zh3⟩;simp_all;replace j:=j 2 Z0;have st:=zl d (k:=2);have t:=qp (s:=q) d (k:=2) Z0 (l:=(Xv q 2).1)<|ZhD st.2 (Xf d 2).2;have k1:=F _ (Xf d 2).2 (Xf d 2).1;have g:=Jq (h:=q.h) (k:=2) (l:=(Xv q 2).1) (m:=q.lm) (λo y=>(st.1 o y).1.2) n;replace f:Wc s=V0 (2:: [3,4]) q:=f;rw[V0]at f;have r:Xv q 2=ZQ (Zx q.h 2) [] xw:=rfl;rw[<-r]at k1;generalize Xv q 2=z at*;obtain⟨l,e⟩:=z;simp only at k1 t f g st;unfold Xa ZX at j;unfold ZX at t;simp[ZX,Tk,U1,Uo,jP];refine Zz j Z1 ?_;simp;refine Zz k1 Z1 ?_;simp;by_cases u:e=0;rw[Zhi u]at f;simp[u];refine U4 t ?_;simp[ZA];exact⟨2,XT q 2 l,⟨Z0,by rw[Qi,A],λa b c h=>g (a,b,c) h,f⟩,⟨Z1,rfl⟩,Zh3⟩;simp_all;replace j:=j 3 Z0;have st:=zl d (k:=3);have t:=qp (s:=q) d (k:=3) Z0 (l:=(Xv q 3).1)<|ZhD st.2 (Xf d 3).2;have k1:=B _ (U0 q.lm<|Zx q.h 3) (Xf d 3).2 (ZhD Pz (Xf d 3).2) (Xf d 3).1<|jz n Z1;replace w:=w 3;have g:=Jq (h:=q.h) (k:=3) (l:=(Xv q 3).1) (m:=q.lm) (λo y=>(st.1 o y).1.2) n;replace f:Wc s=V0 (3:: [4]) q:=f;rw[V0]at f;have r:Xv q 3=ZQ (Zx q.h 3) (U0 q.lm<|Zx q.h 3) xk:=rfl;rw[<-r]at k1;generalize Xv q 3=z at*;obtain⟨l,e⟩:=z;simp only at k1 t f g st;unfold Xa ZX at j w;unfold ZX at t;simp[ZX,Tk,U1,Uo,jP];refine Zz j Z1 ?_;simp;refine Zz j Z1 ?_;simp;refine Zz w Z1 ?_;simp;refine Zz k1 Z1 ?_;simp;by_cases u:e=0;rw[Zhi u]at f;simp[u];refine U4 t ?_;simp[ZA];exact⟨3,XT q 3 l,⟨Z0,by rw[Qi,A],λa b c h=>g (a,b,c) h,f⟩,⟨Z1,rfl⟩,Zh3⟩;simp_all;replace j:=j 4 Z0;have st:=zl d (k:=4);have t:=qp (s:=q) d (k:=4) Z0 (l:=(Xv q 4).1)<|ZhD st.2 (Xf d 4).2;have k1:=B _ (U0 q.lm<|Zx q.h 4) (Xf d 4).2 (ZhD Pz (Xf d 4).2) (Xf d 4).1<|jz n Z1;replace w:=w 4;have g:=Jq (h:=q.h) (k:=4) (l:=(Xv q 4).1) (m:=q.lm) (λo y=>(st.1 o y).1.2) n;replace f:Wc s=V0 (4:: []) q:=f;rw[V0]at f;have r:Xv q 4=ZQ (Zx q.h 4) (U0 q.lm<|Zx q.h 4) xk:=rfl;rw[<-r]at k1;generalize Xv q 4=z at*;obtain⟨l,e⟩:=z;simp only at k1 t f g st;unfold Xa ZX at j w;unfold ZX at t;simp[ZX,Tk,U1,Uo,jP];refine Zz j Z1 ?_;simp;refine Zz j Z1 ?_;simp;refine Zz w Z1 ?_;simp;refine Zz k1 Z1 ?_;simp;by_cases u:e=0;rw[Zhi u]at f;simp[u];refine U4 t ?_;simp[ZA];exact⟨4,XT q 4 l,⟨Z0,by rw[Qi,A],λa b c h=>g (a,b,c) h,f⟩,⟨Z1,rfl⟩,Zh3⟩;simp_all;replace f:Wc s=(xk,q):=f;simp[f,ZX]
end Vm
namespace Vm
open Go Go.Proofs
def Zbf{P f ks cs r}(hv:VC P f xw [.ptr cs] r)(G:r.bp=xk)(l:I cs=I ks)(u:cs.all V.one=xk)(D:ks.all (λk=> !(k==.gh))=xk):
  Vo P f [.mem ks] [.agg cs] (.aq [r,.agg cs]):=by
 let⟨Q,R⟩:=hv;refine⟨Q,λB w h vs a S=> ?_⟩;let⟨a3,a2,C⟩:=S;let⟨tk,j,z⟩:=C 0 _ _ rfl rfl;simp only[Ws]at j;rw[Zhi l]at j;simp at j;subst j;let⟨b,O,T,q,M,hh,o⟩:=z;have n:∀(ks:List CK) cs,I cs=I ks->YG [] (((ks.zip cs).map λy=>(y.1,E.c y.2)).map (·.2))=J cs:=by
  intro ks;induction ks with
  |nil=>simp
  |cons k ks ih=>
   intro cs hl;obtain _|⟨c,cs⟩:=cs;simp at hl;simp_all
 have hz:eval [] (.pt U (((ks.zip cs).map λy=>(y.1,E.c y.2)).map (·.2)))=J (.ptr cs):=by
  simp only[eval,n ks cs l,Zhk,LE,u,Zi9]
 have Y:Ww ((ks.zip cs).map λy=>(y.1,E.c y.2))=xw:=by
  rw[Ww,Zke];intro x N;obtain⟨y,A,rfl⟩:=Zhq.1 N;have:=Zhn.1 D y.1 (List.of_mem_zip A).1;simpa using this
 have a1:=L7 (G':=λb=>h.F b\/∃t i,h.bl t i=J b) q hh o Y hz (λb d=>.inl d) λi b d=>.inr ⟨0,i,d⟩;refine ZjU (R w (λb=>h.F b\/∃t i,h.bl t i=J b) vs (λb d=> ?_) Z0 λi x N=> ?_) λe w' Z=> ?_;obtain d|⟨t,i,d⟩:=d;exact a.bz b d;exact(a.aw t i b d).2.1;grind;obtain⟨v,rfl,g,L⟩:=Z;have p:=g.size;have X:=λb d=>g.block b<|a.bz b d;have W:=λt i b d=>g.block b (a.aw t i b d).2.1;have K:O.size=I cs:=by
  have:=o.1;simp at this;omega
 refine⟨v,r,[.agg cs],h,rfl,g.mono a.base,λb d=>g.block b<|a.cx b d,⟨ZhD a.base p,λb d=>Zhj (a.bz b d) p,a.cz,a.fj,λt i b d=> ?_,a.inj,λb d=>Zhj (a.cx b d) p,a.cp,a.fk⟩,rfl,L.gn G,⟨rfl,λi k y H a0 A=> ?_⟩,rfl⟩;let⟨q1,q2,q3⟩:=a.aw t i b d;grind;cases i with
 |zero=>
  simp at H A;subst H;subst A;refine⟨.mem _,by rw[Ws,Zhi l],b,O,T,q,M,?_,o.keep X Z1 Z1 λi b d=>W 0 _ b d⟩;grind
 |succ i=>simp at H
end Vm
namespace Vm
open Go Go.Proofs
def Tg:List FuncId:=[66,67,68,69,70,71,72,73]
def AW(f:FuncId):V:=.agg [.fn f]
def Z9x:VC xP 50 xw []<|.sl<|Tg.map AW:=by
 refine ZT Z1F follows Z2 c50 rfl ?_;simp[Nx,Tg,AW]
def Sl(f:FuncId)(s:Ck):Bool×Ck:=
 if f=66 then(SJ s,s)else if f=67 then(Qt s,s)else if f=68 then Wc s
 else if f=69 then(RP s,s)else if f=70 then(Qy s,s)else if f=71 then(QB s,s)else if f=72 then(Q9 s,s)else(Qw s,s)
structure Ck.okk (s:Ck):Prop where
 ok:s.ok
 lm:∀x∈s.lm,YE x.2.1 x.2.2=xk
def Ck.mj(s:Ck)k l(a:1<=k/\k<=4)j:(s.put k l).dw j=if j=k\/(k=4/\¬(j=1\/j=2\/j=3))then l else s.dw j:=by
 have:k=1\/k=2\/k=3\/k=4:=Z0;obtain rfl|rfl|rfl|rfl:=this<;>simp[Ck.put,Ck.dw]<;>(split<;>simp_all)<;>(grind)<;>(grind)
def Z70{s}(d:s.okk){k}(g:1<=k/\k<=4):(XT s k (Xv s k).1).okk:=by
 have st:=zl d.ok.h (k:=k);have l:=(Xf d.ok.h k).2;have a:∀j,(XT s k (Xv s k).1).dw j=((s.put k (Xv s k).1).dw j):=λj=>rfl;refine⟨⟨by rw[Qi];exact d.ok.h,λj o f=> ?_,λj=> ?_⟩,Jq (λo f=>(st.1 o f).1.2) d.lm⟩;rw[Qi];rw[a,Ck.mj _ _ _ g]at f;split at f;rename_i h;have:Zx s.h j=Zx s.h k:=by
  obtain rfl|⟨rfl,h⟩:=h;rfl;simp_all[Zlx,Zx]
 simp_all;exact d.ok.ob j o f;rw[a,Ck.mj _ _ _ g];split;omega;exact d.ok.len j
def Z0e:∀ {l} {s:Ck},(∀k∈l,1<=k/\k<=4)->s.okk->(V0 l s).2.okk/\(V0 l s).2.h=s.h
 | [],s,_,a=>⟨a,rfl⟩
 |k::l,s,d,a=>by
  rw[V0];split;simp_all[Z0e,Z70,Qi];simp_all
def Zbn{s}(a:s.okk):(Wc s).2.okk/\(Wc s).2.h=s.h:=Z0e Z1 a
def P4{s}(a:s.okk){f}:(Sl f s).2.okk/\(Sl f s).2.h=s.h:=by
 unfold Sl;repeat' split
 all_goals first|exact⟨a,rfl⟩|exact Zbn a
def Z9w(j:RF)(d:RG){s}(a:s.okk){f}(g:f∈Tg):Vo xP f [.mem zV] [.agg<|ZX s]<|.aq [.bool (Sl f s).1,.agg<|ZX (Sl f s).2]:=by
 have go:∀ {f b},VC xP f xw [Xa s] _->Vo xP f [.mem zV] [.agg _] (.aq [.bool b,.agg _]):=λh=>Zbf h rfl rfl rfl rfl;simp[Tg,Zk9]at g;obtain rfl|rfl|rfl|rfl|rfl|rfl|rfl|rfl:=g;exact go<|Z2W a.ok.h;exact go Z9m;exact Zbp j d a.ok.h a.lm;exact go<|Z3q a.ok;exact go<|Zaa a.ok;exact go<|Zb9 a.ok;exact go<|Z5S a.ok;exact go<|Z9s a.ok
def Qc:List FuncId->Ck->Option Ck
 | [],s=>J s
 |f::l,s=>if(Sl f s).1=xk then Qc l (Sl f s).2 else U
def XE(h:Hp):Ck:= {h:=h,o1:=[],o2:=[],o3:=[],o4:=[],pm:=[],lm:=[]}
def Vx(h:Hp):Option Ck:=Qc Tg<|XE h
def Ih{h}(a:h.ok):(XE h).okk:=by
 have f:∀k,(XE h).dw k=[]:=λk=>by simp[XE,Ck.dw]
 refine⟨⟨a,λk o g=> ?_,λk=> ?_⟩,λx d=>(by simp[XE]at d)⟩;simp_all;simp_all
def BJ(w:RF)(k:RG){h:Hp}(y:h.ok):VC xP 30 xw [ZM h]<|.aq [match Vx h with|some s=>Xa s|none=>.mh 0,.bool (Vx h).isSome]:=by
 refine ZT Z1o follows Z2 c30 rfl ?_;have k1:=EB (h:=h);have B:=Z9x;have a:I Tg=8:=rfl;unfold ZM at k1;simp[Nn];refine Zz k1 Z1 ?_;simp[YP,Zv];refine Zz B Z1 ?_;simp;refine Sy (λ(p:Nat×Ck)=>[(5,.m<|ZX p.2),(6,.v<|vi p.1)]) (λp=>p.1<=8/\p.2.okk/\Vx h=Qc (Tg.drop p.1) p.2) (Xk 6 8) (0,XE h) Zh2 ⟨Z1,Ih y,rfl⟩ ?_;rintro⟨i,q⟩ ⟨z,n,g⟩;simp only at z n g;have o:=ZA ((i:Int)+1) Z0 Z0;by_cases d:i<I Tg;have t:Tg[i]?=J Tg[i]:=Zh8 d;have x:=Zi6 d;have A:=Zhx d;generalize Tg[i]=f at*;rw[x,Qc]at g;have u:=Z9w w k n A;have l:=(P4 n (f:=f)).1;rw[a]at d;have j:(i:Int)<8:=Z0;simp[Xb,d,j,t,Yp t,a,AW,ZX];unfold ZX at u;refine U4 u ?_;cases r:(Sl f q).1;rw[Zhg (by simp[r])]at g;simp[g];rw[Zhi r]at g;simp[o];exact⟨i+1,(Sl f q).2,⟨Z0,l,g⟩,⟨Z1,Z0⟩,ZgZ⟩;have:i=8:=Z0;subst this;replace g:Vx h=J q:=g;simp[a,g,ZX,Xa]
def II:∀ {l} {s q:Ck},s.okk->Qc l s=J q->q.okk/\q.h=s.h
 | [],s,q,a,h=>by simp[Qc]at h;subst h;exact⟨a,rfl⟩
 |f::l,s,q,a,h=>by
  rw[Qc]at h;split at h;have d:=P4 a (f:=f);have g:=II d.1 h;exact⟨g.1,Zgd⟩;cases h
def Z60{h}(a:h.ok){q}(d:Vx h=J q):q.okk/\q.h=h:=II (Ih a) d
def Z0z(d:RF)(a:RG){h:Hp}(f:h.ok):VC xP 10 xw [ZM h]<|.bool (Vx h).isSome:=by
 refine ZT ES follows Z2 c10 rfl ?_;simp[N3];refine Zz (BJ d a f) Z1 ?_;simp
def Lp(h:Hp)(k:Int):List Ob×Int:=match Vx h with
 |some s=>if 1<=k/\k<=4 then(s.dw k,0)else([],1)
 |none=>([],1)
def Z0y(l:RF)(f:RG){h:Hp}(n:h.ok){k:Int}:VC xP 21 xw [ZM h,vi k]<|.aq [.sl<|(Lp h k).1.map ZN,vi (Lp h k).2]:=by
 refine ZT EY follows Z2 c21 rfl ?_;simp[Nh];refine Zz (BJ l f n) Z1 ?_;unfold Lp;cases o:Vx h with
 |none=>simp
 |some s=>
  by_cases g:1<=k;by_cases j:k<=4;have:k=1\/k=2\/k=3\/k=4:=Z0;obtain rfl|rfl|rfl|rfl:=this<;>simp[Yb,Ru,Tk,U1,Uo,Ck.dw];have a:¬k<1:=Z0;have d:4<k:=Z0;simp[g,j,a,d];have a:k<1:=Z0;simp[g,a]
def jQ(h:Hp):Nat:=match Vx h with
 |some s=>Sv s
 |none=>0
def Z0C(f:RF)(a:RG){h:Hp}(d:h.ok):VC xP 27 xw [ZM h]<|vi<|jQ h:=by
 refine ZT Z1m follows Z2 c27 rfl ?_;simp[Nk];refine Zz (BJ f a d) Z1 ?_;unfold jQ;cases g:Vx h with
 |none=>simp
 |some s=>
  simp;refine Zz (Z08 (Z60 d g).1.ok) Z1 ?_;simp
end Vm
end
section
namespace Vm
open Go Go.Proofs
structure Stands (ws:List Int) (old:Bool) (o:Ob):Prop where
 kx:0<=o.Y
 shape:YE o.size o.M=xk
 an:o.Y+1+o.size<=I ws
 gm:XP ((ws.drop<|o.Y.toNat+1).take o.size.toNat) o.gone o.M 0=xk
 word:∃w,ws[o.Y.toNat]?=J w/\(if o.gone then old=xk/\(adr w).2=0/\o.target=(adr w).1 else(old=xk->¬(adr w).2=0)/\ZS w=(o.size,o.M,0)/\o.target=0)
def Tiles(ws:List Int)(old:Bool):Nat->List Ob->Prop
 |a,[]=>I ws<=a
 |a,o::l=>o.Y=a/\Stands ws old o/\Tiles ws old (a+1+o.size.toNat) l
def Z74{ws shs old a g t w o}(k:ws[a]?=J w)(f:Wl shs old a g w=J (o,t))(h:¬(I ws:Int)<a+1+o.size)
  (j:¬XP ((ws.drop<|a+1).take o.size.toNat) o.gone o.M 0=xw):o.Y=a/\Stands ws old o:=by
 have d:=qu f;refine⟨d.2,?_,d.1,?_,?_,w,?_,?_⟩;omega;omega;simp_all;simp_all;unfold Wl at f;grind
def Z0c{ws shs old}:∀f a j d l,Xu ws shs old f a j d=(l,0)->∃r,l=d++r/\Tiles ws old a r
 |0,_,_,_,_,h=>by simp[Xu]at h
 |f+1,a,j,d,l,h=>by
  unfold Xu at h;split at h;rename_i p;split at h;grind;simp[and_true]at h;subst h;exact⟨[],Z1,ZiY.1 p⟩;rename_i w x;split at h;grind;rename_i o t q;split at h;grind;rename_i k;split at h;grind;rename_i n;obtain⟨r,rfl,u⟩:=Z0c f _ _ _ _ h;have g:=Z74 x q k n;exact⟨o::r,Z1,g.1,g.2,u⟩
def Sw{ws shs old l}(h:ZQ ws shs old=(l,0)):Tiles ws old 0 l:=by
 let⟨r,a,d⟩:=Z0c _ _ _ _ _ h;simp_all
def Tiles.bd{ws old}:∀ {a} {l:List Ob},Tiles ws old a l->∀o∈l,Stands ws old o/\a<=o.Y
 |_,[],_,_,h=>ZgN
 |a,o::l,h,x,d=>by
  obtain rfl|d:=Zhs.1 d;exact⟨h.2.1,by rw[h.1];omega⟩;have:=Tiles.bd h.2.2 x d;grind
def Tiles.apart{ws old}:∀ {a} {l:List Ob},Tiles ws old a l->∀o∈l,∀q∈l,o=q\/o.Y+1+o.size<=q.Y\/q.Y+1+q.size<=o.Y
 |_,[],_,_,h,_,_=>ZgN
 |a,x::l,h,o,f,q,d=>by
  have e:=h.1;obtain rfl|f:=Zhs.1 f;obtain rfl|d:=Zhs.1 d;simp;have:=(Tiles.bd h.2.2 q d).2;omega;obtain d|d:=Zhs.1 d;have:=(Tiles.bd h.2.2 o f).2;grind;exact Tiles.apart h.2.2 o f q d
structure RightH (h:Hp) (p:Pts):Prop where
 ei:Xo h=J p
 num:TC h=xk
 ok:Sk h p=xk
 H:Tiles h.H xw 0 p.H
 ae:Tiles h.ae xw 0 p.ae
 ah:Tiles h.ah xk 0 p.ah
 aj:Tiles h.aj xk 0 p.aj
def Z9n{h}(k:YQ h=xk):∃p,RightH h p:=by
 let⟨p,a,g,j⟩:=Z9p k;refine⟨p,a,j,g,?_,?_,?_,?_⟩;all_goals
  unfold Xo at a;dsimp only at a;split at a;cases a;split at a;cases a;rename_i c2;cases a;have c3:(ZQ h.H [] xw).2=0/\(ZQ h.ae [] xw).2=0:=by
   refine⟨Z0,Z0⟩
  have c4:∀x:Int,¬x≠0->x=0:=Z0;have f:=c4 _ (λd=>c2<|.inr<|.inr<|.inr d);first|exact Sw (ZjP rfl c3.1)|exact Sw (ZjP rfl c3.2)|exact Sw (ZjP rfl<|c4 _ (λd=>c2<|.inr<|.inr<|.inl d))|exact Sw<|ZjP rfl f
def RightH.am{h p}(r:RightH h p){k}(a:1<=k/\k<=4):Tiles (Zx h k) (decide (2<k)) 0<|p.at k:=by
 have:k=1\/k=2\/k=3\/k=4:=Z0;obtain rfl|rfl|rfl|rfl:=this;exact r.H;exact r.ae;exact r.ah;exact r.aj
def RightH.be{h p}(r:RightH h p):ZD (Zv h)=xk:=by
 have:=r.num;simp_all[TC,Zhb]
def ZO(l:Ly)(k a:Int):Int:=2*(ZC l k+a)+1
theorem V9{l}(d:ZD l=xk){k a}(f:0<=a):adr (ZO l k a)=(ZC l k+a,0):=by
 have:=WK d k;unfold adr ZO;grind
theorem SD{l}(g:ZD l=xk){k a}(f:1<=k/\k<=4)(d:0<=a/\a<Y5 l k):ZU l k a=(ZC l k+a,0):=by
 simp_all[ZU,Zhg]
theorem RT{l}(g:ZD l=xk){k a}(j:1<=k/\k<=4)(d:0<=a/\a<Y5 l k):ZZ l (ZC l k+a)=(k,a,0):=by
 have h:=WG.1 g;have n:=jN g;unfold ZZ X7;have f:k=1\/k=2\/k=3\/k=4:=Z0;obtain rfl|rfl|rfl|rfl:=f;grind;simp[ZC,Y5]at d⊢;grind;simp[ZC,Y5]at d⊢;grind;simp[ZC,Y5]at d⊢;grind
end Vm
namespace Vm
open Go Go.Proofs
def yr{g}(a:ZD (Zv g)=xk):fwd g 0=(0,g,0):=by simp[fwd,a]
def LP{l}(f:ZD l=xk){k a}(d:0<=a):¬ZO l k a=0:=by
 grind [ZO]
def fwd_here{g}(h:ZD (Zv g)=xk){k a:Int}(f:1<=k/\k<=2)(d:0<=a/\a< I (Zx g k)):fwd g (ZO (Zv g) k a)=(ZO (Zv g) k a,g,0):=by
 grind [V9,RT,Ti,fwd]
def fwd_gone{g}(d:ZD (Zv g)=xk){k}{a:Nat}(p:3<=k/\k<=4){u}(o:(Zx g k)[a]?=J u)(f:(adr u).2=0):fwd g (ZO (Zv g) k a)=(u,g,0):=by
 have q:a< I (Zx g k):=Zgc;have h:=LP d (k:=k) (a:=a) Z0;have j:=V9 d (k:=k) (a:=a) Z0;have l:=RT d (k:=k) (a:=a) Z0 (by rw[Ti Z0];omega);have n:(Zx g k).getD a 0=u:=by simp[o]
 unfold fwd;simp[-List.getD_eq_getElem?_getD,d,h,j,l,show ¬k<3 by omega,n,f]
def Yf(g:Hp)(k:Int)(a n:Nat):Hp:=YB (Xy g k a n) k<|(zr (Zx g k) a n).set a<|ZO (Zv g) 1<|I g.H
def Jl{g k a n}(d:a+n<=I (Zx g k)):Zv (Xy g k a n)= {Zv g with H:=(I g.H+n:Nat)}:=by
 simp_all[Zv,Xy,Ly.mk.injEq,true_and,and_true]
theorem M8{g}(f:ZD (Zv g)=xk){k a n}(d:a+n<=I (Zx g k))(j:n<=Xt (Zv g)):ZD (Zv<|Xy g k a n)=xk:=by
 rw[Jl d];have e:Xt (Zv g)=(Zv g).cap- (Zv g).H- (Zv g).ae:=by unfold Xt;rw[f];rfl
 have h:(Zv g).H=I g.H:=rfl;grind [WG]
def La{g k}(f:3<=k/\k<=4){a n}(d:a+n<=I (Zx g k)):Zv (Yf g k a n)= {Zv g with H:=(I g.H+n:Nat)}:=by
 rw[<-Jl d];apply zp;rw[Zjt,zw];have:k=3\/k=4:=Z0;obtain rfl|rfl:=this<;>rfl
def M5{g}(j:ZD (Zv g)=xk){k}(f:3<=k/\k<=4){a n}(d:a+n<=I (Zx g k))(h:n<=Xt (Zv g)):ZD (Zv<|Yf g k a n)=xk:=by
 rw[La f d,<-Jl d];grind [M8]
def Qr{g k}(d:3<=k/\k<=4){a n}(f:a+n<=I (Zx g k))j b:ZO (Zv<|Yf g k a n) j b=ZO (Zv g) j b:=by
 rw[La d f];rfl
def fwd_wait{g}(h:ZD (Zv g)=xk){k a}(C:3<=k/\k<=4){u}(B:(Zx g k)[a]?=J u)(q:¬(adr u).2=0){n:Nat}{pt}(p:ZS u=((n:Int),pt,0))
  (j:a+(n+1)<=I (Zx g k)) (A:((n+1:Nat):Int)<=Xt (Zv g)):fwd g (ZO (Zv g) k a)=(ZO (Zv g) 1<|I g.H,Yf g k a<|n+1,0):=by
 have r:=LP h (k:=k) (a:=a) Z0;have t:=V9 h (k:=k) (a:=a) Z0;have w:=RT h (k:=k) (a:=a) Z0 (by grind [Ti]);have x:(Zx g k).getD a 0=u:=by simp[List.getD,B]
 have f:=M8 h j A;have y:ZU (Zv<|Xy g k a<|n+1) 1 (I g.H)=(ZC (Zv g) 1+I g.H,0):=by
  have:=SD f (k:=1) (a:=(I g.H:Int)) Z0 (by rw[Jl j];simp[Y5,Zi9];omega);rw[this,Jl j];rfl
 have d:=WK f 1;rw[Jl j]at d;simp only[Y5,Zi9]at d;have l:ZC {Zv g with H:=(I g.H+(n+1):Nat)} 1=ZC (Zv g) 1:=rfl;rw[l]at d;have z:Xz (ZC (Zv g) 1+I g.H)=(ZO (Zv g) 1<|I g.H,0):=by
  unfold Xz ZO;rw[Zhg Z0]
 unfold fwd;have o:¬k<3:=Z0;simp only[h,r,t,w,Zhg o,ZkF,Zif,Zls,ZkU,Zhm,x,q,p];unfold SW;rw[Zhg Z0,Zhg Z0];simp[y,z];rfl
theorem Eo{ws a}:∀n j,j<a\/a+n<=j->(zr ws a n)[j]?=ws[j]?
 |0,_,_=>rfl
 |n+1,j,h=>by
  unfold zr;rw[Zin Z0];exact Eo n j Z0
def Lb{g k}(o:3<=k/\k<=4){a n}(p:0<n){j}(l:3<=j/\j<=4){b}(h:j≠k\/b<a\/a+n<=b):(Zx (Yf g k a n) j)[b]?=(Zx g j)[b]? :=by
 have f:k=3\/k=4:=Z0;have d:j=3\/j=4:=Z0;obtain rfl|rfl:=f<;>obtain rfl|rfl:=d<;>simp[Yf,Xy,JA]
 grind [Eo];grind [Eo]
def BX{g k}(l:3<=k/\k<=4){a n j}(h:3<=j/\j<=4):I (Zx (Yf g k a n) j)=I (Zx g j):=by
 have f:k=3\/k=4:=Z0;have d:j=3\/j=4:=Z0;obtain rfl|rfl:=f<;>obtain rfl|rfl:=d<;>simp[Yf,Xy]
def M4{g k}(h:3<=k/\k<=4){a n}(f:a+n<=I (Zx g k))(j:0<n):(Zx (Yf g k a n) k)[a]?=J (ZO (Zv g) 1<|I g.H):=by
 have d:k=3\/k=4:=Z0;obtain rfl|rfl:=d<;>simp[JA]at f<;>simp[Yf,JA]<;>exact ZiG (by rw[zw];omega)
def M3{g k}(h:3<=k/\k<=4){a n}(f:a+n<=I (Zx g k)):(Yf g k a n).H.length=I g.H+n/\(Yf g k a n).ae=g.ae:=by
 have d:k=3\/k=4:=Z0;obtain rfl|rfl:=d<;>simp[JA]at f<;>simp[Yf,Xy]<;>omega
end Vm
namespace Vm
open Go Go.Proofs
def Dy{h ws low}:∀f i d l,V7 h ws low f i d=J l->∃r,l=d++r
 |0,_,_,_,a=>by simp[V7]at a
 |f+1,i,d,l,a=>by
  unfold V7 at a;split at a;cases a;exact⟨[],Z1⟩;split at a;split at a;cases a;let⟨r,g⟩:=Dy f _ _ _ a;exact⟨_,by rw[g,ZhW]⟩;split at a;exact Dy f _ _ _ a;cases a
def jB{h ws low}:∀f i d k,V7 h ws low f i d=J k->∀p g l,Xu ws k xk p i (I d) g=(l,0)->
  ∃r,l=g++r/\∀o∈r,o.gone=xk->∃q,YF h 1 low o.target=J q/\q.size=o.size/\q.M=o.M
 |0,_,_,_,j=>by simp[V7]at j
 |f+1,i,d,k,j=>by
  intro p g l a;cases p with
  |zero=>simp[Xu]at a
  |succ p=>
   unfold V7 at j;unfold Xu at a;cases x:ws[i]? with
   |none=>
    simp_all
   |some w=>
    simp[x]at j a;by_cases t:(adr w).2=0;simp[t,Zi9]at j;cases B:YF h 1 low (adr w).1 with
    |none=>simp_all
    |some q=>
     simp[B]at j;let⟨r,C⟩:=Dy _ _ _ _ j;have D:k[I d]?=J (q.size,q.M):=by rw[C];simp
     unfold Wl at a;rw[Zhi ⟨rfl,t⟩]at a;simp[D]at a;by_cases u:YE q.size q.M=xk;rw[Zhi u]at a;simp only at a;split at a;simp at a;split at a;simp at a;have n:I d+1=I (d++[(q.size,q.M)]):=Z1;rw[n]at a;let⟨F,z,A⟩:=jB f _ _ _ j _ _ _ a;grind;simp_all
    simp[t,Zif]at j;by_cases y:(ZS w).2.2=0;simp[y,Zi9]at j;unfold Wl at a;rw[Zhg Z0,Zhi y]at a;simp only at a;split at a;simp at a;split at a;simp at a;let⟨F,z,A⟩:=jB f _ _ _ j _ _ _ a;simp_all;simp_all
def RightH.ot{h p}(r:RightH h p){k}(D:3<=k/\k<=4){o}(d:o∈p.at k)(A:o.gone=xk):∃q∈p.H,X3 h 1 q.Y=o.target/\q.size=o.size/\q.M=o.M:=by
 have a:=r.ei;unfold Xo at a;dsimp only at a;split at a;cases a;split at a;cases a
 have f:∀g x,x=VB h g (ZQ h.H [] xw).1->¬x=U->(ZQ g (x.getD []) xk).2=0->o∈(ZQ g (x.getD []) xk).1->
   ∃q∈(ZQ h.H [] xw).1,X3 h 1 q.Y=o.target/\q.size=o.size/\q.M=o.M:=by
  intro g x C F n d;obtain _|j:=x;simp_all;simp[ZhE]at n d;let⟨H,l,t⟩:=jB _ _ _ _ C.symm _ [] (ZQ g j xk).1<|ZjP rfl n;simp[Zi8]at l;rw[l]at d;let⟨q,B,G⟩:=t o d A;have:=Zky B;grind [FL]
 have u:¬VB h h.ah (ZQ h.H [] xw).1=U:=Zgd;have w:¬VB h h.aj (ZQ h.H [] xw).1=U:=Zgd;have y:(ZQ h.ah ((VB h h.ah (ZQ h.H [] xw).1).getD []) xk).2=0:=Z0;have z:(ZQ h.aj ((VB h h.aj (ZQ h.H [] xw).1).getD []) xk).2=0:=Z0;cases a;have:k=3\/k=4:=Z0;obtain rfl|rfl:=this;exact f _ _ rfl u y Zgp;exact f _ _ rfl w z Zgp
def Z0q{l o}(h:o∈l):WH o<=Yx l:=by
 unfold Yx;induction l with
 |nil=>simp at h
 |cons x l a=>
  grind
def Zbj{p k}(a:3<=k/\k<=4){o}(h:o∈p.at k):WH o<=X4 p:=by
 have:k=3\/k=4:=Z0;unfold X4;obtain rfl|rfl:=this;have:=Z0q (l:=p.ah) h;omega;have:=Z0q (l:=p.aj) h;omega
def Z96{l}(d:ZD l=xk){k j a b}(o:1<=k/\k<=4)(n:1<=j/\j<=4)(f:0<=a/\a<Y5 l k)(g:0<=b/\b<Y5 l j)(h:ZO l k a=ZO l j b):k=j/\a=b:=by
 have p:=RT d o f;have q:=RT d n g;have:ZC l k+a=ZC l j+b:=by unfold ZO at h;omega
 simp_all
def Ef{u a}(d:(adr u).2=0)(h:(adr u).1=a):u=2*a+1:=by
 unfold adr at d h;grind
def Z2n{u}(h:(ZS u).2.2=0):¬(adr u).2=0:=by
 unfold ZS at h;split at h;rename_i a;unfold adr;grind;grind
end Vm
namespace Vm
open Go Go.Proofs
end Vm
end
section
namespace Vm
open Go Go.Proofs
def Tiles.order{ws old}:∀ {a} {l:List Ob},Tiles ws old a l->l.Pairwise λx y=>x.Y<y.Y
 |_,[],_=>.nil
 |a,o::l,h=>by
  refine .cons (λx d=> ?_)<|Tiles.order h.2.2;have:=(Tiles.bd h.2.2 x d).2;have:=h.1;omega
def DK{h}(f:ZD (Zv h)=xk){k}(d:1<=k/\k<=4){old o}(a:Stands (Zx h k) old o):X3 h k o.Y=ZC (Zv h) k+o.Y:=by
 have:=YN.1 a.shape;have:=a.an;have:=a.kx;grind [X3,SD,Ti]
def ZaJ{h}(f:ZD (Zv h)=xk){k}(d:1<=k/\k<=4){old o}(a:Stands (Zx h k) old o):ZZ (Zv h) (X3 h k o.Y)=(k,o.Y,0):=by
 have:=YN.1 a.shape;have:=a.an;have:=a.kx;rw[DK f d a];grind [RT,Ti]
def Tiles.oj{h}(f:ZD (Zv h)=xk){k}(d:1<=k/\k<=4){old l}(a:Tiles (Zx h k) old 0 l):l.Pairwise λx y=>X3 h k x.Y≠X3 h k y.Y:=by
 refine List.Pairwise.imp_of_mem ?_ a.order;intro x y j n g;rw[DK f d (a.bd x j).1,DK f d (a.bd y n).1];omega
def Mt{h a}:∀ {l} {m:List (Int×(Int×Int))},(l.Pairwise λx y=>X3 h 1 x.Y≠X3 h 1 y.Y)->Y4 (XG h 1 m l) a=match YF h 1 l a with
  |some o=>J (o.size,o.M)
  |none=>Y4 m a
 | [],m,_=>rfl
 |o::l,m,f=>by
  let⟨g,d⟩:=ZkJ.1 f;rw[XG,Mt d];unfold YF;cases j:l.find? (λo=>X3 h 1 o.Y==a)with
  |some q=>
   grind
  |none=>
   simp[J7];grind [X3,Zv]
def C6{h k}(a:¬k=1):∀ {l} {m:List (Int×(Int×Int))},XG h k m l=m
 | [],m=>rfl
 |o::l,m=>by simp_all[XG,C6]
def Lm{h k a}:∀ {l} {m:List (Int×Int)},Y4 (WB h k m l) a=if(YF h k l a).isSome=xk then J k else Y4 m a
 | [],m=>rfl
 |o::l,m=>by
  rw[WB,Lm];unfold YF;rw[J7];by_cases f:X3 h k o.Y=a;have d:(ZU _ k o.Y).1=a:=f;have:(X3 h k o.Y==a)=xk:=Zgs;simp[this,d];have d:¬(ZU _ k o.Y).1=a:=f;have:(X3 h k o.Y==a)=xw:=Zgs;simp[this,d]
def Dx{lm ws}:∀f i a,∃r,WN lm ws f i a=a++r
 |0,_,a=>⟨[],by simp[WN]⟩
 |f+1,i,a=>by
  rw[WN];cases ws[i]? with
  |none=>simp
  |some w=>
   simp only;split;split;simp;obtain⟨r,d⟩:=Dx (lm:=lm) (ws:=ws) f _ _;exact⟨_,by rw[d,ZhW]⟩;split;exact Dx f _ _;simp
def jx{lm h low}(j:∀a,Y4 lm a=(YF h 1 low a).map λo=>(o.size,o.M)){ws}:∀f i g k,V7 h ws low f i g=J k->WN lm ws f i g=k
 |0,_,_,_,d=>by simp[V7]at d
 |f+1,i,g,k,d=>by
  rw[V7]at d;rw[WN];cases q:ws[i]? with
  |none=>rw[q]at d;simpa using d
  |some w=>
   rw[q]at d;simp only at d⊢;by_cases l:(adr w).2=0;rw[Zhi l]at d⊢;rw[j];cases n:YF h 1 low (adr w).1 with
   |none=>rw[n]at d;cases d
   |some o=>rw[n]at d;exact jx j _ _ _ _ d
   rw[Zhg l]at d⊢;by_cases p:(ZS w).2.2=0;rw[Zhi p]at d⊢;exact jx j _ _ _ _ d;rw[Zhg p]at d;cases d
def jy{lm h low}(k:∀a,Y4 lm a=(YF h 1 low a).map λo=>(o.size,o.M)){ws}:∀f i d,0<f->I ws<f+i->V7 h ws low f i d=U->
  ∀l j,(Xu ws (WN lm ws f i d) xk l i (I d) j).2≠0
 |0,_,_,u,_,_=>Z0
 |f+1,i,d,u,D,g=>by
  intro l j;cases l with
  |zero=>simp[Xu]
  |succ l=>
   rw[V7]at g;rw[WN,Xu];cases t:ws[i]? with
   |none=>simp_all
   |some w=>
    have x:=(Zh9.1 t).1;rw[t]at g;simp only at g⊢;by_cases p:(adr w).2=0;rw[Zhi p]at g⊢;rw[k];cases y:YF h 1 low (adr w).1 with
    |none=>
     simp[Option.map_none];have:Wl d xk i (I d) w=U:=by
      unfold Wl;rw[Zhi ⟨rfl,p⟩];simp
     rw[this];simp
    |some o=>
     rw[y]at g;simp[ZhA]at g⊢;let⟨r,z⟩:=Dx (lm:=lm) (ws:=ws) f (i+1+o.size.toNat)<|d++[(o.size,o.M)];have C:=jy k f _ _ Z0 Z0 g l;generalize WN lm ws f _ _=n at*;have A:n[I d]?=J (o.size,o.M):=by rw[z];simp
     unfold Wl;rw[Zhi ⟨rfl,p⟩,A];simp only;by_cases q:YE o.size o.M=xk;rw[Zhi q];simp only;split;simp;split;simp;simp_all;simp_all
    rw[Zhg p]at g⊢;by_cases B:(ZS w).2.2=0;rw[Zhi B]at g⊢;have C:=jy k f _ d Z0 Z0 g l;generalize WN lm ws f _ d=n at*;unfold Wl;grind;simp_all[Wl]
structure Found (h:Hp) (s:Ck) (p:Pts):Prop where
 hp:s.h=h
 o1:s.o1=p.H
 o2:s.o2=p.ae
 o3:s.o3=p.ah
 o4:s.o4=p.aj
 pm:s.pm=WB h 4 (WB h 3 (WB h 2 (WB h 1 [] p.H) p.ae) p.ah) p.aj
def Zbo{h}(C:ZD (Zv h)=xk):match Xo h with
  |some p=>(Wc<|XE h).1=xk/\Found h (Wc<|XE h).2 p
  |none=>(Wc<|XE h).1=xw:=by
 unfold Wc Xo;dsimp only;have D:Xv (XE h) 1=ZQ h.H [] xw:=rfl;rw[V0,D];by_cases z:(ZQ h.H [] xw).2=0;case neg=>simp_all
 rw[Zhi z];have B:Tiles h.H xw 0 (ZQ h.H [] xw).1:=Sw (ws:=h.H) (shs:=[]) Zgc;generalize (ZQ h.H [] xw).1=d at*;have F:Xv (XT (XE h) 1 d) 2=ZQ h.ae [] xw:=rfl;rw[V0,F];by_cases A:(ZQ h.ae [] xw).2=0;case neg=>simp_all
 rw[Zhi A,Zhg Z0];generalize (ZQ h.ae [] xw).1=n at*;have f:∀a,Y4 (XG h 1 [] d) a=(YF h 1 d a).map λo=>(o.size,o.M):=by
  intro a;rw[Mt<|Tiles.oj C (k:=1) Z0 (by simpa using B)];cases YF h 1 d a<;>rfl
 have g:(XT (XT (XE h) 1 d) 2 n).lm=XG h 1 [] d:=C6 Z0;have G:Xv (XT (XT (XE h) 1 d) 2 n) 3=ZQ h.ah (U0 (XG h 1 [] d) h.ah) xk:=by
  rw[<-g];rfl
 rw[V0,G];cases w:VB h h.ah d with
 |none=>
  have:=jy f _ 0 [] Z0 Z0 w (I h.ah+1) [];have q:¬(ZQ h.ah (U0 _ h.ah) xk).2=0:=this;rw[Zhg q,Zhi Z1]
 |some shs=>
 have t:U0 _ h.ah=shs:=jx f _ _ _ _ w;rw[t];simp[ZhE];by_cases q:(ZQ h.ah shs xk).2=0;case neg=>simp_all
 rw[Zhi q];generalize (ZQ h.ah shs xk).1=y at*;have l:(XT (XT (XT (XE h) 1 d) 2 n) 3 y).lm=XG h 1 [] d:=by
  rw[<-g];exact C6 Z0
 have H:Xv (XT (XT (XT (XE h) 1 d) 2 n) 3 y) 4=ZQ h.aj (U0 (XG h 1 [] d) h.aj) xk:=by
  rw[<-l];rfl
 rw[V0,H];cases x:VB h h.aj d with
 |none=>
  have:=jy f _ 0 [] Z0 Z0 x (I h.aj+1) [];have r:¬(ZQ h.aj (U0 _ h.aj) xk).2=0:=this;rw[Zhg r,Zhi Z1]
 |some j=>
 have u:U0 _ h.aj=j:=jx f _ _ _ _ x;rw[u];simp[ZhE];by_cases r:(ZQ h.aj j xk).2=0;case neg=>simp_all
 rw[Zhi r,Zhg Zgc];exact⟨rfl,rfl,rfl,rfl,rfl,rfl,rfl⟩
end Vm
namespace Vm
open Go Go.Proofs
def CB{h p}(a:Xo h=J p){k}(g:1<=k/\k<=4):Tiles (Zx h k) (decide (2<k)) 0<|p.at k:=by
 have:k=1\/k=2\/k=3\/k=4:=Z0;unfold Xo at a;dsimp only at a;split at a;cases a;split at a;cases a;rename_i c2;cases a;have c3:(ZQ h.H [] xw).2=0/\(ZQ h.ae [] xw).2=0:=by
  refine⟨Z0,Z0⟩
 have c4:∀x:Int,¬x≠0->x=0:=Z0;have f:=c4 _ (λd=>c2<|.inr<|.inr<|.inr d);obtain rfl|rfl|rfl|rfl:=this;exact Sw<|ZjP rfl c3.1;exact Sw<|ZjP rfl c3.2;exact Sw<|ZjP rfl<|c4 _ (λd=>c2<|.inr<|.inr<|.inl d);exact Sw<|ZjP rfl f
def Z7R{h p}(a:Xo h=J p){k}(C:3<=k/\k<=4){o}(d:o∈p.at k)(z:o.gone=xk):∃q∈p.H,X3 h 1 q.Y=o.target/\q.size=o.size/\q.M=o.M:=by
 unfold Xo at a;dsimp only at a;split at a;cases a;split at a;cases a
 have f:∀g x,x=VB h g (ZQ h.H [] xw).1->¬x=U->(ZQ g (x.getD []) xk).2=0->o∈(ZQ g (x.getD []) xk).1->
   ∃q∈(ZQ h.H [] xw).1,X3 h 1 q.Y=o.target/\q.size=o.size/\q.M=o.M:=by
  intro g x B D n d;obtain _|j:=x;simp_all;simp[ZhE]at n d;let⟨G,l,r⟩:=jB _ _ _ _ B.symm _ [] (ZQ g j xk).1<|ZjP rfl n;simp[Zi8]at l;rw[l]at d;let⟨q,A,F⟩:=r o d z;have:=Zky A;grind [FL]
 have t:¬VB h h.ah (ZQ h.H [] xw).1=U:=Zgd;have u:¬VB h h.aj (ZQ h.H [] xw).1=U:=Zgd;have w:(ZQ h.ah ((VB h h.ah (ZQ h.H [] xw).1).getD []) xk).2=0:=Z0;have y:(ZQ h.aj ((VB h h.aj (ZQ h.H [] xw).1).getD []) xk).2=0:=Z0;cases a;have:k=3\/k=4:=Z0;obtain rfl|rfl:=this;exact f _ _ rfl t w Zgp;exact f _ _ rfl u y Zgp
theorem Z2B{h}(n:ZD (Zv h)=xk){p}(l:Xo h=J p){k}(d:1<=k/\k<=4){a}(j:(YF h k (p.at k) a).isSome=xk):∃b,ZZ (Zv h) a=(k,b,0):=by
 let⟨o,f⟩:=Zih.1 j;have g:X3 h k o.Y=a:=by have:=Zky f;simpa using this
 rw[<-g];exact⟨_,ZaJ n d ((CB l d).bd o<|ZjQ f).1⟩
def FO{h}(o:ZD (Zv h)=xk){p}(n:Xo h=J p){k j}(g:1<=k/\k<=4)(f:1<=j/\j<=4)(l:k≠j){a}(d:(YF h k (p.at k) a).isSome=xk):(YF h j (p.at j) a).isSome=xw:=by
 grind [Z2B]
section
variable {h:Hp}{s:Ck}{p:Pts}
def Found.dw(a:Found h s p){k}:s.dw k=p.at k:=by
 unfold Ck.dw Pts.at;rw[a.o1,a.o2,a.o3,a.o4]
def Found.rm(d:Found h s p)a:Y4 s.pm a=if(YF h 4 (p.at 4) a).isSome=xk then J 4 else if(YF h 3 (p.at 3) a).isSome=xk then J 3 else if(YF h 2 (p.at 2) a).isSome=xk then J 2 else if(YF h 1 (p.at 1) a).isSome=xk then J 1 else U:=by
 rw[d.pm,Lm,Lm,Lm,Lm];rfl
def Found.sw(q:Found h s p)(y:ZD (Zv h)=xk)(x:Xo h=J p)w:YU s w 1 2=XD h p w 1 2/\YU s w 3 4=XD h p w 3 4/\YU s w 1 4=(XD h p w 1 2||XD h p w 3 4):=by
 unfold YU XD;by_cases n:w=0;simp[n];by_cases D:(adr w).2=0;case neg=>grind
 rw[q.rm];generalize (adr w).1=a;have o:=λk j t r u=>FO (k:=k) (j:=j) y x t r u (a:=a);have C:=o 4 2 Z0 Z0 Z0;have B:=o 4 1 Z0 Z0 Z0;have A:=o 3 2 Z0 Z0 Z0;have z:=o 3 1 Z0 Z0 Z0;clear o;generalize (YF h 1 _ a).isSome=d at*;generalize (YF h 2 _ a).isSome=f at*;generalize (YF h 3 _ a).isSome=g at*;generalize (YF h 4 _ a).isSome=l at*;cases d<;>cases f<;>cases g<;>cases l<;>simp_all
end
end Vm
namespace Vm
open Go Go.Proofs
def XJ(l:List Ob):List Int:=(l.filter (·.gone)).map (·.target)
def Z8A{α l k}{x:α}(h:Y4 l k=U):I (XV l k x)=I l+1:=by
 grind [Y4,Option.map_eq_none_iff,XV]
def zX{pm}:∀ {l} {m:List (Int×Bool)} {K:List Int},K.Nodup->(∀a,Y4 m a=if a∈K then J xk else U)->I m=I K->
  match Wy pm l m with
  |some q=>(∀t∈XJ l,(Y4 pm t).getD 0=1)/\(K++XJ l).Nodup/\I q=I (K++XJ l)/\∀a,Y4 q a=if a∈K++XJ l then J xk else U
  |none=>¬((∀t∈XJ l,(Y4 pm t).getD 0=1)/\(K++XJ l).Nodup)
 | [],m,K,k,d,n=>by simp only[XJ,List.filter_nil,Zj5,ZiE];exact⟨Z1,k,n,d⟩
 |o::l,m,K,k,d,n=>by
  rw[Wy];cases w:o.gone with
  |false=>
   have:XJ (o::l)=XJ l:=by simp[XJ,w]
   rw[this];exact zX k d n
  |true=>
   rw[Zhi rfl];have h:XJ (o::l)=o.target::XJ l:=by simp[XJ,w]
   rw[h];by_cases p:(Y4 pm o.target).getD 0=1;by_cases j:o.target∈K;rw[Zhg (by rw[d,Zhi j];simp)];rintro⟨_,z⟩;exact(Zkf.1 z).2.2 _ j _ Z1 rfl;have g:Y4 m o.target=U:=by rw[d,Zhg j]
   rw[Zhi ⟨p,by rw[g];rfl⟩]
   have f:=zX (pm:=pm) (l:=l) (m:=XV m o.target xk) (K:=K++[o.target]) (by
     rw[Zkf];refine⟨k,Z1,λa y b r=> ?_⟩;simp at r;subst r;intro e;subst e;exact j y) (λa=>by
     rw[J7,d];by_cases e:o.target=a;simp[e];have x:¬a=o.target:=Z0;simp[e,x]) (by rw[Z8A g,n];simp)
   rw[ZhW]at f;cases u:Wy pm l _ with
   |none=>
    rw[u]at f;rintro⟨A,B⟩;exact f ⟨Zgd,B⟩
   |some q=>
    rw[u]at f;refine⟨λt h=> ?_,f.2⟩;obtain rfl|h:=Zhs.1 h;exact p;exact f.1 t h
   rw[Zhg Z0];rintro⟨A,_⟩;exact p Zgd
def PW{l a}:Xc l a=(XJ l).count a:=by
 unfold Xc XJ;induction l with
 |nil=>rfl
 |cons o l d=>
  grind
def Z7l{T S:List Int}(j:S.Nodup)(f:T⊆S):(T.Nodup/\I T=I S)↔ ∀a∈S,T.count a=1:=by
 constructor;rintro⟨d,n⟩ a k;by_cases o:a∈T;grind;have g:T⊆S.erase a:=Zgc;have l:=d.length_le_of_subset g;grind;intro h;have d:T.Nodup:=Zgc;refine⟨d,Nat.le_antisymm (d.length_le_of_subset f)<|j.length_le_of_subset λa k=> ?_⟩;grind
section
variable {h:Hp}{s:Ck}{p:Pts}
def Found.so(f:Found h s p)(C:ZD (Zv h)=xk)(y:Xo h=J p):RP s=(!h.aa||p.H.all (Rr h p)):=by
 have G:=CB y (k:=1) Z0;have F:(p.H.map λo=>X3 h 1 o.Y).Nodup:=by
  have:=Tiles.oj C (k:=1) Z0 G;rw[List.nodup_iff_pairwise_ne,List.pairwise_map];exact this
 have n:∀t∈XJ s.o3++XJ s.o4,t∈p.H.map λo=>X3 h 1 o.Y:=by
  intro t d;have:∃k,(3<=k/\k<=4)/\t∈XJ (p.at k):=by
   obtain d|d:=ZhC.1 d;exact⟨3,Z0,by rw[f.o3]at d;exact d⟩;exact⟨4,Z0,by rw[f.o4]at d;exact d⟩
  let⟨k,x,d⟩:=this;simp[XJ,Zhq,Zk4]at d;obtain⟨o,⟨r,L⟩,rfl⟩:=d;let⟨q,z,B,_⟩:=Z7R y x r L;exact Zhq.2 ⟨q,z,B⟩
 have N:∀t∈XJ s.o3++XJ s.o4,(Y4 s.pm t).getD 0=1:=by
  intro t d;let⟨q,z,B⟩:=Zhq.1<|n t d;have u:(YF h 1 (p.at 1) t).isSome=xk:=by
   unfold YF;rw[List.find?_isSome];exact⟨q,z,Zgc⟩
  have o:=λk x M=>FO (k:=1) (j:=k) C y Z0 x M u;rw[f.rm,o 4 Z0 Z0,o 3 Z0 Z0,o 2 Z0 Z0,u];rfl
 unfold RP;rw[f.hp];cases S:h.aa;rfl;simp[Zkq,Zkp];have key:=Z7l F (T:=XJ s.o3++XJ s.o4) n;have g:p.H.all (Rr h p)=xk↔ ∀a∈(p.H.map λo=>X3 h 1 o.Y),(XJ s.o3++XJ s.o4).count a=1:=by
  rw[Zhn];constructor;intro A a H;obtain⟨o,r,rfl⟩:=Zhq.1 H;have:=A o r;simp[Rr,ZhG,UK,PW]at this;rw[List.count_append,f.o3,f.o4];exact this;intro A o r;have:=A _<|Zhq.2 ⟨o,r,rfl⟩;rw[List.count_append,f.o3,f.o4]at this;simp_all[Rr,UK,PW]
 rw[ZhM]at key;have w:=zX (pm:=s.pm) (l:=s.o3) (m:=[]) (K:=[]) Z1 (by simp[Y4]) rfl;simp only[Zi8]at w;rw[Zkv,g,<-key];cases u:Wy s.pm s.o3 []with
 |none=>
  grind
 |some m=>
  rw[u]at w;let⟨X,O,P,Q⟩:=w;simp[Zhk];have c2:=zX (pm:=s.pm) (l:=s.o4) (m:=m) (K:=XJ s.o3) O Q P;cases D:Wy s.pm s.o4 m with
  |none=>
   simp_all
  |some W=>
   rw[D]at c2;let⟨Y,Z,R,r4⟩:=c2;simp[ZhG,R,f.o1];simp_all
end
end Vm
namespace Vm
open Go Go.Proofs
def PF:∀ {l} {a:Int} {i:Nat},XP l xk a i=xk->∀w∈l,w=0
 | [],_,_,_,w,d=>by simp at d
 |x::l,a,i,h,w,d=>by
  simp[XP,ZhG]at h;obtain rfl|d:=Zhs.1 d;exact h.1.1;exact PF h.2 w d
def LG{s k q}:WW s k q=xk↔ ∀o∈s.dw k,o.gone=xw->∀j,j<o.M.toNat->q ((o.Y.toNat+1+j:Nat):Int) (U2 (Zx s.h k)<|o.Y.toNat+1+j)=xk:=by
 unfold WW obQ;grind
def Z8y{h p}(u:Xo h=J p){k}(r:1<=k/\k<=4):WE h p k=xk↔ ∀o∈p.at k,o.gone=xw->∀j,j<o.M.toNat->Ui h p k (o.Y.toNat+1+j)=xk:=by
 unfold WE qs;rw[Zhn];constructor;simp_all;intro x o t;rw[Zhn];intro j l;have l:=ZjR.1 l;cases q:o.gone;simp_all;have d:=((CB u r).bd o t).1;have w:=YN.1 d.shape;have f:=d.gm;rw[q]at f;have g:=d.an;have n:=d.kx;have a:o.Y.toNat+1+j< I (Zx h k):=Z0;have y:(Zx h k)[o.Y.toNat+1+j]?=J 0:=by
  rw[Zh8 a];refine Zii J<|(PF f) _ ?_;rw[ZjM];refine⟨j,?_⟩;rw[ZhL,Zhi Z0,ZhF,Zh8 a]
 grind [XD,Ui]
section
variable {h:Hp}{s:Ck}{p:Pts}
def Found.M(u:Found h s p)(K:ZD (Zv h)=xk)(G:Xo h=J p):(Qy s&&(QB s&&Q9 s))=(h.E.all (λw=>XD h p w 1 2)&&WE h p 1&&WE h p 2&&WE h p 3&&WE h p 4):=by
 have g:=u.sw K G;have t:s.h.E.all (λw=>YU s w 1 2)=h.E.all (λw=>XD h p w 1 2):=by
  rw[u.hp];congr 1;funext w;exact(g w).1
 have l:=λk=>u.dw (k:=k);have r:∀k (q:Nat->Int->Bool) (F:1<=k/\k<=4),(∀a,Ui h p k a=q a (U2 (Zx h k) a))->(WE h p k=xk↔ ∀o∈p.at k,o.gone=xw->∀j,j<o.M.toNat->q (o.Y.toNat+1+j) (U2 (Zx h k)<|o.Y.toNat+1+j)=xk):=by
  intro k q F H;rw[Z8y G F];simp[H]
 have p3:=r 3 (λ_ w=>XD h p w 3 4) Z0 (λa=>by simp[Ui,U2]);have p4:=r 4 (λ_ w=>XD h p w 3 4) Z0 (λa=>by simp[Ui,U2]);have L:=r 1 (λa w=>if h.Z<=a then XD h p w 1 2||XD h p w 3 4 else XD h p w 1 2) Z0 (λa=>by simp[Ui,U2]);have N:WW s 2 (λ_ w=>YU s w 1 2)=xk↔WE h p 2=xk:=by
  rw[r 2 (λ_ w=>XD h p w 1 2) Z0 (λa=>by simp[Ui,U2]),LG,l,u.hp];simp[(g _).1]
 have O:WW s 3 (λ_ w=>YU s w 3 4)=xk↔WE h p 3=xk:=by
  rw[p3,LG,l,u.hp];simp[(g _).2.1]
 have P:WW s 4 (λ_ w=>YU s w 3 4)=xk↔WE h p 4=xk:=by
  rw[p4,LG,l,u.hp];simp[(g _).2.1]
 have M:(WW s 1 (λa w=>decide (s.h.Z<=a)||YU s w 1 2)=xk/\WW s 1 (λa w=>decide (a<s.h.Z)||YU s w 1 4)=xk)↔WE h p 1=xk:=by
  rw[L,LG,LG,l,u.hp];simp only[(g _).1,(g _).2.2];constructor;rintro⟨C,D⟩ o A y j z;have C:=C o A y j z;have D:=D o A y j z;generalize o.Y.toNat+1+j=n at*;by_cases x:h.Z<=n;have:¬n<h.Z:=Z0;simpa[x,this]using D;simpa[x]using C;intro B;refine⟨λo A y j z=> ?_,λo A y j z=> ?_⟩;have B:=B o A y j z;generalize o.Y.toNat+1+j=n at*;by_cases x:h.Z<=n;simp[x];simpa[x]using B;have B:=B o A y j z;generalize o.Y.toNat+1+j=n at*;by_cases x:h.Z<=n;have:¬n<h.Z:=Z0;simpa[x,this]using B;have:n<h.Z:=Z0;simp[this]
 unfold Qy QB Q9;rw[t,Zkv];simp[Zhb];rw[N,O,P,<-M];constructor;rintro⟨⟨a,b,c⟩,d,e,f⟩;exact⟨⟨⟨⟨a,c,d⟩,b⟩,e⟩,f⟩;rintro⟨⟨⟨⟨a,c,d⟩,b⟩,e⟩,f⟩;exact⟨⟨a,b,c⟩,d,e,f⟩
def Found.um(a:Found h s p):Qw s=decide ((I h.H:Int)+I h.ae+X4 p<=h.cap):=by
 unfold Qw Sv X4;rw[a.hp,a.o3,a.o4]
end
def Z73 h:TC h=(SJ (XE h)&&Qt (XE h)):=by
 grind [TC,SJ,Qt,XE,Zv]
def BH h:(Vx h).isSome=YQ h/\∀s,Vx h=J s->∃p,Xo h=J p/\Found h s p:=by
 have k:Vx h=(if SJ _=xk then if Qt (XE h)=xk then if(Wc<|XE h).1=xk then
   if RP (Wc<|XE h).2=xk then if Qy (Wc<|XE h).2=xk then if QB (Wc<|XE h).2=xk then if Q9 (Wc<|XE h).2=xk then if Qw (Wc<|XE h).2=xk then
    J (Wc<|XE h).2 else U else U else U else U else U else U else U else U):=rfl
 unfold YQ;rw[Z73 h];cases a:SJ _;simp_all;have g:ZD (Zv h)=xk:=by
  unfold SJ at a;simp[Zhb]at a;exact a.1
 cases j:Qt _;simp_all;have l:=Zbo g;cases f:Xo h with
 |none=>
  simp_all
 |some p=>
  rw[f]at l;let⟨q,d⟩:=l;rw[a,j,q]at k;simp at k;generalize (Wc _).2=s at*;have n:=d.M g f;have o:=d.um;have r:Sk h p=(RP s&&((Qy s&&(QB s&&Q9 s))&&Qw s)):=by
   rw[d.so g f,n,o];unfold Sk;simp[Bool.and_assoc]
  grind
def Z63 h k:Lp h k=VS h k:=by
 let⟨d,g⟩:=BH h;unfold Lp VS;cases f:Vx h with
 |none=>
  simp_all
 |some s=>
  rw[f]at d;have a:YQ h=xk:=d.symm;let⟨p,l,j⟩:=g s f;simp[a,l,j.dw]
def Z67 h:(jQ h:Int)=JW h:=by
 let⟨d,j⟩:=BH h;unfold jQ JW;cases g:Vx h with
 |none=>
  simp_all
 |some s=>
  rw[g]at d;have a:YQ h=xk:=d.symm;let⟨p,k,f⟩:=j s g;simp[a,k];unfold Sv X4;rw[f.o3,f.o4]
end Vm
end
section
namespace Vm
open Go Go.Proofs Go.RowKit
section
def EQ{α:Type}(F:Fence)(n:Nat)(P:Z5)(g:Nat)(lb:Ze)(d:α->Array Value)(Kp:World->World->Prop)(S:List α->World->Prop)(k:List PanicEntry->List α->World->Prop)(N:Nat)(bt:Zt)(j:World->Prop)(w:Z3):Prop:=
 ∀(l:Nat) (o:List α->World->Prop) (W:Z3),Below (xz<|xj w) w W->(∀pre W,o pre W->j W)->(∀s A B row,o s A->A.grownBy B row->(∀r,row=J r->J r=bt)->o s B)->
  (∀pre x f,o pre f->I pre<N->YieldAt F (n-1) P l (d x) f λe a=>e=.returned (.bool xk)/\o (pre++[x]) a/\Kp f a)->
  o [] W->
  CallsIn F n P g (#[.func (.yield l) #[] #[]]++lb) W λe a=>(∃v h,e=.returned v/\S h a/\o h a)\/(∃chain pre,e=.panicked chain/\k chain pre a/\o pre a)
def Z8o{α:Type}(B:Nat)(Kp:World->World->Prop)(I:List α->World->Prop)(xs:List α)(W:Z3):Exit->Act->World->Prop
 |.normal,_,a=>KeepsFrom B W a/\Kp W a/\I xs a
 |_,_,_=>False
def OwnP{β:Type}(bt:Zt)(B:Nat)(I:β->World->Prop):Prop:=
 ∀s X Y row,I s X->X.grownBy Y row->(∀r,row=J r->J r=bt\/(B<=r/\∃o:Obj,X.heap[r]?=J o/\o.isCells=xw))->I s Y
def OwnP.putObj{β:Type}{bt:Zt}{B:Nat}{I:β->World->Prop}(h:OwnP bt B I){s:β}{W:Z3}{l:Nat}{o:Obj}(a:Obj)(d:I s W)(f:B<=l)(g:W.heap[l]?=J o)(j:o.isCells=xw):I s<|W.putObj l a:=
 h s W _ (J l) d (Zk0 W l a) (λr e=>Zgd)
def OwnP.alloc{β:Type}{bt:Zt}{B:Nat}{I:β->World->Prop}(h:OwnP bt B I){s:β}{W:Z3}(o:Obj)(a:I s W):I s<|W.alloc o:=
 h s W _ U a (Ziu W o U) (λr e=>by cases e)
variable {F:Fence}{n:Nat}{P:Z5}
def Zbw{α:Type}{g:Operand}{ps:Array Tmp}{assign body:Code}{Q:Zk}{a:Act}{w:Z3}
  (d6:F.round=U) (h1:1<=n) {gf:Nat} {lb:Ze} (hg:a.eval g=.func (.func gf) #[] lb) (d7:F.fn gf) (eg:∀args w,(callFunc gf args).run P w=.ok (.enter gf args) w)
  {f:α->Array Value} {Kp:World->World->Prop} {S:List α->World->Prop} {Pp:List PanicEntry->List α->World->Prop} {N:Nat} {bt:Zt} {Ex:World->Prop} {w0:Z3} (a8:EQ F (n-1) P gf lb f Kp S Pp N bt Ex w0)
  (b5:∀r,bt=J r->r<xz (xj w))
  (T:∀ {A B C:Z3},Kp A B->Kp B C->Kp A C) (a1:∀(W:Z3) (l:Nat) (o o':Obj),xz (xj w)<=l->W.heap[l]?=J o->o.isCells=xw->o.isWalk=xw->Kp W (W.putObj l o')) (a2:Below (xz<|xj w0) w0 w) (d8:∀x,(f x).size=ps.size)
  (I:List α->World->Prop) (hI:OwnP bt (xz<|xj w) I) (b0:∀pre W,I pre W->Ex W) (h0:I [] w) (hS:OwnP U (xz<|xj w) S) (Ax:α->Act->World->Prop) (a9:∀x G,OwnP U (xz<|xj w)<|λ(_:Unit) W=>Ax x G W)
  (q:∀(l:Nat) (pre:List α) (x:α) (W:Z3) (K:Act->World->Prop),I pre W->(∀G W',KeepsFrom (xz<|xj w) W W'->Kp W W'->I pre W'->Ax x G W'->K G W')->
   assign.wpIn (F.inRound l) (n-1-1) P (Exit.then K<|λ_ _ _=>False) {tmps:=(ps.zip<|f x).foldl (λt (p,v)=>t.setIfInBounds p v) a.tmps,defers:=[]} W)
  (X:∀(l:Nat) (pre:List α) (x:α) (G:Act) (W:Z3),I pre W->Ax x G W->xq pre<N->body.wpIn (F.inRound l) (n-1-1) P (Z8o (xz<|xj w) Kp I (pre++[x]) W) G W)
  (Y:∀(D:Nat) (xs:List α) (W:Z3),xz (xj w)<=D->S xs W->I xs W->W.heap[D]?=J (.deferred<|J [])->Q .normal {a with defers:= {target:=.collected D,args:=#[]}::a.defers} W)
  (M:∀(D:Nat) (chain:List PanicEntry) (pre:List α) (W:Z3),xz (xj w)<=D->Pp chain pre W->I pre W->W.heap[D]?=J (.deferred<|J [])->Q (.panic chain) {a with defers:= {target:=.collected D,args:=#[]}::a.defers} W):
  (Code.rangeFunc g ps assign body).wpIn F n P Q a w:=by
 refine wpIn_rangeFunc λfn b7=> ?_;rw[d6];obtain⟨d,z⟩:∃d:LoopState->Option Code->Loop,d=λst pe=> {state:=st,pending:=pe,fn,tmps:=a.tmps,params:=ps,assign,body,defers:=xz (xj w)}:=⟨_,rfl⟩;obtain⟨H,L⟩:∃H,(w.alloc<|.deferred<|J []).alloc (.loop<|d .ready U)=H:=⟨_,rfl⟩;have b2:H.heap[xz (xj w)+1]?=J (.loop<|d .ready U):=by
  have:=Zim (w.alloc<|.deferred<|J [])<|.loop<|d .ready U;rw[ZjA]at this;rw[<-L];exact this
 have b1:H.heap[xz<|xj w]?=J (.deferred<|J []):=by
  rw[<-L];exact(Zht _ _ _ Z1).trans (Zim w _)
 have b4:Below (xz<|xj w0) w0 H:=by
  rw[<-L];exact a2.trans<|(((Zhw _ w).alloc (Zhc _) _).alloc Z1 _).mono a2.size
 refine⟨xz (xj w)+1,[{target:=.collected<|xz<|xj w,args:=#[]}],H,{target:=.fn (.func gf) lb,args:=#[.func (.yield<|xz (xj w)+1) #[] #[]]},H,gf,
  #[.func (.yield<|xz (xj w)+1) #[] #[]]++lb,H,?_,?_,?_,?_,λ_=>h1,?_⟩
 simp_all[run_enterLoop_outer]
 .simp only[resolve,hg];simp[go_sem]
 simp_all[Target.leads];simp_all[invoke];have R:∀ {A B:Z3} {row:Zt} {k:Nat} {o:Obj},A.grownBy B row->(∀r,row=J r->J r=bt)->xz (xj w)<=k->A.heap[k]?=J o->B.heap[k]?=J o:=by
  intro A B row k o u hr hk ho;refine(u.block k (Zhe.1 ho).1 λe=> ?_).trans ho;have:=b5 k (hr k e.symm).symm;omega
 refine(a8 (xz (xj w)+1) (λpre W=>I pre W/\W.heap[xz (xj w)+1]?=J (.loop<|d .ready U)/\W.heap[xz<|xj w]?=J (.deferred<|J [])) H b4 (λpre W h=>b0 pre W h.1)
  (λs A B row hs u hr=>⟨hI s A B row hs.1 u (λr e=>.inl<|hr r e),R u hr Z0 hs.2.1,R u hr (Zhc _) hs.2.2⟩) ?_ ⟨by rw[<-L];exact hI.alloc _<|hI.alloc _ h0,b2,b1⟩).mono ?_
 rintro pre x W ⟨hi,Z,hk⟩ a7;have hy:=run_yield (P:=P) (args:=f x) Z Zgd;rw[z]at hy;refine⟨fn,_,assign,body,hy,roundIn_of_wpIn b7<|q _ pre x W _ hi ?_⟩;intro G V a5 c7 b9 b3;have y:=a5.same _ _ Z0 Z rfl;have c1:=a5.same _ _ (Zhc _) hk rfl;have d0:xz (xj w)+1<xz (xj V):=(Zhe.1 y).1;refine⟨_,run_beginRound y (by rw[z]),?_⟩;have c8:(V.putObj (xz (xj w)+1)<|.loop {d .ready U with state:=.busy}).heap[xz (xj w)+1]?=J (.loop {d .ready U with state:=.busy}):=ZjF d0;have c0:(V.putObj (xz (xj w)+1)<|.loop {d .ready U with state:=.busy}).heap[xz<|xj w]?=J (.deferred<|J []):=(ZhR Z0).trans c1;have d5:Kp V<|V.putObj (xz (xj w)+1)<|.loop {d .ready U with state:=.busy}:=a1 _ _ _ _ Z0 y rfl rfl;refine wpIn_mono (X _ pre x G _ (hI.putObj _ b9 Z0 y rfl) ((a9 x G).putObj (s:=()) _ b3 Z0 y rfl) a7) ?_;rintro e a3 W3 O;cases e with
 |normal=>
  obtain⟨a4,a6,b8⟩:=O;have a0:=a4.same _ _ Z0 c8 rfl;have b6:=a4.same _ _ (Zhc _) c0 rfl;have j:=run_endRound (P:=P) U a0;refine⟨_,_,j,rfl,⟨hI.putObj _ b8 Z0 a0 rfl,?_,(ZhR Z0).trans b6⟩,T c7<|T (T d5 a6)<|a1 _ _ _ _ Z0 a0 rfl rfl⟩;grind [World.putObj_heap_same,Array.getElem?_eq_some_iff]
 |ret=>exact O.elim
 |exit id=>exact O.elim
 |goto t=>exact O.elim
 |panic ch=>exact O.elim
 |outgrown=>exact O.elim
 rintro e W2 (⟨v,xs,rfl,hs,hi,Z,hk⟩|⟨chain,pre,rfl,O,hi,Z,hk⟩);have j:=run_endLoop (P:=P) Z Zgd;rw[z]at j;exact⟨U,_,j,Y _ xs _ (Zhc _) (hS.putObj _ hs Z0 Z rfl) (hI.putObj _ hi Z0 Z rfl)<|(ZhR Z0).trans hk⟩;exact M _ chain pre _ (Zhc _) O hi hk
end
end Vm
end
section
namespace Vm
open Go Go.Proofs
def N4:Fn:=⟨4,[0,2,3,4],pQ [pR [pV 1 pF],pC [pK 4 24 [.s 0]] [pV 2<|.ext (.s 4) 0,pV 3<|.ext (.s 4) 1],.au ⟨[.lt 5 []<|pe (.s 0)<|pU 0],[([(5,xw)],pe (.s 3)<|pI 0)],[pV 1<|.ite (.s 5) pT<|pe (.s 3)<|pI 0]⟩] .ret,[(1,.v)]⟩
def Z2X:xQ [.fz] Tryz.f104=J N4:=Z2
end Vm
end
