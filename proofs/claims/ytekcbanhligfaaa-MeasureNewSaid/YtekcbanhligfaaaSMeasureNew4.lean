import Derived.ProofKit
import Derived.OpenShut
import Derived.WalkSpells
import Derived.WalkLawsBesides
import Derived.StillTailTactics
import Derived.Deep.RegionHeld3
import Derived.Deep.AppendLies
import Derived.Deep.Onto
import Derived.Deep.OwnRows
import Derived.Lib.Hide
import Derived.Lib.AppendZerosOnto
import Derived.Laws.CopyOwn
import Derived.RangeFuncNested
import Derived.RangeFuncBound
import Derived.OwnWalkIn
import Derived.LoopNIn
import Derived.LoopIn
import Derived.Shelf.RegionOpen
import Derived.Test.YtekcbanhligfaaaSMeasureNew3
set_option linter.unusedSimpArgs false
set_option linter.unusedVariables false
set_option linter.defProp false
open Option renaming some→J,none→U
open Bool renaming true→xk,false→xw
open Go renaming undef→xy
open List renaming length→I
open Array renaming size→xz
open Go.World renaming heap→xj
open List renaming length→xq
open Array renaming size→xz
open Go.World renaming heap→xj
set_option maxHeartbeats 8000000
set_option maxRecDepth 100000
theorem Zeh{p:Prop}(h:p:=by decide):p:=h
theorem Zej{p:Prop}(h:p:=by unfold maxLen;omega):p:=h
theorem Zec{p:Prop}(h:p:=by rw[cell_of_row _ _ _ _ _ _ d];rfl):p:=h
theorem ZeQ{p:Prop}(h:p:=by simp[XB];omega):p:=h
theorem ZeF{p:Prop}(h:p:=by rw[cell_of_row _ _ _ _ _ _ d.out.2.1];rfl):p:=h
theorem Zez{p:Prop}(h:p:=by have:=d.out.size;simp at this;omega):p:=h
theorem Ze8{p:Prop}(h:p:=by have:=heap_alloc_new (w.alloc<|.cells #[.int .i64 0,.int .i64 0,.int .i64 0,.bool xw,.int .u64 0] 105)<|.cells #[.int .i64 a,.int .i64 0,.int .i64 0,.bool xw,.int .u64 0] 105;simp_all):p:=h
theorem Zes{p:Prop}(h:p:=by rw[cell_of_row _ _ _ _ _ _ n];rfl):p:=h
theorem Zer{p:Prop}(h:p:=by rw[cell_of_row _ _ _ _ _ _ h];rfl):p:=h
def Zhv:=@List.append_nil
def Zgu:=@Int.tmod_eq_emod_of_nonneg
def Zik:=@Int.fdiv_eq_ediv_of_nonneg
def Zg4:=@List.drop_eq_getElem_cons
def Zgt:=@List.take_add_one
def Zih:=@List.sum_append
def Zil:=@Bool.true_eq_false
def Zjd:=@List.map_set
def Zff:=@Go.RowKit.Below.heap_setCell
def Zf0:=@Go.Lib.hid
def ZfA:=@Go.bodyPost_ret
def Zg1:=@List.append_assoc
def Zj6:=@Nat.mul_one
def Zhq:=@Array.ext
def ZiT:=@List.take_left'
def Zgx:=@List.length_set
def Zgv:=@Go.World.cell?_alloc_lt
def Ziy:=@not_true_eq_false
def ZgT:=@List.length_pos_iff
def Zgz:=@List.mem_map_of_mem
def Zg2:=@List.length_nil
def ZhK:=@List.findIdx?_cons
def ZfO:=@List.findIdx?_eq_some_iff_getElem
def Zii:=@List.take_succ_cons
def Zhi:=@List.length_eq_zero_iff
def Zh8:=@List.getElem?_eq_none_iff
def Zio:=@List.pairwise_cons
def Ziz:=@Bool.false_or
def ZhH:=@Bool.eq_iff_iff
def ZhJ:=@Go.grownBy_putObj'
def Zg8:=@Go.World.alloc_heap_new
def ZgY:=@Go.World.size_alloc
def Zhm:=@Go.World.putObj_heap_same
def ZfE:=@Go.World.putObj_heap_other
def ZgU:=@eq_false
section
namespace Vm
open Go Go.Proofs
def sig(f:Zm):Option<|List OT:=
 if f=81 then J [.fz,.mem [.own 146],.mem [.own 3]]else
 if f=63 then J [.fz,.mem [.fz,.fz]]else
 if f=77 then J [.fz,.own 146]else
 if f=62 then J [.fz,.own 146]else
 if f=70 then J [.mem [.fz,.fz,.fz,.fz,.fz,.fz,.fz,.fz,.fz,.fz,.fz,.fz,.fz,.fz,.fz,.fz,.fz,.fz,.fz,.fz,.fz,.own 87,.own 88],.fz,.fz]else
 if f=48 then J [.mem [.fz,.fz,.fz,.fz,.fz,.fz,.fz,.fz,.fz,.fz,.fz,.fz,.fz,.fz,.fz,.fz,.fz,.fz,.fz,.fz,.fz,.own 87,.own 88]]else
 if f=1000057 then J [.mem [.fz,.fz,.fz,.fz,.fz,.fz,.fz,.fz,.fz,.fz,.fz,.fz,.fz,.fz,.fz,.fz,.fz,.fz,.fz,.fz,.fz,.own 87,.own 88]]else
 U
@[simp]def pI(n:Int):E:=.c<|.int .i64 n
@[simp]def pU(n:Int):E:=.c<|.int .u64 n
@[simp]def pF:E:=.c<|.bool xw
@[simp]def pT:E:=.c<|.bool xk
@[simp]def pN:E:=.c<|.sl []
@[simp]def pG(e:E):Nat->Nat->List E
 |_,0=>[]
 |i,n+1=>.ae e i::pG e (i+1) n
@[simp]def pS(a n:Nat):OV:=.m<|pG (.sz (.s a) n) 0 n
@[simp]def pM(e:E)(n:Nat):OV:=.m<|pG e 0 n
@[simp]def pY:E:=.ag [pU 0,pI 0,pI 0,pF,pI 0,pN,pN,pN,pN,pN]
@[simp]def pZ:OV:=.m [pU 0,pI 0,pI 0,pF,pI 0,pN,pN,pN,pN,pN]
@[simp]def pR(l:List<|Nat×OV):Stm:=.ax ⟨[],[],l⟩
@[simp]def pC(e:List EF)(l:List<|Nat×OV):Stm:=.ax ⟨e,[],l⟩
@[simp]def pV(t:Nat)(e:E):Nat×OV:=(t,.v e)
@[simp]def pK(t f:Nat)(l:List E):EF:=.call t [] (.id f) xw xw l
@[simp]def pQ:List Stm->Stm->Stm
 | [],z=>z
 |a::l,z=>.seq a<|pQ l z
def fresh(f:Zm):Bool:=f==78||f==66||f==68||f==7
def follows:xP.follows .mixedOrders=xk:=Z2
noncomputable abbrev xQ (a:List OT) (f:Func):Option Fn:=WB xP fresh sig a [] f
@[simp]def pl(a b:E):E:=.bu .lss a b
@[simp]def pe(a b:E):E:=.bu .eql a b
@[simp]def pa(a b:E):E:=.bu .add a b
@[simp]def pn(a b:E):E:=.bu .neq a b
@[simp]def pb(a b:E):E:=.bu .sub a b
@[simp]def pg(a b:E):E:=.bu .geq a b
@[simp]def pL(a b:E):E:=.bu .leq a b
@[simp]def pj(a b:E):E:=.bu .gtr a b
@[simp]def pm(a b:E):E:=.bu .mul a b
@[simp]def pw(c:E)(a:Stm):Stm:=.cond c a .skip
@[simp]def px(l:List<|Nat×OV):Stm:=.seq (pR l) .ret
@[simp]def pi(t:Nat)(e:E)(a:Stm):Stm:=.seq (pR [pV t e])<|.cond (.s t) a .skip
@[simp]def pu(t:Nat)(e:E)(a b:Stm):Stm:=.seq (pR [pV t e])<|.cond (.s t) a b
@[simp]def po(k:Zb)(t:Nat)(e:E)(a b:Stm):Stm:=.block 0<|.loop k<|.seq (pR [pV t e])<|.seq (.cond (.s t) .skip<|.exit 0)<|.seq (.block 1 a) b
@[simp]def pc(n:Nat):Stm:=pR [pV n<|.bu .add (.s n)<|pI 1]
section
def jR(x:Option V)(A B:Prop):Prop:=
 match x with
 |some (.bool xk)=>A
 |some (.bool xw)=>B
 |_=>False
@[simp]theorem Zbf b A B:jR (J<|.bool b) A B↔if b=xk then A else B:=by cases b<;>simp[jR]
def XJ{α:Type}(x:Option α)(K:α->Prop):Prop:=
 match x with
 |some x=>K x
 |none=>False
@[simp]theorem ZcH{α}x(K:α->Prop):XJ (J x) K↔K x:=ZgP
@[simp]theorem ZcG{α}(K:α->Prop):XJ U K↔False:=ZgP
@[simp]theorem ZcF{α β}f(x:Option α)(K:β->Prop):XJ (x.map f) K↔XJ x (λy=>K<|f y):=by cases x<;>rfl
@[simp]theorem ZcD{α β}f(x:Option α)(K:β->Prop):XJ (x.bind f) K↔XJ x (λy=>XJ (f y) K):=by cases x<;>rfl
@[simp]theorem ZcE{α}p [Decidable p]x y(K:α->Prop):XJ (if p then x else y) K↔if p then XJ x K else XJ y K:=by split<;>rfl
def Sy P [Lg P](f:Zm)(fr fl:Bool)(xs:List V)(K:V->Prop):Prop:=∃r,VC P f fr xs r/\(fl=xk->Wl r=J r)/\K r
def ZC{P} [Lg P]{f fr fl xs K r}(h:VC P f fr xs r)(d:fl=xk->Wl r=J r)(a:K r):Sy P f fr fl xs K:=⟨r,h,d,a⟩
def LX P [Lg P](f:Zm)(ks:List OT)(xs:List V)(K:V->Prop):Prop:=∃R,Vd P f ks xs R/\K R
def VR{P} [Lg P]{f ks xs K R}(h:Vd P f ks xs R)(a:K R):LX P f ks xs K:=⟨R,h,a⟩
def kS P [Lg P](b:Stm)(N:St->Prop)(X:Nat->St->Prop)(R:St->Prop)(s:St):Prop:=Ym P b s N X R
def xB(id:Nat)(N:St->Prop)(X:Nat->St->Prop)(i:Nat)(s:St):Prop:=if i=id then N s else X i s
def kR(a:List<|ZF×E)(outs:List<|Nat×OV)(K:St->Prop)(t:St):Prop:=So t a/\VQ outs t t K
def kO(l:List<|Nat×OV)(t u:St)(i:Nat)(K:St->Prop)(x:SV):Prop:=VQ l t (Yu u i x) K
def kL P [Lg P](l:List EF)(s:St)(i:Nat)(K:St->Prop)(x:V):Prop:=YC P l (Yu s i<|.v x) K
def kA P [Lg P](f:Zm)(fr fl:Bool)(K:V->Prop)(xs:List V):Prop:=Sy P f fr fl xs K
def RP P [Lg P](fr fl:Bool)(K:V->Prop)(xs:List V)(v:V):Prop:=XJ (Qy v) λn=>Sy P n.1 fr fl (xs++n.2) K
def AO P [Lg P](x:Option V)(fr fl:Bool)(K:V->Prop)(xs:List V):Prop:=XJ x<|RP P fr fl K xs
def AQ P [Lg P](f:Option FuncId)(ks:List OT)(K:V->Prop)(xs:List V):Prop:=XJ f λn=>LX P n ks xs K
def kW P [Lg P](l:List EF)(s:St)(i:Nat)(K:St->Prop)(a:List V):Prop:=if a=[]then YC P l s K else YC P l (Yu s i<|.v<|.ak<|.bool xw::a) K
def kT(_:V):Prop:=True
section
variable {P:Z6}[Lg P]{N R:St->Prop}{X:Nat->St->Prop}{K:St->Prop}{s t u:St}
@[simp]theorem Zcn b:kS P b N X R s↔Ym P b s N X R:=ZgP
@[simp]theorem Ze1 id:xB id N X id s↔N s:=by simp[xB]
def qZ id i:xB id N X i s↔if i=id then N s else X i s:=ZgP
@[simp]theorem Ze0{id i}(h:i≠id):xB id N X i s↔X i s:=by simp[xB,h]
@[simp]theorem Zcm a outs:kR a outs K t↔So t a/\VQ outs t t K:=ZgP
@[simp]theorem Zcl l i x:kO l t u i K x↔VQ l t (Yu u i x) K:=ZgP
@[simp]theorem Zck l i x:kL P l s i K x↔YC P l (Yu s i<|.v x) K:=ZgP
@[simp]theorem Zcj f fr fl K xs:kA P f fr fl K xs↔Sy P f fr fl xs K:=ZgP
@[simp]theorem Zch v fr fl K xs:AO P (J v) fr fl K xs↔RP P fr fl K xs v:=ZgP
@[simp]theorem Zcg(f:Zm)(fr fl:Bool)(K:V->Prop)(xs:List V):RP P fr fl K xs (.fn f)↔Sy P f fr fl xs K:=by simp[RP,Qy]
@[simp]theorem Zcf f cs fr fl K xs:RP P fr fl K xs (.cp f cs)↔Sy P f fr fl (xs++cs) K:=by simp[RP,Qy]
@[simp]theorem Zci f ks K xs:AQ P (J f) ks K xs↔LX P f ks xs K:=ZgP
@[simp]theorem Zcq(l:List EF)(i:Nat):kW P l s i K []↔YC P l s K:=by simp[kW]
@[simp]theorem Zcp l i x a:kW P l s i K (x::a)↔YC P l (Yu s i<|.v<|.ak<|.bool xw::x::a) K:=by simp[kW]
@[simp]theorem Zco x:kT x↔True:=ZgP
@[simp]theorem ZdW r:Ym P (.ax r) s N X R↔qX P r s N:=ZgP
@[simp]theorem ZdZ:Ym P .skip s N X R↔N s:=ZgP
@[simp]theorem ZdY a b:Ym P (.seq a b) s N X R↔Ym P a s (kS P b N X R) X R:=ZgP
@[simp]theorem ZdU c a b:Ym P (.cond c a b) s N X R↔jR (eval s c) (Ym P a s N X R) (Ym P b s N X R):=by
 rfl
@[simp]theorem ZdT id a:Ym P (.block id a) s N X R↔Ym P a s N (xB id N X) R:=ZgP
@[simp]theorem ZdV id:Ym P (.exit id) s N X R↔X id s:=ZgP
@[simp]theorem ZdX:Ym P .ret s N X R↔R s:=ZgP
def Qm{keep a}(I:St->Prop)(μ:St->Nat)(f:I<|YO keep s)(g:∀s,I s->Ym P a s (λd=>I (YO keep d)/\μ (YO keep d)<μ s) X R):Ym P (.loop keep a) s N X R:=⟨I,μ,f,g⟩
@[simp]theorem ZdS d a outs:qX P ⟨d,a,outs⟩ s K↔YC P d s (kR a outs K):=ZgP
@[simp]theorem ZdR:VQ [] t u K↔K u:=ZgP
@[simp]theorem ZdQ i o l:VQ ((i,o)::l) t u K↔XJ (WH t o) (kO l t u i K):=by
 simp[VQ,kO];cases WH t o<;>rfl
@[simp]theorem ZdK:So t []↔True:=ZgP
@[simp]theorem ZdJ C e l:So t ((C,e)::l)↔(VA t C=xk->XJ (eval t e) kT)/\So t l:=by
 simp[So,kT];cases eval t e<;>simp
@[simp]theorem ZdP:YC P [] s K↔K s:=ZgP
@[simp]theorem ZdO i C e l:YC P (.lt i C e::l) s K↔if VA s C=xk then XJ (eval s e) (kL P l s i K)else YC P l s K:=by
 simp[YC,kL];cases eval s e<;>rfl
@[simp]theorem ZdL i C f fr fl es l:YC P (.call i C (.id f) fr fl es::l) s K↔if VA s C=xk then XJ (Ys s es) (kA P f fr fl<|kL P l s i K)else YC P l s K:=by
 simp[YC,XJ,Sy,UC];cases Ys s es<;>simp
@[simp]theorem ZdM i C x fr fl es l:YC P (.call i C (.e x) fr fl es::l) s K↔if VA s C=xk then XJ (Ys s es) (AO P (eval s x) fr fl<|kL P l s i K)else YC P l s K:=by
 simp[YC,XJ,AO,RP,Sy,UC];cases Ys s es with
 |none=>simp
 |some d=>
  cases eval s x with
  |none=>simp
  |some v=>cases a:Qy v<;>simp[a]
@[simp]theorem ZdN i C f ks es l:YC P (.cm i C f ks es::l) s K↔
  if VA s C=xk then XJ (Ys s es)<|AQ P (Vj s f) ks<|kL P l s i K
  else XJ (Wp s ks es)<|kW P l s i K:=by
 simp[YC,XJ,LX,AQ,kW];split;cases Ys s es<;>cases Vj s f<;>simp
 cases Wp s ks es with
 |none=>simp
 |some a=>cases a<;>simp
@[simp]theorem Zd7 e:WH t (.v e)=(eval t e).map .v:=rfl
@[simp]theorem Zd5 l:WH t (.m l)=(Ys t l).map .m:=rfl
@[simp]theorem Zd6:WH t .no=J .no:=rfl
@[simp]theorem Zca:VA s []=xk:=rfl
def Z2P i b(C:ZF):VA s ((i,b)::C)=((match get s i with|.v (.bool c)=>c==b|_=>xw)&&VA s C):=rfl
end
@[simp]theorem Zc8 x(s:St):get (x::s) 0=x:=rfl
@[simp]theorem Zc7 x(s:St)n:get (x::s) (n+1)=get s n:=by simp[get]
@[simp]theorem Zdb x y(s:St):Yu (y::s) 0 x=x::s:=rfl
@[simp]theorem Zda x y(s:St)n:Yu (y::s) (n+1) x=y::Yu s n x:=rfl
@[simp]theorem Zd9 x:Yu [] 0 x=[x]:=rfl
@[simp]theorem Zd8 x n:Yu [] (n+1) x=.no::Yu [] n x:=rfl
@[simp]theorem Zd4 s:YO [] s=[]:=rfl
@[simp]theorem Zd3 i l s:YO (i::l) s=Yu (YO l s) i (get s i):=rfl
attribute [simp] L3 eval Ys Z2P XW UP VL RC RB Xn Jc Sv T6 Vj Wp
section
variable {k:IntKind}{a b:Int}{x y:V}{l r:List V}
@[simp]theorem ZaL:YX .add (.int k a) (.int k b)=J (.int k<|k.wrap<|a+b):=by simp[YX]
@[simp]theorem ZaV:YX .sub (.int k a) (.int k b)=J (.int k<|k.wrap<|a-b):=by simp[YX]
@[simp]theorem ZaR:YX .mul (.int k a) (.int k b)=J (.int k<|k.wrap<|a*b):=by simp[YX]
@[simp]theorem ZaT:YX .quo (.int k a) (.int k b)=if b≠0 then J (.int k<|k.wrap<|a.tdiv b)else U:=by simp[YX]
@[simp]theorem ZaU:YX .rem (.int k a) (.int k b)=if b≠0 then J (.int k<|a.tmod b)else U:=by simp[YX]
@[simp]theorem ZaM:YX .eql (.int k a) (.int k b)=J (.bool<|decide (a=b)):=by simp[YX];rfl
@[simp]theorem ZaS:YX .neq (.int k a) (.int k b)=J (.bool<|!decide (a=b)):=by simp[YX];rfl
@[simp]theorem ZaQ:YX .lss (.int k a) (.int k b)=J (.bool<|decide (a<b)):=by simp[YX]
@[simp]theorem ZaP:YX .leq (.int k a) (.int k b)=J (.bool<|decide (a<=b)):=by simp[YX]
@[simp]theorem ZaO:YX .gtr (.int k a) (.int k b)=J (.bool<|decide (b<a)):=by simp[YX]
@[simp]theorem ZaN:YX .geq (.int k a) (.int k b)=J (.bool<|decide (b<=a)):=by simp[YX]
@[simp]theorem Zbh p q n:SB n (.bool p) (.bool q)=J (.bool<|n ^^ (p==q)):=rfl
@[simp]theorem ZdC:Sj .neg (.int k a)=J (.int k<|k.wrap<|0-a):=rfl
@[simp]theorem ZdD p:Sj .not (.bool p)=J (.bool !p):=rfl
@[simp]theorem Zbg k':QA k' (.int k a)=J (.int k'<|k'.wrap a):=rfl
@[simp]theorem Zcr:RU (.sl l)=J (.int .i64<|I l):=rfl
@[simp]theorem Zcx id vs:SM (.mp id l vs)=J (.int .i64<|I l):=rfl
@[simp]theorem Zcu id vs:Ks (.mp id l vs)=J (.mp id [] []):=rfl
@[simp]theorem Zcv:Q0 (.int k a) (.int k b)=J (.int k<|if b<a then b else a):=rfl
@[simp]theorem Zct:RZ (.int k a) (.int k b)=J (.int k<|if b>a then b else a):=rfl
@[simp]theorem Zbi i:TH (.ak l) i=l[i]? :=rfl
@[simp]theorem Zcc(i n:Nat):YW (.sl l) (.int k i) n=(l[i]?).bind λz=>if I z.cells=n then J z else U:=by simp[YW]
@[simp]theorem Zb2:(V.int k a).cells=[V.int k a]:=rfl
@[simp]theorem Zb0 p:(V.bool p).cells=[V.bool p]:=rfl
@[simp]theorem Zb5 s:(V.str s).cells=[V.str s]:=rfl
@[simp]theorem Zb4:(V.sl l).cells=[V.sl l]:=rfl
@[simp]theorem ZaY:(V.agg l).cells=l:=rfl
@[simp]theorem Zb3 id:(V.mp id l r).cells=[V.mp id l r]:=rfl
@[simp]theorem Zb1 f:(V.fn f).cells=[V.fn f]:=rfl
@[simp]theorem ZcZ:(V.int k a).one=xk:=rfl
@[simp]theorem ZcV p:(V.bool p).one=xk:=rfl
@[simp]theorem Zd2:(V.sl l).one=xk:=rfl
@[simp]theorem Zd0 id:(V.mp id l r).one=xk:=rfl
@[simp]theorem ZcY f:(V.fn f).one=xk:=rfl
@[simp]theorem ZcU:(V.agg l).one=xw:=rfl
@[simp]theorem ZcO:YN (.int k a)=J (.int k a):=rfl
@[simp]theorem ZcK p:YN (.bool p)=J (.bool p):=rfl
@[simp]theorem ZcS s:YN (.str s)=J (.str s):=rfl
@[simp]theorem ZcR:YN (.sl l)=J (.sl l):=rfl
@[simp]theorem ZcP id:YN (.mp id l r)=J (.mp id l r):=rfl
@[simp]theorem ZcN f:YN (.fn f)=J (.fn f):=rfl
@[simp]theorem Zbl o:Y1 (.agg l) o=(l[o]?).bind YN:=rfl
@[simp]theorem ZbG:Y1 (.int k a) 0=J (.int k a):=rfl
@[simp]theorem Zbm p:Y1 (.bool p) 0=J (.bool p):=rfl
@[simp]theorem ZbX:Y1 (.sl l) 0=J (.sl l):=rfl
@[simp]theorem ZbY s:Y1 (.str s) 0=J (.str s):=rfl
@[simp]theorem ZbZ o n:UB (.agg l) o n=if o+n<=(I l) then J (.agg<|(l.drop o).take n)else U:=rfl
@[simp]theorem Zdt n:Up (.agg l) n=if I l=n then J (.agg l)else U:=rfl
@[simp]theorem Zcd:RO (.agg l)=J (.agg l):=rfl
@[simp]theorem Zds:UT (.ptr l)=J (.agg l):=rfl
@[simp]theorem Zce p A B:QU (.bool p) A B=if p=xk then A else B:=by cases p<;>rfl
@[simp]theorem Zax:TC l=.agg (flat l):=rfl
@[simp]theorem Zbj:flat (x::l)=x.cells++flat l:=rfl
@[simp]theorem Zbk:flat []=[]:=rfl
@[simp]theorem ZaK n:Ro n (.sl l) (.sl r)=if I l+I r<=YJ/\XA n r=xk then J (.sl<|l++r)else U:=rfl
@[simp]theorem Zdm n:XA n []=xk:=rfl
@[simp]theorem Zdj n:XA n (x::l)=(I x.cells==n&&XA n l):=rfl
def Ln{α:Type}{f n}{l:List α}(h:∀x,(f x).cells.length=n):XA n (l.map f)=xk:=by
 simp[XA,h]
abbrev Z9:=List Int
@[simp]theorem qL(l:Z9):XA 1 (l.map<|V.int k)=xk:=Ln λ_=>rfl
@[simp]theorem Zcw(n:Nat):Kv x (.int k n)=if n<=YJ then J (.sl<|List.replicate n x)else U:=by
 simp only[Kv];have:(n<=YJ)↔n<=YJ:=Z0;simp
@[simp]theorem Z8A(i j n:Nat):R7 n (.sl l) (.int k i) (.int k j)=if i<=j/\j<=I l/\XA n l=xk then J (.sl<|(l.take j).drop i)else U:=by
 simp[R7]
@[simp]theorem Zdq(i n:Nat):Qe n (.sl l) (.int k (i:Int))=if i<=I l/\XA n l=xk then J (.sl<|l.drop i)else U:=by
 simp[Qe]
@[simp]theorem ZdE(i o:Nat):R9 (.sl l) (.int k i) o y=(l[i]?).bind λz=>if o+I y.cells<=I z.cells/\y.cells≠[]then J (.sl<|l.set i<|z.put o y.cells)else U:=by
 simp[R9]
end
abbrev vi(n:Int):V:=.int .i64 n
abbrev vu(n:Int):V:=.int .u64 n
@[simp]theorem Zcz(n:Nat):((n:Int)<0)↔False:=by simp
def ZB n(a: -9223372036854775808<=n)(h2:n<=9223372036854775807):IntKind.i64.wrap n=n:=by
 rw[IntKind.wrap_i64];omega
end
end Vm
end
section
namespace Vm
open Go Go.ChangeShapes Go.WideShapes Go.ChangeAt Go.RowKit
section
def Kb(P:Z6)(n:Nat):List Field->Nat->Bool
 | [],o=>o==n
 |f::l,o=>f.offset==o&&Kb P n l (o+P.cellsOf f.type)
def TZ(P:Z6):Nat->TypeId->Bool
 |0,_=>xw
 |n+1,t=>match P.underlying t with
  |some .bool|some (.int _)|some .string=>xk
  |some (.slice e)=>TZ P n e&&decide (0<P.cellsOf e)
  |some (.struct a)=>Kb P (P.cellsOf t) a.toList 0&&a.toList.all λf=>TZ P n f.type
  |some (.array m e)=>TZ P n e&&m*P.cellsOf e==P.cellsOf t
  |_=>xw
def WP(P:Z6):Nat->TypeId->V->Prop
 |0,_,_=>False
 |n+1,t,x=>match P.underlying t with
  |some .bool=>∃b,x=.bool b
  |some (.int k)=>∃m,x=.int k m/\(Lit.int k m).wf=xk
  |some .string=>∃s,x=.str s/\s.size<=maxLen
  |some (.slice e)=>∃l,x=.sl l/\I l<=maxLen/\∀y∈l,WP P n e y
  |some (.struct d)=>∃a,x=.agg (flat a)/\I a=I d.toList/\∀(i:Nat) (f:Field) (y:V),d.toList[i]?=J f->a[i]?=J y->WP P n f.type y
  |some (.array m e)=>∃a,x=.agg (flat a)/\I a=m/\∀y∈a,WP P n e y
  |_=>False
def RdC(w:Z3)(G:Z4)(cs:List V)(vs:Zp):Prop:=
 I vs=I cs/\∀(i:Nat) (c:V),cs[i]?=J c->c.one=xk/\∃u,vs[i]?=J u/\Rd w G c u
def RdC.nil{w G}:RdC w G [] []:=⟨rfl,λi c h=>ZeD⟩
def RdC.append{w G cs d vs f}(h:RdC w G cs vs)(h':RdC w G d f):RdC w G (cs++d)<|vs++f:=by
 refine⟨by simp[h.1,h'.1],λi c g=> ?_⟩;rw[List.getElem?_append]at g⊢;rw[h.1];split at g;rename_i a;rw[Zfc a];exact h.2 i c g;rename_i a;rw[Zf7 a];exact h'.2 _ c g
theorem RdC.one{w G c v}(a:c.one=xk)(h:Rd w G c v):RdC w G [c] [v]:=
 ⟨rfl,λi x d=>by
  grind⟩
def LZ{α:Type}{Q:Nat->α->Prop}:∀n,(∀i,i<n->∃y,Q i y)->∃l:List α,I l=n/\∀i y,l[i]?=J y->Q i y
 |0,_=>Z1
 |n+1,h=>by
  let⟨l,d,f⟩:=LZ n λi o=>h i Z0;let⟨y,j⟩:=h n Z0;refine⟨l++[y],by simp[d],λi z a=> ?_⟩;rw[List.getElem?_append]at a;split at a;exact f i z a;rename_i g;rw[List.getElem?_singleton]at a;split at a;rename_i k;have:i=n:=Z0;subst this;simp[ZeV]at a;subst a;exact j;cases a
def jL{w:Z3}{b a n cs}(h:w.cells? b a n=J cs):I cs=n/\∀i,i<n->w.cell? (a.add i)=cs[i]? :=by
 unfold World.cells? at h;split at h;have d:=mapM_some_length h;rw[List.length_range]at d;refine⟨d,λi f=>mapM_some_get h i i ?_⟩;simp_all;cases h
def Z1F{w:Z3}{a v}(h:w.cell? a=J v):a.block<xz (xj w):=by
 grind [World.cell?]
def Cm{w G}:∀ {ys} {a:List (List Value)},I a=I ys->(∀(i:Nat) y vs,ys[i]?=J y->a[i]?=J vs->RdC w G y.cells vs)->RdC w G (flat ys) a.flatten
 | [],[],_,_=>by simpa using RdC.nil
 | [],_::_,h,_=>ZeD
 |_::_,[],h,_=>ZeD
 |y::ys,vs::a,h,d=>by
  exact(d 0 y vs rfl rfl).append (Cm Ze2 λi z f j g=>d (i+1) z f Ze2 Ze2)
def FV{P n}{cs:Zp}:∀ {l} {o:Nat},Kb P n l o=xk->o<=n/\(I cs=n->cs.drop o=(l.map λf=>(cs.drop f.offset).take<|P.cellsOf f.type).flatten)
 | [],o,h=>by
   simp_all[Kb,ZfN]
 |f::l,o,h=>by
  simp[Kb,ZfN]at h;let⟨d,a⟩:=h;let⟨g,j⟩:=FV (cs:=cs) a;refine⟨Z0,λk=> ?_⟩;grind [List.drop_drop,List.take_append_drop]
def Z0Q{cs:Zp}{k}:∀ {m},I cs=m*k->cs=((List.range m).map λi=>(cs.drop<|i*k).take k).flatten:=by
 have:∀m (cs:Zp),cs.take (m*k)=((List.range m).map λi=>(cs.drop<|i*k).take k).flatten:=by
  intro m;induction m with
  |zero=>simp
  |succ m d=>
   simp_all[Zig,Zgf,List.flatten_append,Zgh,List.take_add]
 intro m h;have a:=this m cs;grind
section
abbrev Zs:=Nat->Bool
variable {H:Type}{enc:TypeId×Value->H}{P:Z6}{w:Z3}{spare:Zs}{held:Bool}
def qd:∀ {n} {t:Zf} {C:Nat} {cs:Zp} {d:DataW H×List MemPlace},TZ P n t=xk->DataW.trod enc P w 0 spare held C t cs=J d->
  ∃x,WP P n t x/\RdC w (λb=>b<xz (xj w)) x.cells cs
 |0,t,C,cs,d,L,h=>by cases L
 |n+1,t,C,cs,d,L,h=>by
  unfold TZ at L;unfold WP;split at L;rename_i N;obtain⟨b,rfl,_⟩:=DataW.trod_bool N h;exact⟨.bool b,⟨b,rfl⟩,.one rfl<|.bool b⟩;rename_i k N;obtain⟨m,rfl,_,hw⟩:=DataW.trod_int N h;exact⟨.int k m,Ze3,.one rfl<|.int k m⟩;rename_i N;obtain⟨s,rfl,_,hw⟩:=DataW.trod_string N h;exact⟨.str s,Ze3,.one rfl<|.str s⟩;rename_i e N;simp only[ZeZ,Zfp]at L;let⟨M,A⟩:=L;obtain⟨rfl,_⟩|⟨a,len,cap,a8,b3,m,_,rfl,_,_,b5,a4,b4,D,_⟩:=DataW.trod_slice N h;exact⟨.sl [],Z1,.one rfl<|.nil _ _ Z0⟩;have F:∀i,i<len->∃y,WP P n e y/\∃vs,w.cells? 0 (a.add<|i*P.cellsOf e) (P.cellsOf e)=J vs/\RdC w (λb=>b<xz (xj w)) y.cells vs:=by
   intro i g;have p:=D i g;rw[ZeX Z0]at p;simp only[ZeU]at p;let⟨vs,S,B⟩:=p;let⟨y,r,T⟩:=qd M B;exact⟨y,r,vs,S,T⟩
  let⟨l,b1,a1⟩:=LZ len F;have b6:∀y∈l,WP P n e y:=λy r=>by
   let⟨i,g⟩:=Zfj r;exact(a1 i y g).1
  refine⟨.sl l,Ze2,.one rfl ?_⟩;cases a5:len with
  |zero=>
   have:l=[]:=Ze3;subst this;exact .nil _ _ a4
  |succ b2=>
   let⟨b,o,a0⟩:=a;have a2:a0=U:=by
    let⟨y,_,vs,O,_⟩:=F 0 Z0;let⟨p,S⟩:=jL O;have B:=S 0 A;rw[ZeX Z0]at B;have h4:=World.cell?_spot B;obtain _|s:=a0;rfl;simp[Addr.add]at h4
   subst a2;have z:∀(i j:Nat) (y:V),l[i]?=J y->j<P.cellsOf e->∃(u:Zc),w.cell? ⟨b,o+(i*P.cellsOf e+j),U⟩=J u/\∃c,y.cells[j]?=J c/\c.one=xk/\Rd w (λb=>b<xz (xj w)) c u:=by
    intro i j y r Z;let⟨_,vs,O,T⟩:=a1 i y r;let⟨p,S⟩:=jL O;have B:=S j Z;rw[ZgD,ZgD,ZeX Z0]at B;have b7:j<I y.cells:=by rw[<-T.1];omega
    let⟨q1,u,q2,q3⟩:=T.2 j y.cells[j] Z1;rw[ZeX Z0,ZeV]at q2;subst q2;exact⟨_,by rw[<-Zg3];exact B,_,Z1,q1,q3⟩
   have K:∀y∈l,y.ay<|P.cellsOf e:=λy r=>by
    let⟨i,g⟩:=Zfj r;let⟨_,vs,O,T⟩:=a1 i y g;refine⟨by rw[<-T.1,(jL O).1],λc hc=> ?_⟩;let⟨j,Z⟩:=Zfj hc;exact(T.2 j c Z).1
   have Y:∀i,i<I l*P.cellsOf e->∃y,l[i / P.cellsOf e]?=J y/\i%P.cellsOf e<P.cellsOf e/\i=i / P.cellsOf e*P.cellsOf e+i%P.cellsOf e:=by
    intro i g;have p:=(ZiV A).2 g;exact⟨_,ZeX p,ZiX _ A,by rw[Nat.mul_comm];exact(Nat.div_add_mod _ _).symm⟩
   have hb:b<xz (xj w):=by
    obtain⟨y,r⟩:∃y,l[0]?=J y:=⟨_,ZeX Z0⟩;let⟨u,hu,_⟩:=z 0 0 y r A;exact Z1F hu
   have a6:=Rd.sl (w:=w) (G:=λb=>b<xz (xj w)) l b o cap (P.cellsOf e) (λi=>(w.cell? ⟨b,o+i,U⟩).getD xy) Z0 a4 hb K (λi g=> ?_) (λi c g=> ?_);rw[b1,a5]at a6;exact a6;let⟨y,p,S,B⟩:=Y i g;let⟨u,hu,_⟩:=z _ _ y p S;rw[<-B]at hu;rw[hu];rfl;have b0:i<I l*P.cellsOf e:=by
    rw[<-TJ K];exact(ZeW.1 g).1
   let⟨y,p,S,B⟩:=Y i b0;let⟨u,hu,c',a9,_,T⟩:=z _ _ y p S;rw[<-B]at hu;rw[B,Vx K p _ S,a9]at g;cases g;simp only[hu,Zfv];exact T
  rename_i fs N;simp only[ZeZ,Zfb]at L;let⟨M,A⟩:=L;let⟨xs,m,_,_,a3,a7,D⟩:=DataW.trod_struct N h
  let⟨ys,R,W⟩:=LZ (Q:=λi y=>∀f,fs.toList[i]?=J f->WP P n f.type y/\RdC w (λb=>b<xz (xj w)) y.cells ((cs.drop f.offset).take<|P.cellsOf f.type)) (I fs.toList) (by
   intro i g;have hf:fs.toList[i]?=J fs.toList[i]:=Z1;have p:=D i fs.toList[i] Z1;rw[ZeX (by rw[a7];exact g)]at p;let⟨y,r,T⟩:=qd (A _<|Zfr g) p;exact⟨y,Ze2⟩)
  refine⟨.agg<|flat ys,⟨ys,rfl,R,λi f y hf r=>Ze2⟩,?_⟩;have X:=(FV (cs:=cs) M).2 a3;rw[List.drop_zero]at X;rw[X];refine Cm (by simp[R]) λi y vs r O=> ?_;rw[Zfo,ZeY]at O;obtain⟨f,hf,rfl⟩:=O;exact(W i y r f hf).2;rename_i m e N;simp only[ZeZ,ZfN]at L;let⟨M,A⟩:=L;let⟨xs,q,_,_,a3,a7,D⟩:=DataW.trod_array N h
  let⟨ys,R,W⟩:=LZ (Q:=λi y=>WP P n e y/\RdC w (λb=>b<xz (xj w)) y.cells ((cs.drop<|i*P.cellsOf e).take<|P.cellsOf e)) m (by
   intro i g;have p:=D i g;rw[ZeX Z0]at p;exact qd M p)
  refine⟨.agg<|flat ys,⟨ys,rfl,R,λy r=> ?_⟩,?_⟩;let⟨i,g⟩:=Zfj r;exact(W i y g).1;rw[Z0Q (cs:=cs) (k:=P.cellsOf e) (m:=m) Z0];refine Cm (by simp[R]) λi y vs r O=> ?_;rw[Zfo,ZeY]at O;obtain⟨j,Z,rfl⟩:=O;have:j=i:=by
   rw[ZeW]at Z;let⟨_,Z⟩:=Z;simpa using Z.symm
  subst this;exact(W j y r).2;cases L
def Z7c{n t v d F r D}(j:TZ P n t=xk)(a:Value.okWide P w r D t v)(h:DataW.Trod enc P w 0 spare held t v d F):
  ∃x,WP P n t x/\Rd w (λb=>b<xz (xj w)) x v:=by
 let⟨B,h⟩:=h;let⟨x,g,l⟩:=qd j h;refine⟨x,g,?_⟩;have o:∀ {c},x=c->c.cells=[c]->v.cells.toList=[v]->Rd w (λb=>b<xz (xj w)) x v:=by
  intro c y q A;subst y;rw[q,A]at l;let⟨_,u,p,C⟩:=l.2 0 x rfl;simp at p;subst p;exact C
 have K:∀ {cs} {vs:Za},x=.agg cs->v=.agg vs->Rd w (λb=>b<xz (xj w)) x v:=by
  intro cs vs y A;subst y A;refine .agg cs vs (by have:=l.1;simpa[Value.cells]using this) (λc q=> ?_) λi c z=> ?_;let⟨i,z⟩:=Zfj q;exact(l.2 i c z).1;let⟨_,u,p,C⟩:=l.2 i c z;have:vs.getD i xy=u:=by
   have G:vs[i]?=J u:=by simpa[Value.cells]using p
   simp[G]
  grind
 cases n with
 |zero=>cases j
 |succ n=>
  unfold TZ at j;unfold WP at g;split at j;rename_i f;rw[f]at g;obtain⟨b,rfl⟩:=g;obtain⟨c,rfl⟩:=okWide_bool f a;exact o rfl rfl rfl;rename_i k f;rw[f]at g;obtain⟨b,rfl,_⟩:=g;obtain⟨c,rfl⟩:=okWide_int f a;exact o rfl rfl rfl;rename_i f;rw[f]at g;obtain⟨b,rfl,_⟩:=g;obtain⟨c,rfl⟩:=okWide_string f a;exact o rfl rfl rfl;rename_i e f;rw[f]at g;obtain⟨b,rfl,_⟩:=g;obtain⟨c,_,_,rfl⟩:=okWide_slice f a;exact o rfl rfl rfl;rename_i H f;rw[f]at g;simp[Value.okWide]at a;grind;rename_i m e f;rw[f]at g;simp[Value.okWide]at a;grind;cases j
def Nj{n r F}:∀ {ts} {vs:Zp} {l:List (DataW H)} {z:List MemPlace},DataW.TrodAll enc P w 0 spare held ts vs l z->(∀t∈ts,TZ P n t=xk)->
  (∀(j:Nat) t v,ts[j]?=J t->vs[j]?=J v->Value.okWide P w r F t v)->
  ∃k:List V,I k=I vs/\I vs=I ts/\I l=I ts/\(∀(i:Nat) t x,ts[i]?=J t->k[i]?=J x->WP P n t x)/\∀(i:Nat) x v,k[i]?=J x->vs[i]?=J v->Rd w (λb=>b<xz (xj w)) x v
 | [],vs,l,z,h,_,_=>by
   obtain⟨rfl,rfl,rfl⟩:=trodAll_nil h;simp
 |t::ts,vs,l,z,h,D,a=>by
  obtain⟨v,S,d,G,p,q,rfl,rfl,rfl,K,L⟩:=trodAll_cons h;let⟨x,u,y⟩:=Z7c (D t Z1) (a 0 t v rfl rfl) K;let⟨k,M,N,R,O,Q⟩:=Nj L (λt g=>D t<|by simp[g]) λj A B g o=>a (j+1) A B Ze2 Ze2;refine⟨x::k,by simp[M],by simp[N],by simp[R],λi A C g f=> ?_,λi C B f o=> ?_⟩;cases i with
  |zero=>simp at g f;subst g f;exact u
  |succ i=>exact O i A C Ze2 Zek
  cases i with
  |zero=>simp at o f;subst o f;exact y
  |succ i=>exact Q i C B Zek Ze2
def ER{W W'}(k:laidOutB P=xk)(g:Below (xz<|xj W) W W'):∀ {ts} {vs:Zp} {f:List (DataW H)} {a:List MemPlace},DataW.TrodAll enc P W 0 (λ_=>xk) xk ts vs f a->
  (∀t∈ts,P.readableRec t=xk/\t<P.types.size)->(∀x∈a,x.block<xz (xj W))->DataW.TrodAll enc P W' 0 (λb=>decide (b<xz (xj W))) xk ts vs f a
 | [],vs,f,a,h,_,_=>by
   obtain⟨rfl,rfl,rfl⟩:=trodAll_nil h;rfl
 |t::ts,vs,f,a,h,j,r=>by
  obtain⟨v,w,d,l,p,q,rfl,rfl,rfl,n,o⟩:=trodAll_cons h;exact trodAll_cons_mk (Below.trod k (j t Z1).1 (j t Z1).2 n g λx u=>Ze3) (ER k g o Ze3 λx u=>Ze3)
end
def Z4d{P} [Lg P]{f fn}{s:ChangeSpec}{tb}n(S:laidOutB P=xk)(C:(fn.params.toList.all λt=>TZ P n t)=xk)(k:(fn.params.toList.all λt=>P.readableRec t&&decide (t<P.types.size))=xk)
  (a:s.vars=[]) (u:fn.resultTypes=#[tb]) (O:P.underlying tb=J .bool)
  (h:∀H ds,I ds=I fn.params.toList->s.fn H ds= {results:=[.lit<|.bool xk],args:=ds})
  (o:∀y,I y=I fn.params.toList->(∀(i:Nat) t x,fn.params.toList[i]?=J t->y[i]?=J x->WP P n t x)->VC P f xw y (.bool xk))
  H enc W base args (ds gs:List<|DataW H) d
  (w:∀(j:Nat) t v,fn.params[j]?=J t->args[j]?=J v->Value.okWide P W .any base t v)
  (A:DataW.Whole enc P fn.params.toList s.vars xw W args.toList ds gs d):
  Lg.kx P f args W λe G=>∃v,e=.returned v/\s.post enc P fn xw xk xw xw W args v G:=by
 have r:=λx z=>by simpa using A.lt x z
 have l:=A;obtain⟨p,q,K,L,rfl,_,_⟩:=A;rw[a]at L;obtain⟨rfl,rfl⟩:=trodVars_none L;rw[Zhv]at r l;let⟨y,N,T,q5,X,Y⟩:=Nj (n:=n) K (Zfb.1 C) λj t v M Z=>w j t v Ze2 Ze2;let⟨_,F⟩:=o y (by rw[N,T]) X;refine Lg.dt (F W (λb=>b<xz (xj W)) args Z0 Ze2 λi x z=> ?_) λe G Q=> ?_;have R:i<I args.toList:=by rw[<-N];exact(ZeW.1 z).1
 have:args.getD i xy=args.toList[i]:=by
  have B:i<args.size:=by simpa using R
  simp[Zf1,B]
 rw[this];exact Y i x _ z Z1;obtain⟨v,rfl,g,D⟩:=Q;cases D;refine⟨_,rfl,ds,[],p,[],p,[],l,?_,?_,?_,g.frame _,Z1⟩;rw[h H _ Ze2,u];exact trodAll_mk1<|shut_bool O xk;rw[h H _ Ze2,Zhv];exact ER S g K (λt M=>by simpa using Zfb.1 k t M) r;rw[a,h H _ Ze2];rfl
def Ox{P n t x k}(d:P.underlying t=J (.int k))(h:WP P (n+1) t x):∃m,x=.int k m/\k.min<=m/\m<=k.max:=by
 unfold WP at h;rw[d]at h;obtain⟨m,rfl,a⟩:=h;simp[Lit.wf,Zfp]at a;exact⟨m,rfl,a⟩
end
end Vm
end
section
namespace Vm
open Go Go.Proofs
section
def VJ(s:St):List (Nat×SV)->St
 | []=>s
 |(i,x)::l=>VJ (Yu s i x) l
@[simp]theorem Zde(s:St):VJ s []=s:=rfl
@[simp]theorem Zdd(s:St)(i:Nat)(x:SV)(l:List<|Nat×SV):VJ s ((i,x)::l)=VJ (Yu s i x) l:=rfl
section
variable {P:Z6}[Lg P]{K K':St->Prop}
def Pa(d:∀s,K s->K' s){t:St}:∀ {l:List (Nat×OV)} {u:St},VQ l t u K->VQ l t u K'
 | [],_,h=>d _ h
 | (i,o)::l,u,h=>by
   simp only[VQ]at h⊢;split;rename_i x a;rw[a]at h;exact Pa d h;rename_i a;rw[a]at h;exact h
def Re(g:∀s,K s->K' s):∀ {l:List EF} {s:St},YC P l s K->YC P l s K'
 | [],_,h=>g _ h
 | .lt i C e::l,s,h=>by
   simp only[YC]at h⊢;split;rename_i a;rw[Zfc a]at h;split;rename_i x d;rw[d]at h;exact Re g h;rename_i d;rw[d]at h;exact h;rename_i a;rw[Zf7 a]at h;exact Re g h
 | .call i C f u fl t::l,s,h=>by
   simp only[YC]at h⊢;split;rename_i a;rw[Zfc a]at h;split;rename_i x n d k;rw[d,k]at h;obtain⟨r,j,o,p⟩:=h;exact⟨r,j,o,Re g p⟩;rename_i q;split at h;rename_i x n d k;exact(q x n d k).elim;exact h;rename_i a;rw[Zf7 a]at h;exact Re g h
 | .cm i C f w t::l,s,h=>by
   simp only[YC]at h⊢;split;rename_i a;rw[Zfc a]at h;split;rename_i x n d k;rw[d,k]at h;obtain⟨r,j,p⟩:=h;exact⟨r,j,Re g p⟩;rename_i d;split at h;rename_i x n j o;exact(d x n j o).elim;exact h;rename_i a;rw[Zf7 a]at h;split at h;exact Re g h;exact Re g h;exact h.elim
def Rg:∀ {a:Stm} {s:St} {N p R q:St->Prop} {X u:Nat->St->Prop},Ym P a s N X R->(∀s,N s->p s)->(∀i s,X i s->u i s)->(∀s,R s->q s)->Ym P a s p u q
 |.ax r,s,_,_,_,_,_,_,h,d,_,_=>Re (λt j=>⟨j.1,Pa d j.2⟩) h
 |.skip,s,_,_,_,_,_,_,h,d,_,_=>d _ h
 |.seq a b,s,_,_,_,_,_,_,h,d,g,f=>Rg (a:=a) (s:=s) h (λt j=>Rg (a:=b) (s:=t) j d g f) g f
 | .cond c a b,s,_,_,_,_,_,_,h,d,g,f=>by
   simp only[Ym]at h⊢;split;rename_i k;rw[k]at h;exact Rg h d g f;rename_i k;rw[k]at h;exact Rg h d g f;rename_i l n;split at h;rename_i k;exact(l k).elim;rename_i k;exact(n k).elim;exact h
 | .block id a,s,_,_,_,_,_,_,h,d,g,f=>Rg (a:=a) (s:=s) h d (λi t j=>by
   split;rename_i o;rw[Zfc o]at j;exact d _ j;rename_i o;rw[Zf7 o]at j;exact g _ _ j) f
 | .loop w a,s,_,_,_,_,_,_,h,d,g,f=>by
   obtain⟨I,m,l,n⟩:=h;exact⟨I,m,l,λt j=>Rg (a:=a) (s:=t) (n t j) (λ_ h=>h) g f⟩
 |.exit id,s,_,_,_,_,_,_,h,_,g,_=>g _ _ h
 |.ret,s,_,_,_,_,_,_,h,_,_,f=>f _ h
end
def Rf{P:Z6} [Lg P]{keep:Zb}{a:Stm}{s:St}{N R:St->Prop}{X:Nat->St->Prop}{ι:Type}(L:ι->List (Nat×SV))(Inv:ι->Prop)(m:St->Nat)(d:ι)
  (g:YO keep s=VJ (YO keep s) (L d)) (k:Inv d)
  (j:∀p,Inv p->Ym P a (VJ (YO keep s)<|L p) (λf=>∃q,Inv q/\YO keep f=VJ (YO keep s) (L q)/\m (VJ (YO keep s)<|L q)<m (VJ (YO keep s)<|L p)) X R):
  Ym P (.loop keep a) s N X R:=by
 refine⟨λt=>∃p,Inv p/\t=VJ (YO keep s) (L p),m,⟨d,k,g⟩,?_⟩;rintro t ⟨p,o,rfl⟩;refine Rg (j p o) (λf u=> ?_) (λ_ _ h=>h) (λ_ h=>h);obtain⟨q,r,l,n⟩:=u;rw[l];exact⟨⟨q,r,rfl⟩,n⟩
def XB(c:Nat)(n:Nat)(t:St):Nat:=match get t c with|.v (.int _ k)=>n-k.toNat|_=>0
def Tz{P:Z6} [Lg P]{keep:Zb}{a:Stm}{s:St}{N R:St->Prop}{X:Nat->St->Prop}(c n:Nat)(L:Nat->List (Nat×SV))(Inv:Z4)
  (g:YO keep s=VJ (YO keep s) (L 0)) (hc:∀i,get (VJ (YO keep s)<|L i) c=.v (vi i)) (k:Inv 0)
  (j:∀i,i<=n->Inv i->Ym P a (VJ (YO keep s)<|L i) (λf=>i<n/\Inv (i+1)/\YO keep f=VJ (YO keep s) (L<|i+1)) X R):
  Ym P (.loop keep a) s N X R:=by
 refine Rf L (λi=>i<=n/\Inv i) (XB c n) 0 g ⟨Z0,k⟩ ?_;rintro i ⟨o,q⟩;refine Rg (j i o q) (λf p=> ?_) (λ_ _ h=>h) (λ_ h=>h);obtain⟨h,d,l⟩:=p;refine⟨i+1,⟨Z0,d⟩,l,?_⟩;simp only[XB,hc];simp;omega
def qY{P:Z6} [Lg P]{keep:Zb}{a:Stm}{s:St}{N R:St->Prop}{X:Nat->St->Prop}(c n:Nat)(Inv:Z4)
  (d:YO keep s=Yu (YO keep s) c (.v<|vi 0)) (hc:∀x,get (Yu (YO keep s) c x) c=x) (g:Inv 0)
  (f:∀i,i<=n->Inv i->Ym P a (Yu (YO keep s) c<|.v<|vi i) (λh=>i<n/\Inv (i+1)/\YO keep h=Yu (YO keep s) c (.v<|vi<|i+1)) X R):
  Ym P (.loop keep a) s N X R:=
 Tz c n (λi=>[(c,.v<|vi i)]) Inv d (λi=>hc _) g f
end
def yL:Fn:=⟨4,[0,2,3,9],pQ [pR [pV 1<|pU 0,pV 2<|pI 0],pQ [.ax ⟨[.lt 4 []<|pl (.s 0)<|pU 1],[([(4,xw)],pj (.s 0)<|pU 9223372036854775807)],[pV 3<|.ite (.s 4) pT<|pj (.s 0)<|pU 9223372036854775807]⟩]<|pw (.s 3)<|px [pV 1<|pU 0,pV 2<|pI 1]]<|px [pV 1<|pa (pm (pU 2)<|.s 0)<|pU 1,pV 2<|pI 0],[(1,.v),(2,.v)]⟩
def c30:xQ [.fz] Try.f30=J yL:=Z2
def KR:Fn:=⟨5,[0,2,3,5,12],pQ [pR [pV 1<|pU 0,pV 2<|pI 0],pi 3 (pe (.s 0)<|pU 0)<|px [pV 1<|pU 0,pV 2<|pI 6],pQ [.ax ⟨[.lt 5 []<|pe (.bu .rem (.s 0)<|pU 2)<|pU 0],[([(5,xw)],pe (.s 0)<|pU 1)],[pV 4<|.ite (.s 5) pT<|pe (.s 0)<|pU 1]⟩]<|pw (.s 4)<|px [pV 1<|pU 0,pV 2<|pI 3]]<|px [pV 1<|.bu .quo (.s 0)<|pU 2,pV 2<|pI 0],[(1,.v),(2,.v)]⟩
def c38:xQ [.fz] Try.f38=J KR:=Z2
def Ma:Fn:=⟨3,[0,1,2],pQ [pR [(1,pS 0 2),pV 2 pF],.ax ⟨[.lt 3 []<|pg (.m 1 0)<|pI 0,.lt 4 []<|.ite (.s 3) (pL (.m 1 0)<|pI 255) pF,.lt 5 []<|.ite (.s 4) (pg (.m 1 1)<|pI 0) pF],[([(3,xk)],pL (.m 1 0)<|pI 255),([(4,xk)],pg (.m 1 1)<|pI 0),([(5,xk)],pL (.m 1 1)<|.m 1 0)],[pV 2<|.ite (.s 5) (pL (.m 1 1)<|.m 1 0) pF]⟩] .ret,[(2,.v)]⟩
def c41:xQ [.fz] Try.f41=J Ma:=Z2
def Mk:Fn:=⟨5,[0,2,3,4,20],pQ [pR [(1,.m [pI 0,pI 0]),pV 2<|pI 0],pR [(3,pM (.ag [.conv .i64<|.bu .rem (.bu .shr (.s 0)<|pU 1)<|pU 65536,.conv .i64<|.bu .shr (.s 0)<|pU 17]) 2)],pQ [.ax ⟨[.lt 5 []<|pn (.bu .rem (.s 0)<|pU 2)<|pU 0,.call 6 [(5,xw)] (.id 41) xw xw [.mm 3 0 2]],[([(5,xw)],.un .not<|.s 6)],[pV 4<|.ite (.s 5) pT<|.un .not<|.s 6]⟩]<|pw (.s 4)<|px [(1,pM (.ag [pI 0,pI 0]) 2),pV 2<|pI 3]]<|px [(1,pM (.mm 3 0 2) 2),pV 2<|pI 0],[(1,(.ag 2)),(2,.v)]⟩
def c57:xQ [.fz] Try.f57=J Mk:=Z2
def YI(n:Int):Prop:= -9223372036854775808<=n/\n<=9223372036854775807
def ZA(n:Int):Prop:=0<=n/\n<18446744073709551616
def Yn(n:Int)(a:0<=n)(h2:n<=18446744073709551615):IntKind.u64.wrap n=n:=by
 rw[IntKind.wrap_u64];omega
def Vf{α:Type}{l:List α}{i:Nat}{x:α}(h:l[i]?=J x):∀a:i<I l,l[i]'a=x:=λa=>by
 rw[ZeX a]at h;exact ZgC h
def Yq(size ptrs:Int):Bool:=decide (0<=size)&&decide (size<=255)&&decide (0<=ptrs)&&decide (ptrs<=size)
theorem YH{s p:Int}:Yq s p=xk↔0<=s/\s<=255/\0<=p/\p<=s:=by simp[Yq,and_assoc]
abbrev WM(s p:Int):V:=.agg [vi s,vi p]
def Cr{s p:Int}:VC xP 41 xw [WM s p]<|.bool<|Yq s p:=by
 refine Y4 Eb follows Z2 c41 rfl ?_;by_cases a:0<=s<;>by_cases d:s<=255<;>by_cases f:0<=p<;>by_cases g:p<=s<;>simp[Ma,Yq,a,d,f,g]
def adr(w:Int):Int×Int:=if w=0 then(0,6)else if w%2=0\/w=1 then(0,3)else(w / 2,0)
def JI{w:Int}(l:ZA w):VC xP 38 xw [vu w]<|.ak [vu (adr w).1,vi (adr w).2]:=by
 refine Y4 Ea follows Z2 c38 rfl ?_;obtain⟨f,n⟩:=l;have d:w.tmod 2=w%2:=Zgu f;have j:w.tdiv 2=w / 2:=Int.tdiv_eq_ediv_of_nonneg f;have k:=Yn (w / 2) Z0 Z0;by_cases a:w=0;simp[KR,adr,a];by_cases g:w%2=0;simp[KR,adr,a,d,g];by_cases h:w=1;subst h;simp[KR,adr];simp[KR,adr,a,d,j,g,h,k]
def V9(a:Int):Int×Int:=if a<1\/9223372036854775807<a then(0,1)else(2*a+1,0)
def Z6M{a:Int}(j:ZA a):VC xP 30 xw [vu a]<|.ak [vu (V9 a).1,vi (V9 a).2]:=by
 refine Y4 E6 follows Z2 c30 rfl ?_;obtain⟨k,l⟩:=j;by_cases d:a<1;simp[yL,V9,d];by_cases f:9223372036854775807<a;simp[yL,V9,d,f];have g:=Yn (2*a) Z0 Z0;have h:=Yn (2*a+1) Z0 Z0;simp[yL,V9,d,f,g,h]
def X5(s p:Int):Int×Int:=if Yq s p then(2*(s+65536*p),0)else(0,1)
def ZN(w:Int):Int×Int×Int:=if w%2=0/\Yq (w / 2%65536) (w / 131072)=xk then(w / 2%65536,w / 131072,0)else(0,0,3)
def OC{w:Int}(l:ZA w):VC xP 57 xw [vu w]<|.ak [WM (ZN w).1 (ZN w).2.1,vi (ZN w).2.2]:=by
 refine Y4 Eh follows Z2 c57 rfl ?_;obtain⟨k,r⟩:=l;have p:w.fdiv (2 ^ min 1 IntKind.u64.bits)=w / 2:=by
  rw[show(2:Int) ^ min 1 IntKind.u64.bits=2 by decide];exact Zik _ Z0
 have q:w.fdiv (2 ^ min 17 IntKind.u64.bits)=w / 131072:=by
  rw[show(2:Int) ^ min 17 IntKind.u64.bits=131072 by decide];exact Zik _ Z0
 have n:=Yn (w / 2) Z0 Z0;have o:=Yn (w / 131072) Z0 Z0;have f:w.tmod 2=w%2:=Zgu k;have g:(w / 2).tmod 65536=w / 2%65536:=Zgu Z0;have h:=ZB (w / 2%65536) Z0 Z0;have j:=ZB (w / 131072) Z0 Z0;simp[Mk,YX,p,q,f,g,h,j,n,o];by_cases a:w%2=0;simp[a];refine ZC Cr Z1 ?_;cases d:Yq (w / 2%65536)<|w / 131072;simp[ZN,a,d];simp[ZN,a,d];simp[a,ZN]
def M4:Fn:=⟨10,[0,1,2,3,4,5,9,17,6,33],pQ [pR [(2,pS 0 7),(3,pS 1 2),pV 4<|pU 0,pV 5<|pI 0],pQ [pC [pK 10 44 [.mm 2 0 7]] [pV 6<|.un .not<|.s 10]]<|pw (.s 6)<|px [pV 4<|pU 0,pV 5<|pI 1],pQ [.ax ⟨[.lt 11 []<|pl (.m 3 0)<|pI 1],[([(11,xw)],pj (.m 3 0)<|pI 4)],[pV 7<|.ite (.s 11) pT<|pj (.m 3 0)<|pI 4]⟩]<|pw (.s 7)<|px [pV 4<|pU 0,pV 5<|pI 6],pC [pK 12 45 [.mm 2 0 7]] [(8,pM (.sz (.ai (.s 12) (pb (.m 3 0)<|pI 1) 4 2 xk) 2) 2)],pQ [.ax ⟨[.lt 13 []<|pl (.m 3 1)<|pI 0],[([(13,xw)],pg (.m 3 1)<|.m 8 1)],[pV 9<|.ite (.s 13) pT<|pg (.m 3 1)<|.m 8 1]⟩]<|pw (.s 9)<|px [pV 4<|pU 0,pV 5<|pI 6]]<|px [pV 4<|pa (.m 8 0)<|.conv .u64<|.m 3 1,pV 5<|pI 0],[(4,.v),(5,.v)]⟩
def c28:xQ [.fz,.fz] Try.f28=J M4:=Z2
def Mb:Fn:=⟨4,[0,1,2,25],pQ [pR [(1,pS 0 7),pV 2 pF],pQ [.ax ⟨[.lt 4 []<|pl (.m 1 1)<|pI 0,.lt 5 []<|.ite (.s 4) pT<|pj (.m 1 1)<|pI 4096,.lt 6 []<|.ite (.s 5) pT<|pl (.m 1 0)<|pU 1],[([(4,xw)],pj (.m 1 1)<|pI 4096),([(5,xw)],pl (.m 1 0)<|pU 1),([(6,xw)],pj (.m 1 0)<|pb (pU 9223372036854775808)<|pm (pU 2)<|.conv .u64<|.m 1 1)],[pV 3<|.ite (.s 6) pT<|pj (.m 1 0)<|pb (pU 9223372036854775808)<|pm (pU 2)<|.conv .u64<|.m 1 1]⟩]<|pw (.s 3)<|px [pV 2 pF],.ax ⟨[.lt 7 []<|pe (.m 1 2)<|pI 0,.lt 8 []<|.ite (.s 7) pT<|pe (.m 1 2)<|pI 1,.call 9 [(8,xk)] (.id 64) xw xw [.m 1 3,.m 1 4,.m 1 1],.lt 10 []<|.ite (.s 8) (.s 9) pF,.call 11 [(10,xk)] (.id 64) xw xw [.m 1 5,.m 1 6,.m 1 1]],[([(7,xw)],pe (.m 1 2)<|pI 1)],[pV 2<|.ite (.s 10) (.s 11) pF]⟩] .ret,[(2,.v)]⟩
def c44:xQ [.fz] Try.f44=J Mb:=Z2
def Mc:Fn:=⟨3,[0,1,2],pQ [pR [(1,pS 0 7),(2,.m [pU 0,pI 0,pU 0,pI 0,pU 0,pI 0,pU 0,pI 0])],pC [pK 3 65 [.mm 1 0 7,pI 1],pK 4 65 [.mm 1 0 7,pI 2],pK 5 65 [.mm 1 0 7,pI 3],pK 6 65 [.mm 1 0 7,pI 4]] [(2,pM (.ag [.ae (.ag [.one<|.s 3,.m 1 3]) 0,.ae (.ag [.one<|.s 3,.m 1 3]) 1,.ae (.ag [.one<|.s 4,.m 1 4]) 0,.ae (.ag [.one<|.s 4,.m 1 4]) 1,.ae (.ag [.one<|.s 5,.m 1 5]) 0,.ae (.ag [.one<|.s 5,.m 1 5]) 1,.ae (.ag [.one<|.s 6,.m 1 6]) 0,.ae (.ag [.one<|.s 6,.m 1 6]) 1]) 8)]] .ret,[(2,(.ag 8))]⟩
def c45:xQ [.fz] Try.f45=J Mc:=Z2
def Mj:Fn:=⟨12,[0,1,2,4,5,10,14,15,7,6,13,31],pQ [pR [(2,pS 0 7),(3,.m [pI 0,pI 0]),pV 4<|pI 0],pQ [pC [pK 12 44 [.mm 2 0 7]] [pV 5<|.un .not<|.s 12]]<|pw (.s 5)<|px [(3,pM (.ag [pI 0,pI 0]) 2),pV 4<|pI 1],pQ [pC [pK 10 45 [.mm 2 0 7]] [pV 6<|pI 0]]<|po [0,1,2,3,4,5,6,10] 7 (pl (.s 6)<|pI 4) (pQ [pR [(8,pM (.sz (.ai (.s 10) (.s 6) 4 2 xk) 2) 2),pV 9<|.s 6],.ax ⟨[.lt 13 []<|pg (.s 1)<|.m 8 0],[([(13,xk)],pl (pb (.s 1)<|.m 8 0)<|.conv .u64<|.m 8 1)],[pV 11<|.ite (.s 13) (pl (pb (.s 1)<|.m 8 0)<|.conv .u64<|.m 8 1) pF]⟩]<|pw (.s 11)<|px [(3,pM (.ag [pa (.s 9)<|pI 1,.conv .i64<|pb (.s 1)<|.m 8 0]) 2),pV 4<|pI 0])<|pc 6]<|px [(3,pM (.ag [pI 0,pI 0]) 2),pV 4<|pI 6],[(3,(.ag 2)),(4,.v)]⟩
def c55:xQ [.fz,.fz] Try.f55=J Mj:=Z2
def Ml:Fn:=⟨4,[0,1,2,5],pQ [pR [(1,pS 0 7),pV 2<|pI 0],pQ [pC [pK 4 44 [.mm 1 0 7]] [pV 3<|.un .not<|.s 4]]<|pw (.s 3)<|px [pV 2<|pI 0]]<|px [pV 2<|pb (pb (.m 1 1)<|.m 1 3)<|.m 1 4],[(2,.v)]⟩
def c58:xQ [.fz] Try.f58=J Ml:=Z2
def yM:Fn:=⟨4,[0,1,2,6],pQ [pR [pV 3 pF],.ax ⟨[.lt 4 []<|pg (.s 0)<|pI 0,.lt 5 []<|.ite (.s 4) (pg (.s 1)<|pI 0) pF,.lt 6 []<|.ite (.s 5) (pL (.s 0)<|.s 2) pF],[([(4,xk)],pg (.s 1)<|pI 0),([(5,xk)],pL (.s 0)<|.s 2),([(6,xk)],pL (.s 1)<|pb (.s 2)<|.s 0)],[pV 3<|.ite (.s 6) (pL (.s 1)<|pb (.s 2)<|.s 0) pF]⟩] .ret,[(3,.v)]⟩
def c64:xQ [.fz,.fz,.fz] Try.f64=J yM:=Z2
def KT:Fn:=⟨10,[0,1,2,4,5,9,8,11,13,15],pQ [pR [(2,pS 0 7),pV 3<|pU 0],pR [pV 4<|.m 2 0],pQ [pR [pV 6<|.s 1]]<|.block 0<|pQ [.block 4<|pQ [.block 3<|pQ [.block 2<|pQ [.block 1<|pQ [pQ [pi 5 (pe (.s 6)<|pI 2)<|.exit 1,pi 7 (pe (.s 6)<|pI 1)<|.exit 2,pi 8 (pe (.s 6)<|pI 4)<|.exit 3]<|pi 9 (pe (.s 6)<|pI 3)<|.exit 4]<|.exit 0]<|pR [pV 4<|pa (.s 4)<|.conv .u64<|pb (.m 2 1)<|.m 2 4],pR [pV 4<|pa (.s 4)<|.conv .u64<|pm (.m 2 2)<|.m 2 1]]<|.exit 0]<|pR [pV 4<|pa (.s 4)<|.conv .u64<|pb (.m 2 1)<|.m 2 6],pR [pV 4<|pa (.s 4)<|.conv .u64<|pm (pb (pI 1)<|.m 2 2)<|.m 2 1]]<|.exit 0]<|px [pV 3<|.s 4],[(3,.v)]⟩
def c65:xQ [.fz,.fz] Try.f65=J KT:=Z2
structure Ly where
 base:Int
 cap:Int
 to:Int
 H:Int
 aa:Int
 an:Int
 am:Int
 deriving DecidableEq,Inhabited
def Xk(l:Ly):V:=.agg [vu l.base,vi l.cap,vi l.to,vi l.H,vi l.aa,vi l.an,vi l.am]
@[simp]theorem Zdx l:Up (Xk l) 7=J (Xk l):=rfl
@[simp]theorem Zcs l:(Xk l).cells=[vu l.base,vi l.cap,vi l.to,vi l.H,vi l.aa,vi l.an,vi l.am]:=rfl
@[simp]theorem ZbH l:Y1 (Xk l) 0=J (vu l.base):=rfl
@[simp]theorem ZbI l:Y1 (Xk l) 1=J (vi l.cap):=rfl
@[simp]theorem ZbJ l:Y1 (Xk l) 2=J (vi l.to):=rfl
@[simp]theorem ZbK l:Y1 (Xk l) 3=J (vi l.H):=rfl
@[simp]theorem ZbL l:Y1 (Xk l) 4=J (vi l.aa):=rfl
@[simp]theorem ZbM l:Y1 (Xk l) 5=J (vi l.an):=rfl
@[simp]theorem ZbN l:Y1 (Xk l) 6=J (vi l.am):=rfl
def Ly.ay(l:Ly):Prop:=ZA l.base/\YI l.cap/\YI l.to/\YI l.H/\YI l.aa/\YI l.an/\YI l.am
def Ty(a b words:Int):Bool:=decide (0<=a)&&decide (0<=b)&&decide (a<=words)&&decide (b<=words-a)
def ZQ(l:Ly):Bool:=decide (0<=l.cap)&&decide (l.cap<=4096)&&decide (1<=l.base)&&decide (l.base<=9223372036854775808-2*l.cap)&&(decide (l.to=0)||decide (l.to=1))&&Ty l.H l.aa l.cap&&Ty l.an l.am l.cap
theorem XL{l}:ZQ l=xk↔0<=l.cap/\l.cap<=4096/\1<=l.base/\l.base<=9223372036854775808-2*l.cap/\(l.to=0\/l.to=1)/\(0<=l.H/\0<=l.aa/\l.H<=l.cap/\l.aa<=l.cap-l.H)/\(0<=l.an/\0<=l.am/\l.an<=l.cap/\l.am<=l.cap-l.an):=by
 simp[ZQ,Ty,and_assoc]
theorem Lh{l}:ZQ l=xw↔ ¬(0<=l.cap/\l.cap<=4096/\1<=l.base/\l.base<=9223372036854775808-2*l.cap/\(l.to=0\/l.to=1)/\(0<=l.H/\0<=l.aa/\l.H<=l.cap/\l.aa<=l.cap-l.H)/\(0<=l.an/\0<=l.am/\l.an<=l.cap/\l.am<=l.cap-l.an)):=by
 grind [XL]
def P1{a b w:Int}(h:YI a)(n:YI b)(j:YI w):VC xP 64 xw [vi a,vi b,vi w]<|.bool<|Ty a b w:=by
 refine Y4 Z0l follows Z2 c64 rfl ?_;obtain⟨k,l⟩:=h;obtain⟨w1,w2⟩:=j;by_cases d:0<=a;by_cases g:a<=w;have e:=ZB (w-a) Z0 Z0;by_cases f:0<=b<;>simp[yM,Ty,d,g,f,e];by_cases f:0<=b<;>simp[yM,Ty,d,g,f];simp[yM,Ty,d]
def Li{l:Ly}(y:l.ay):VC xP 44 xw [Xk l]<|.bool<|ZQ l:=by
 refine Y4 Ee follows Z2 c44 rfl ?_;obtain⟨⟨u,w⟩,x,B,p,q,r,t⟩:=y;obtain⟨d,c2⟩:=x;simp[Mb];by_cases g1:l.cap<0;grind [ZQ,Lh];by_cases g2:4096<l.cap;grind [ZQ,Lh];by_cases k:l.base<1;grind [ZQ,Lh];have f:=Yn l.cap Z0 Z0;have g:=Yn (2*l.cap) Z0 Z0;have j:=Yn (9223372036854775808-2*l.cap) Z0 Z0;by_cases n:9223372036854775808-2*l.cap<l.base;grind [ZQ,Lh];by_cases a:l.to=0\/l.to=1
 .have k1:=P1 p q ⟨d,c2⟩;have A:=P1 r t ⟨d,c2⟩;have z:ZQ l=(Ty l.H l.aa l.cap&&Ty l.an l.am l.cap):=by
   obtain h|h:=a<;>simp[ZQ,show 0<=l.cap by omega,show l.cap<=4096 by omega,show 1<=l.base by omega,show l.base<=9223372036854775808-2*l.cap by omega,h]
  rw[z];obtain a|a:=a;all_goals
   cases o:Ty l.H l.aa l.cap;rw[o]at k1;simp[g1,g2,k,f,g,j,n,a];refine ZC k1 Z1 ?_;simp;rw[o]at k1;simp[g1,g2,k,f,g,j,n,a];refine ZC k1 Z1 ?_;simp;refine ZC A Z1 ?_;simp
 simp_all[ZQ,Lh]
def XG(l:Ly):Int:=if ZQ l then l.cap-l.H-l.aa else 0
def Z7A{l:Ly}(a:l.ay):VC xP 58 xw [Xk l]<|vi<|XG l:=by
 refine Y4 Ei follows Z2 c58 rfl ?_;simp[Ml];refine ZC (Li a) Z1 ?_;cases h:ZQ l;simp[XG,h];have g:=XL.1 h;have d:=ZB (l.cap-l.H) Z0 Z0;have f:=ZB (l.cap-l.H-l.aa) Z0 Z0;simp_all[XG]
def fstL(l:Ly)(part:Int):Int:=
 if part=1 then l.base+l.to*l.cap else if part=2 then l.base+l.to*l.cap+(l.cap-l.aa)else if part=3 then l.base+(1-l.to)*l.cap else l.base+(1-l.to)*l.cap+(l.cap-l.am)
def X7(l:Ly)(part:Int):Int:=if part=1 then l.H else if part=2 then l.aa else if part=3 then l.an else l.am
def D4{l}(a:ZQ l=xk):(l.to*l.cap=0/\(1-l.to)*l.cap=l.cap)\/(l.to*l.cap=l.cap/\(1-l.to)*l.cap=0):=by
 grind [XL]
def Vy{l}(a:ZQ l=xk)k:1<=fstL l k/\fstL l k+X7 l k<=9223372036854775808/\0<=X7 l k/\X7 l k<=4096:=by
 have h:=XL.1 a;have d:=D4 a;unfold fstL X7;omega
def zk{l:Ly}(d:ZQ l=xk){k:Int}(t:1<=k/\k<=4):VC xP 65 xw [Xk l,vi k]<|vu<|fstL l k:=by
 refine Y4 Z0m follows Z2 c65 rfl ?_;have h:=XL.1 d;have u:=D4 d;have w1:=ZB (l.to*l.cap) Z0 Z0;have w2:=ZB (1-l.to) Z0 Z0;have w3:=ZB ((1-l.to)*l.cap) Z0 Z0;have w4:=ZB (l.cap-l.aa) Z0 Z0;have r:=ZB (l.cap-l.am) Z0 Z0;have f:=Yn (l.to*l.cap) Z0 Z0;have g:=Yn ((1-l.to)*l.cap) Z0 Z0;have j:=Yn (l.cap-l.aa) Z0 Z0;have n:=Yn (l.cap-l.am) Z0 Z0;have v1:=Yn (l.base+l.to*l.cap) Z0 Z0;have o:=Yn (l.base+(l.cap-l.aa)) Z0 Z0;have p:=Yn (l.base+(l.cap-l.aa)+l.to*l.cap) Z0 Z0;have v4:=Yn (l.base+(1-l.to)*l.cap) Z0 Z0;have q:=Yn (l.base+(l.cap-l.am)) Z0 Z0;have v6:=Yn (l.base+(l.cap-l.am)+(1-l.to)*l.cap) Z0 Z0;have a:k=1\/k=2\/k=3\/k=4:=Z0;obtain rfl|rfl|rfl|rfl:=a;simp[KT,qZ,fstL,w1,f,v1];simp[KT,qZ,fstL,w1,f,w4,j,o,p];omega;simp[KT,qZ,fstL,w2,w3,g,v4];simp[KT,qZ,fstL,w2,w3,g,r,n,q,v6];omega
def WO(l:Ly):V:=.agg [vu<|fstL l 1,vi l.H,vu<|fstL l 2,vi l.aa,vu<|fstL l 3,vi l.an,vu<|fstL l 4,vi l.am]
def Oe{l:Ly}(a:ZQ l=xk):VC xP 45 xw [Xk l]<|WO l:=by
 refine Y4 Z08 follows Z2 c45 rfl ?_;simp[Mc];refine ZC (zk a (k:=1) Z0) (by simp[Xk]) ?_;simp;refine ZC (zk a (k:=2) Z0) (by simp[Xk]) ?_;simp;refine ZC (zk a (k:=3) Z0) (by simp[Xk]) ?_;simp;refine ZC (zk a (k:=4) Z0) (by simp[Xk]) ?_;simp[WO]
@[simp]theorem qH l:X7 l 1=l.H:=rfl
@[simp]theorem qI l:X7 l 2=l.aa:=rfl
@[simp]theorem qJ l:X7 l 3=l.an:=rfl
@[simp]theorem qK l:X7 l 4=l.am:=rfl
def Yr(l:Ly)(part at_:Int):Int×Int:=
 if ZQ l=xw then(0,1)else if part<1\/4<part then(0,6)else if at_<0\/X7 l part<=at_ then(0,6)else(fstL l part+at_,0)
def Eu{l:Ly}(p:l.ay){part at_:Int}:VC xP 28 xw [Xk l,.agg [vi part,vi at_]]<|.ak [vu (Yr l part at_).1,vi (Yr l part at_).2]:=by
 refine Y4 E3 follows Z2 c28 rfl ?_;simp[M4];refine ZC (Li p) Z1 ?_;cases d:ZQ l;simp[Yr,d];simp;by_cases k:part<1;grind [Yr];by_cases n:4<part;simp_all[Yr];have o:part=1\/part=2\/part=3\/part=4:=Z0;simp[k,n];refine ZC (Oe d) Z1 ?_;obtain rfl|rfl|rfl|rfl:=o;have a:=Vy d 1;simp only[qH]at a;simp[WO,Y7,ZB];by_cases f:at_<0;grind [Yr];by_cases g:l.H<=at_;simp_all[Yr];have h:=Yn at_ Z0 Z0;have j:=Yn (fstL l 1+at_) Z0 Z0;simp_all[Yr];have a:=Vy d 2;simp only[qI]at a;simp[WO,Y7,ZB];by_cases f:at_<0;grind [Yr];by_cases g:l.aa<=at_;simp_all[Yr];have h:=Yn at_ Z0 Z0;have j:=Yn (fstL l 2+at_) Z0 Z0;simp_all[Yr];have a:=Vy d 3;simp only[qJ]at a;simp[WO,Y7,ZB];by_cases f:at_<0;grind [Yr];by_cases g:l.an<=at_;simp_all[Yr];have h:=Yn at_ Z0 Z0;have j:=Yn (fstL l 3+at_) Z0 Z0;simp_all[Yr];have a:=Vy d 4;simp only[qK]at a;simp[WO,Y7,ZB];by_cases f:at_<0;grind [Yr];by_cases g:l.am<=at_;simp_all[Yr];have h:=Yn at_ Z0 Z0;have j:=Yn (fstL l 4+at_) Z0 Z0;simp_all[Yr]
def YR(l:Ly)(a k:Int):Bool:=decide (fstL l k<=a)&&decide (a<fstL l k+X7 l k)
theorem TR{l a k}:YR l a k=xk↔fstL l k<=a/\a<fstL l k+X7 l k:=by simp[YR]
def zR{l a k}:YR l a k=xw↔ ¬(fstL l k<=a/\a<fstL l k+X7 l k):=by grind [TR]
def Y8(l:Ly)(a:Int):Int×Int×Int:=
 if ZQ l=xw then(0,0,1)else if YR l a 1 then(1,a-fstL l 1,0)else if YR l a 2 then(2,a-fstL l 2,0)else if YR l a 3 then(3,a-fstL l 3,0)else if YR l a 4 then(4,a-fstL l 4,0)else(0,0,6)
def Z2b{l:Ly}(x:l.ay){a:Int}(w:ZA a):VC xP 55 xw [Xk l,vu a]<|.ak [.agg [vi (Y8 l a).1,vi (Y8 l a).2.1],vi (Y8 l a).2.2]:=by
 refine Y4 Eg follows Z2 c55 rfl ?_;simp[Mj];refine ZC (Li x) Z1 ?_;cases o:ZQ l;simp[Y8,o];obtain⟨z,A⟩:=w;simp;refine ZC (Oe o) (by simp[Xk]) ?_;simp;have r:∀k,1<=fstL l k/\fstL l k+X7 l k<=9223372036854775808/\0<=X7 l k/\X7 l k<=4096:=λk=>Vy o k;have w1:=r 1;have w2:=r 2;have w3:=r 3;have w4:=r 4;simp only[qH,qI,qJ,qK]at w1 w2 w3 w4;refine qY 6 4 (λi=>(0<i->YR l a 1=xw)/\(1<i->YR l a 2=xw)/\(2<i->YR l a 3=xw)/\(3<i->YR l a 4=xw)) Z1 Z1 Z1 ?_;rintro i B ⟨n,p,t,y⟩;have u:i=0\/i=1\/i=2\/i=3\/i=4:=Z0;obtain rfl|rfl|rfl|rfl|rfl:=u;have h:=Yn l.H Z0 Z0;by_cases f:fstL l 1<=a;have j:=Yn (a-fstL l 1) Z0 Z0;by_cases g:a-fstL l 1<l.H;have q:=ZB (a-fstL l 1) Z0 Z0;have d:YR l a 1=xk:=TR.2 ⟨f,by rw[qH];omega⟩;simp[WO,Y7,ZB,f,h,j,g,q,Y8,o,d];have d:YR l a 1=xw:=zR.2 (by rw[qH];omega);simp[WO,Y7,ZB,f,h,j,g,d];have d:YR l a 1=xw:=by simp[YR,f]
 simp[WO,Y7,ZB,f,d];have h:=Yn l.aa Z0 Z0;by_cases f:fstL l 2<=a;have j:=Yn (a-fstL l 2) Z0 Z0;by_cases g:a-fstL l 2<l.aa;have q:=ZB (a-fstL l 2) Z0 Z0;have d:YR l a 2=xk:=TR.2 ⟨f,by rw[qI];omega⟩;simp[WO,Y7,ZB,f,h,j,g,q,Y8,o,d,n Z0];have d:YR l a 2=xw:=zR.2 (by rw[qI];omega);simp[WO,Y7,ZB,f,h,j,g,d,n Z0];have d:YR l a 2=xw:=by simp[YR,f]
 simp[WO,Y7,ZB,f,d,n Z0];have h:=Yn l.an Z0 Z0;by_cases f:fstL l 3<=a;have j:=Yn (a-fstL l 3) Z0 Z0;by_cases g:a-fstL l 3<l.an;have q:=ZB (a-fstL l 3) Z0 Z0;have d:YR l a 3=xk:=TR.2 ⟨f,by rw[qJ];omega⟩;simp[WO,Y7,ZB,f,h,j,g,q,Y8,o,d,n Z0,p Z0];have d:YR l a 3=xw:=zR.2 (by rw[qJ];omega);simp[WO,Y7,ZB,f,h,j,g,d,n Z0,p Z0];have d:YR l a 3=xw:=by simp[YR,f]
 simp[WO,Y7,ZB,f,d,n Z0,p Z0];have h:=Yn l.am Z0 Z0;by_cases f:fstL l 4<=a;have j:=Yn (a-fstL l 4) Z0 Z0;by_cases g:a-fstL l 4<l.am;have q:=ZB (a-fstL l 4) Z0 Z0;have d:YR l a 4=xk:=TR.2 ⟨f,by rw[qK];omega⟩;simp[WO,Y7,ZB,f,h,j,g,q,Y8,o,d,n Z0,p Z0,t Z0];have d:YR l a 4=xw:=zR.2 (by rw[qK];omega);simp[WO,Y7,ZB,f,h,j,g,d,n Z0,p Z0,t Z0];have d:YR l a 4=xw:=by simp[YR,f]
 simp[WO,Y7,ZB,f,d,n Z0,p Z0,t Z0];simp[Y8,o,n Z0,p Z0,t Z0,y Z0]
def M5:Fn:=⟨3,[0,1,2],pQ [pR [(1,pS 0 10),(2,.m [pU 0,pI 0,pI 0,pI 0,pI 0,pI 0,pI 0])]]<|px [(2,pM (.ag [.m 1 0,.m 1 1,.m 1 2,.len<|.m 1 5,.len<|.m 1 6,.len<|.m 1 7,.len<|.m 1 8]) 7)],[(2,(.ag 7))]⟩
def c29:xQ [.fz] Try.f29=J M5:=Z2
structure Hp where
 base:Int
 cap:Int
 to:Int
 M:Bool
 Y:Int
 H:List Int
 aa:List Int
 an:List Int
 am:List Int
 E:List Int
 deriving DecidableEq,Inhabited
def ZD(h:Hp):V:=.agg [vu h.base,vi h.cap,vi h.to,.bool h.M,vi h.Y,.sl<|h.H.map vu,.sl<|h.aa.map vu,.sl<|h.an.map vu,.sl<|h.am.map vu,.sl<|h.E.map vu]
@[simp]theorem Zdw(h:Hp):Up (ZD h) 10=J (ZD h):=rfl
@[simp]theorem Zcb(h:Hp):(ZD h).cells=[vu h.base,vi h.cap,vi h.to,.bool h.M,vi h.Y,.sl<|h.H.map vu,.sl<|h.aa.map vu,.sl<|h.an.map vu,.sl<|h.am.map vu,.sl<|h.E.map vu]:=rfl
@[simp]theorem Zbw(h:Hp):Y1 (ZD h) 0=J (vu h.base):=rfl
@[simp]theorem Zbx(h:Hp):Y1 (ZD h) 1=J (vi h.cap):=rfl
@[simp]theorem Zby(h:Hp):Y1 (ZD h) 2=J (vi h.to):=rfl
@[simp]theorem Zbz(h:Hp):Y1 (ZD h) 3=J (.bool h.M):=rfl
@[simp]theorem ZbA(h:Hp):Y1 (ZD h) 4=J (vi h.Y):=rfl
@[simp]theorem ZbB(h:Hp):Y1 (ZD h) 5=J (.sl<|h.H.map vu):=rfl
@[simp]theorem ZbC(h:Hp):Y1 (ZD h) 6=J (.sl<|h.aa.map vu):=rfl
@[simp]theorem ZbD(h:Hp):Y1 (ZD h) 7=J (.sl<|h.an.map vu):=rfl
@[simp]theorem ZbE(h:Hp):Y1 (ZD h) 8=J (.sl<|h.am.map vu):=rfl
@[simp]theorem ZbF(h:Hp):Y1 (ZD h) 9=J (.sl<|h.E.map vu):=rfl
def Zv(h:Hp):Ly:=⟨h.base,h.cap,h.to,I h.H,I h.aa,I h.an,I h.am⟩
structure Hp.ok (h:Hp):Prop where
 base:ZA h.base
 cap:YI h.cap
 to:YI h.to
 Y:YI h.Y
 H:I h.H<=1000000
 aa:I h.aa<=1000000
 an:I h.an<=1000000
 am:I h.am<=1000000
 E:I h.E<=1000000
 ft:∀w∈h.H,ZA w
 gc:∀w∈h.aa,ZA w
 ko:∀w∈h.an,ZA w
 kf:∀w∈h.am,ZA w
 db:∀w∈h.E,ZA w
def zl{α:Type}{l:List α}(h:I l<=1000000):YI (I l:Int):=⟨Z0,Z0⟩
def Hp.ok.bj{h:Hp}(a:h.ok):(Zv h).ay:=⟨a.base,a.cap,a.to,zl a.H,zl a.aa,zl a.an,zl a.am⟩
def DE{h:Hp}:VC xP 29 xw [ZD h]<|Xk<|Zv h:=by
 refine Y4 E5 follows Z2 c29 rfl ?_;simp[M5,Xk,Zv]
def Zy(h:Hp)(n:Int):List Int:=if n=1 then h.H else if n=2 then h.aa else if n=3 then h.an else h.am
@[simp]theorem VG(h:Hp):Zy h 1=h.H:=rfl
@[simp]theorem BM(h:Hp):Zy h 2=h.aa:=rfl
@[simp]theorem Z65(h:Hp):Zy h 3=h.an:=rfl
@[simp]theorem BN(h:Hp):Zy h 4=h.am:=rfl
def Vr(h:Hp)(n:Int)(l:Z9):Hp:=if n=1 then {h with H:=l}else if n=2 then {h with aa:=l}else if n=3 then {h with an:=l}else {h with am:=l}
@[simp]theorem ZdF(h:Hp)(l:Z9):Vr h 1 l= {h with H:=l}:=rfl
@[simp]theorem ZdG(h:Hp)(l:Z9):Vr h 2 l= {h with aa:=l}:=rfl
@[simp]theorem ZdH(h:Hp)(l:Z9):Vr h 3 l= {h with an:=l}:=rfl
@[simp]theorem ZdI(h:Hp)(l:Z9):Vr h 4 l= {h with am:=l}:=rfl
def pick(c n:Int):Int:=(if c<0 then-(c+1)else c) %n
def BQ{c n:Int}(a:0<n):0<=pick c n/\pick c n<n:=⟨Int.emod_nonneg _ Z0,Int.emod_lt_of_pos _ a⟩
end Vm
end
section

end
section
namespace Vm
open Go Go.Proofs
structure Nd where
 ac:List Int
 data:List Int
 deriving DecidableEq,Inhabited
structure Gr where
 nodes:List Nd
 E:List Int
 deriving DecidableEq,Inhabited
def Xl(n:Nd):V:=.agg [.sl<|n.ac.map vi,.sl<|n.data.map vu]
def Yy(g:Gr):V:=.agg [.sl<|g.nodes.map Xl,.sl<|g.E.map vi]
@[simp]theorem ZcA(n:Nd):(Xl n).cells=[.sl<|n.ac.map vi,.sl<|n.data.map vu]:=rfl
@[simp]theorem Zdl(l:List Nd):XA 2 (l.map Xl)=xk:=Ln λ_=>rfl
@[simp]theorem Zc2(n:Nd):UB (Xl n) 0 2=J (Xl n):=rfl
@[simp]theorem ZbO(n:Nd):Y1 (Xl n) 0=J (.sl<|n.ac.map vi):=rfl
@[simp]theorem ZbP(n:Nd):Y1 (Xl n) 1=J (.sl<|n.data.map vu):=rfl
@[simp]theorem Zdy(n:Nd):Up (Xl n) 2=J (Xl n):=rfl
@[simp]theorem Zc1(g:Gr):UB (Yy g) 0 2=J (Yy g):=rfl
@[simp]theorem Zbu(g:Gr):Y1 (Yy g) 0=J (.sl<|g.nodes.map Xl):=rfl
@[simp]theorem Zbv(g:Gr):Y1 (Yy g) 1=J (.sl<|g.E.map vi):=rfl
@[simp]theorem Zdv(g:Gr):Up (Yy g) 2=J (Yy g):=rfl
@[simp]theorem Zc9(g:Gr):(Yy g).cells=[.sl<|g.nodes.map Xl,.sl<|g.E.map vi]:=rfl
@[simp]theorem Zdp{k:IntKind}{l:List V}(j n:Nat):R7 n (.sl l) (.int k 0) (.int k (j:Int))=if j<=I l/\XA n l=xk then J (.sl<|l.take j)else U:=by
 have:=Z8A (k:=k) (l:=l) 0 j n;simpa using this
end Vm
end
section

end
section
namespace Vm
open Go Go.Proofs
structure Pl where
 part:Int
 Z:Int
 deriving DecidableEq,Inhabited
structure Rw where
 nodes:List Nd
 E:List Int
 cls:List Int
 base:Int
 slack:Int
 Y:Int
 to:Int
 deriving Inhabited
structure Bt where
 h:Hp
 g:Gr
 ip:List Pl
 an:List Pl
end Vm
namespace Vm
open Go Go.Proofs
def Z62 s p:0<=(X5 s p).1/\(X5 s p).1<100000000:=by
 grind [X5,YH]
@[simp]theorem Zdc x y:V.put (vu x) 0 [vu y]=vu y:=rfl
end Vm
namespace Vm
open Go Go.Proofs
def Z9u{h p l}(d:I l=I (Zy h p)):Zv (Vr h p l)=Zv h:=by
 unfold Vr Zy at*;split;simp_all[Zv];split;simp_all[Zv];rename_i a;split;simp_all[Zv];simp_all[Zv]
end Vm
namespace Vm
open Go Go.Proofs
end Vm
end
section

end
section
namespace Vm
open Go Go.Proofs
structure Ob where
 Z:Int
 size:Int
 ac:Int
 gone:Bool
 target:Int
 deriving DecidableEq,Inhabited
def ZL(o:Ob):V:=.agg [vi o.Z,vi o.size,vi o.ac,.bool o.gone,vu o.target]
@[simp]theorem Zdz(o:Ob):Up (ZL o) 5=J (ZL o):=rfl
@[simp]theorem Zc3(o:Ob):UB (ZL o) 0 5=J (ZL o):=rfl
@[simp]theorem ZcB(o:Ob):(ZL o).cells=[vi o.Z,vi o.size,vi o.ac,.bool o.gone,vu o.target]:=rfl
@[simp]theorem ZbQ(o:Ob):Y1 (ZL o) 0=J (vi o.Z):=rfl
@[simp]theorem ZbR(o:Ob):Y1 (ZL o) 1=J (vi o.size):=rfl
@[simp]theorem ZbS(o:Ob):Y1 (ZL o) 2=J (vi o.ac):=rfl
@[simp]theorem ZbT(o:Ob):Y1 (ZL o) 3=J (.bool o.gone):=rfl
@[simp]theorem ZbU(o:Ob):Y1 (ZL o) 4=J (vu o.target):=rfl
@[simp]theorem Zc4(o:Ob):UB (ZL o) 1 2=J (WM o.size o.ac):=rfl
abbrev Zk:=List Ob
@[simp]theorem Zdn(l:Zk):XA 5 (l.map ZL)=xk:=Ln λ_=>rfl
def XM(s:Int×Int):V:=WM s.1 s.2
@[simp]theorem Zdi(s:Int×Int):(XM s).cells=[vi s.1,vi s.2]:=rfl
@[simp]theorem ZdA(s:Int×Int):Up (XM s) 2=J (XM s):=rfl
@[simp]theorem Zc5(s:Int×Int):UB (XM s) 0 2=J (XM s):=rfl
@[simp]theorem ZbV(s:Int×Int):Y1 (XM s) 0=J (vi s.1):=rfl
@[simp]theorem ZbW(s:Int×Int):Y1 (XM s) 1=J (vi s.2):=rfl
@[simp]theorem Zdo(l:List<|Int×Int):XA 2 (l.map XM)=xk:=Ln λ_=>rfl
def UH(w:Int):Bool:=decide (w=0)||decide ((adr w).2=0)
def Xf(l:Z9)(gone:Bool)(ptrs:Int)(i:Nat):Bool:=
 match l with
 | []=>xk
 |w::l=>(!gone||decide (w=0))&&(!decide ((i:Int)<ptrs)||UH w)&&Xf l gone ptrs (i+1)
def Z8F{l:Z9}{gone:Bool}{ptrs:Int}{i:Nat}{w:Int}(h:l[i]?=J w):Xf (l.drop i) gone ptrs i=((!gone||decide (w=0))&&(!decide ((i:Int)<ptrs)||UH w)&&Xf (l.drop<|i+1) gone ptrs (i+1)):=by
 obtain⟨a,d⟩:=ZeW.1 h;rw[Zg4 a,d];rfl
def XR(shs:List<|Int×Int)(old:Bool)(at_ a:Nat)(w:Int):Option<|Ob×Nat:=
 if old=xk/\(adr w).2=0 then
  match shs[a]? with
  |none=>U
  |some s=>if Yq s.1 s.2 then J (⟨at_,s.1,s.2,xk,(adr w).1⟩,a+1)else U
 else if(ZN w).2.2=0 then J (⟨at_,(ZN w).1,(ZN w).2.1,xw,0⟩,a)else U
def D6{w:Int}(h:(ZN w).2.2=0):Yq (ZN w).1 (ZN w).2.1=xk:=by
 unfold ZN at*;grind
def yw{shs:List (Int×Int)}{old:Bool}{at_ d:Nat}{w:Int}{o:Ob}{t:Nat}(h:XR shs old at_ d w=J (o,t)):Yq o.size o.ac=xk/\o.Z=at_:=by
 unfold XR at h;split at h;grind;split at h;rename_i a;cases h;exact⟨D6 a,rfl⟩;cases h
def Xb(ws:Z9)(shs:List<|Int×Int)(old:Bool):Nat->Nat->Nat->List Ob->List Ob×Int
 |0,_,_,_=>([],3)
 |f+1,at_,d,a=>
  match ws[at_]? with
  |none=>if d<(I shs) then([],3)else(a,0)
  |some w=>match XR shs old at_ d w with
   |none=>([],3)
   |some (o,t)=>
    if(I ws:Int)<at_+1+o.size then([],2)
    else if Xf ((ws.drop<|at_+1).take o.size.toNat) o.gone o.ac 0=xw then([],3)
    else Xb ws shs old f (at_+1+o.size.toNat) t<|a++[o]
def ZM(ws:Z9)(shs:List<|Int×Int)(old:Bool):List Ob×Int:=Xb ws shs old (I ws+1) 0 0 []
def JF(n:Nat)(o:Ob):Prop:=(∃a:Nat,o.Z=a/\(a:Int)+1+o.size<=n)/\Yq o.size o.ac=xk
def Z5p{shs:List (Int×Int)}{old:Bool}{at_ d:Nat}{w:Int}{o:Ob}{t:Nat}(a:ZA w)(h:XR shs old at_ d w=J (o,t)):ZA o.target:=by
 unfold XR at h;split at h;split at h;cases h;split at h;cases h;obtain⟨f,g⟩:=a;show 0<=(adr w).1/\(adr w).1<18446744073709551616;grind [adr];cases h;split at h;cases h;show(0:Int)<=0/\(0:Int)<18446744073709551616;omega;cases h
def OO{ws:Z9}{shs:List (Int×Int)}{old:Bool}(k:∀w∈ws,ZA w):∀(f at_ l:Nat) (d:Zk),(∀o∈d,JF (I ws) o/\ZA o.target)->∀o∈(Xb ws shs old f at_ l d).1,JF (I ws) o/\ZA o.target
 |0,_,_,_,_=>by simp[Xb]
 |f+1,at_,l,d,a=>by
  simp only[Xb];split;split;simp;exact a;rename_i w q;split;simp;rename_i o t j;split;simp;rename_i u;split;simp;refine OO k f _ _ _ λr g=> ?_;obtain h|h:=Zfs.1 g;exact a r h;simp only[ZfZ]at h;subst h;obtain⟨n,p⟩:=yw j;exact⟨⟨⟨at_,p,Z0⟩,n⟩,Z5p (k w<|Zf5 q) j⟩
def OW{ws:Z9}{shs:List (Int×Int)}{old:Bool}(a:∀w∈ws,ZA w):∀o∈(ZM ws shs old).1,JF (I ws) o/\ZA o.target:=OO a _ _ _ _ Z1
def OP{ws:Z9}{shs:List (Int×Int)}{old:Bool}:∀(f at_ g:Nat) (a:Zk),at_<=I ws->I a<=at_->(Xb ws shs old f at_ g a).1.length<=I ws
 |0,_,_,_,_,_=>by simp[Xb]
 |f+1,at_,g,a,k,d=>by
  simp only[Xb];split;split;simp;simp only;omega;split;simp;rename_i o t h;split;simp;rename_i l;split;simp;have j:=YH.1 (yw h).1;refine OP f _ _ _ Z0 Ze4
def OX{ws:Z9}{shs:List (Int×Int)}{old:Bool}:(ZM ws shs old).1.length<=I ws:=OP _ _ _ _ Z0 Z1
end Vm
end
section

end
section
namespace Vm
open Go Go.Proofs
def YU(h:Hp)(part at_:Int):Int:=(Yr (Zv h) part at_).1
def YD(h:Hp)(part:Int)(l:Zk)(a:Int):Option Ob:=l.find? λo=>YU h part o.Z==a
theorem EU{h:Hp}{part a:Int}{l:Zk}{o:Ob}(d:YD h part l a=J o):o∈l:=ZhC d
def WX(h:Hp)(ws:Z9)(low:Zk):Nat->Nat->List (Int×Int)->Option (List<|Int×Int)
 |0,_,_=>U
 |f+1,i,a=>
  match ws[i]? with
  |none=>J a
  |some w=>if(adr w).2=0 then(match YD h 1 low (adr w).1 with|none=>U|some o=>WX h ws low f (i+1+o.size.toNat)<|a++[(o.size,o.ac)])
   else if(ZN w).2.2=0 then WX h ws low f (i+1+(ZN w).1.toNat) a else U
def Vo(h:Hp)(ws:Z9)(low:Zk):Option<|List<|Int×Int:=WX h ws low (I ws+1) 0 []
structure Pts where
 H:List Ob
 aa:List Ob
 an:List Ob
 am:List Ob
 deriving Inhabited
def Pts.at(p:Pts)(k:Int):List Ob:=if k=1 then p.H else if k=2 then p.aa else if k=3 then p.an else p.am
@[simp]theorem Pts.mi(p:Pts):p.at 1=p.H:=rfl
@[simp]theorem Pts.tf(p:Pts):p.at 2=p.aa:=rfl
@[simp]theorem Pts.lg(p:Pts):p.at 3=p.an:=rfl
@[simp]theorem Pts.lh(p:Pts):p.at 4=p.am:=rfl
def Xz(h:Hp):Option Pts:=
 let low:=ZM h.H [] xw;let high:=ZM h.aa [] xw
 if low.2≠0\/high.2≠0 then U else
 let p:=Vo h h.an low.1;let q:=Vo h h.am low.1;let d:=ZM h.an (p.getD []) xk;let a:=ZM h.am (q.getD []) xk
 if p=U\/q=U\/d.2≠0\/a.2≠0 then U else J ⟨low.1,high.1,d.1,a.1⟩
def Ww(h:Hp)(p:Pts)(w one a:Int):Bool:=decide (w=0)||(decide ((adr w).2=0)&&((YD h one (p.at one) (adr w).1).isSome||(YD h a (p.at a) (adr w).1).isSome))
def Wg(o:Ob):Nat:=if o.gone then 0 else 1+o.size.toNat
def Y6(l:Zk):Nat:=(l.map Wg).sum
def Pd{l:Zk}{i:Nat}{o:Ob}(h:l[i]?=J o):Y6 (l.take<|i+1)=Y6 (l.take i)+Wg o:=by
 simp_all[Y6,Zgt,Zgf,Zih]
def Jy{l:Zk}(h:∀o∈l,Yq o.size o.ac=xk):Y6 l<=256*I l:=by
 induction l with
 |nil=>simp[Y6]
 |cons o l a=>
  grind [YH,Wg,Y6,List.length_cons]
def Yh(p:Pts):Nat:=Y6 p.an+Y6 p.am
def WY(l:Zk)(a:Int):Nat:=I (l.filter λo=>o.gone&&decide (o.target=a))
def UU(p:Pts)(a:Int):Nat:=WY p.an a+WY p.am a
def TY(h:Hp):Bool:=
 ZQ (Zv h)&&decide (I h.E<=16)&&decide (0<=h.Y)&&decide (h.Y<=I h.H)&&
  (if h.M then decide (h.Y<I h.H)else decide (h.Y=I h.H)&&decide (I h.an=0)&&decide (I h.am=0))
def Ts(h:Hp)(p:Pts)(part:Int)(k:Nat):Bool:=
 let w:=((Zy h part)[k]?).getD 0;let a:=Ww h p w 1 2;let from_:=Ww h p w 3 4
 if 2<part then from_ else if part=1/\h.Y<=k then a||from_ else a
def Bq(h:Hp)(p:Pts)(part:Int)(o:Ob):Bool:=(List.range o.ac.toNat).all λj=>Ts h p part<|o.Z.toNat+1+j
def WJ(h:Hp)(p:Pts)(part:Int):Bool:=(p.at part).all<|Bq h p part
def EA{α:Type}{q:α->Bool}{l:List α}{i:Nat}{x:α}(h:l[i]?=J x):(l.take<|i+1).all q=((l.take i).all q&&q x):=by
 rw[Zgt,h,List.all_append];simp
def Ez{α:Type}{q:α->Bool}{l:List α}{i:Nat}{x:α}(h:l[i]?=J x)(a:q x=xw):l.all q=xw:=by
 grind
def Qi(h:Hp)(p:Pts)(o:Ob):Bool:=decide (UU p (YU h 1 o.Z)=1)
def R1(h:Hp)(p:Pts):Bool:=
 (!h.M||p.H.all (Qi h p))&&h.E.all (λw=>Ww h p w 1 2)&&WJ h p 1&&WJ h p 2&&WJ h p 3&&WJ h p 4&&decide ((I h.H:Int)+I h.aa+Yh p<=h.cap)
def Yg(h:Hp):Bool:=TY h&&match Xz h with
 |none=>xw
 |some p=>R1 h p
def Xy{h:Hp}(a:h.ok)(k:Int):(∀w∈Zy h k,ZA w)/\I (Zy h k)<=1000000:=by
 unfold Zy;split;exact⟨a.ft,a.H⟩;split;exact⟨a.gc,a.aa⟩;split;exact⟨a.ko,a.an⟩;exact⟨a.kf,a.am⟩
def Z7y{h:Hp}(a:Yg h=xk):∃p,Xz h=J p/\R1 h p=xk/\TY h=xk:=by
 unfold Yg at a;grind
def Uj(h:Hp)(part:Int):List Ob×Int:=if Yg h=xk/\1<=part/\part<=4 then(((Xz h).getD default).at part,0)else([],1)
def Sm(h:Hp):Int:=if Yg h then Yh ((Xz h).getD default)else 0
end Vm
end
section

end
section
namespace Vm
open Go Go.Proofs
def Z0I{w}(a:ZA w):ZA (adr w).1:=by
 grind [ZA,adr]
def Z2a{l a}(h:(Y8 l a).2.2=0):ZQ l=xk/\1<=(Y8 l a).1/\(Y8 l a).1<=4/\0<=(Y8 l a).2.1/\(Y8 l a).2.1<X7 l (Y8 l a).1/\a=fstL l (Y8 l a).1+(Y8 l a).2.1:=by
 unfold Y8 at*;cases k:ZQ l;grind;simp[Zil,ZfV]at h⊢;by_cases d:YR l a 1=xk;rw[Zfc d];have:=TR.1 d;grind;by_cases f:YR l a 2=xk;rw[Zfc f];have:=TR.1 f;grind;by_cases g:YR l a 3=xk;rw[Zfc g];have:=TR.1 g;grind;by_cases j:YR l a 4=xk;rw[Zfc j];have:=TR.1 j;grind;simp_all
theorem US{h k}(a:1<=k/\k<=4):X7 (Zv h) k=I (Zy h k):=by
 have:k=1\/k=2\/k=3\/k=4:=Z0;obtain rfl|rfl|rfl|rfl:=this<;>rfl
def Hp.zero:Hp:=⟨0,0,0,xw,0,[],[],[],[],[]⟩
def zr(ws:List Int)(a:Nat):Nat->List Int
 |0=>ws
 |i+1=>(zr ws a i).set (a+i) 0
@[simp]theorem jb ws a n:I (zr ws a n)=I ws:=by
 induction n with
 |zero=>rfl
 |succ n d=>simp[zr,d]
def Xd(h:Hp)(part:Int)(a n:Nat):Hp:= {h with H:=h.H++((Zy h part).take<|a+n).drop a}
def SI(h:Hp)(part:Int)(a n:Nat):Int×Hp×Int:=
 if I (Zy h part)<a+n then(0,Hp.zero,2)
 else if XG (Zv h)<n then(0,Hp.zero,7)
 else
  let d:=(V9 (Yr (Zv<|Xd h part a n) 1<|I h.H).1).1
  (d,Vr (Xd h part a n) part<|(zr (Zy h part) a n).set a d,0)
def Z0H{l k a}:ZA (Yr l k a).1:=by
 unfold Yr;cases d:ZQ l;simp[ZA];simp[ZfV];split;simp[ZA];split;simp[ZA];have:=Vy d k;grind [ZA]
def MV{a}:ZA (V9 a).1:=by
 grind [V9,ZA]
def fwd(h:Hp)(w:Int):Int×Hp×Int:=
 if ZQ (Zv h)=xw then(0,Hp.zero,1)
 else if w=0 then(0,h,0)
 else if(adr w).2≠0 then(0,Hp.zero,3)
 else if(Y8 (Zv h) (adr w).1).2.2≠0 then(0,Hp.zero,6)
 else if(Y8 (Zv h) (adr w).1).1<3 then(w,h,0)
 else if(adr<|(Zy h (Y8 (Zv h) (adr w).1).1).getD (Y8 (Zv h) (adr w).1).2.1.toNat 0).2=0 then((Zy h (Y8 (Zv h) (adr w).1).1).getD (Y8 (Zv h) (adr w).1).2.1.toNat 0,h,0)
 else if(ZN<|(Zy h (Y8 (Zv h) (adr w).1).1).getD (Y8 (Zv h) (adr w).1).2.1.toNat 0).2.2≠0 then(0,Hp.zero,3)
 else SI h (Y8 (Zv h) (adr w).1).1 (Y8 (Zv h) (adr w).1).2.1.toNat<|(ZN<|(Zy h (Y8 (Zv h) (adr w).1).1).getD (Y8 (Zv h) (adr w).1).2.1.toNat 0).1.toNat+1
end Vm
namespace Vm
open Go Go.Proofs
@[simp]theorem Zay k a b c d e f:Y7 (.agg [.int k a,.int k b,.int k c,.int k d,.int k e,.int k f]) (.int .i64 0) 6 1 xw=J (.int k a):=rfl
@[simp]theorem ZaE a b c d e f:Y7 (.agg [.bool a,.bool b,.bool c,.bool d,.bool e,.bool f]) (.int .i64 0) 6 1 xw=J (.bool a):=rfl
@[simp]theorem Zaz k a b c d e f:Y7 (.agg [.int k a,.int k b,.int k c,.int k d,.int k e,.int k f]) (.int .i64 1) 6 1 xw=J (.int k b):=rfl
@[simp]theorem ZaF a b c d e f:Y7 (.agg [.bool a,.bool b,.bool c,.bool d,.bool e,.bool f]) (.int .i64 1) 6 1 xw=J (.bool b):=rfl
@[simp]theorem ZaA k a b c d e f:Y7 (.agg [.int k a,.int k b,.int k c,.int k d,.int k e,.int k f]) (.int .i64 2) 6 1 xw=J (.int k c):=rfl
@[simp]theorem ZaG a b c d e f:Y7 (.agg [.bool a,.bool b,.bool c,.bool d,.bool e,.bool f]) (.int .i64 2) 6 1 xw=J (.bool c):=rfl
@[simp]theorem ZaB k a b c d e f:Y7 (.agg [.int k a,.int k b,.int k c,.int k d,.int k e,.int k f]) (.int .i64 3) 6 1 xw=J (.int k d):=rfl
@[simp]theorem ZaH a b c d e f:Y7 (.agg [.bool a,.bool b,.bool c,.bool d,.bool e,.bool f]) (.int .i64 3) 6 1 xw=J (.bool d):=rfl
@[simp]theorem ZaC k a b c d e f:Y7 (.agg [.int k a,.int k b,.int k c,.int k d,.int k e,.int k f]) (.int .i64 4) 6 1 xw=J (.int k e):=rfl
@[simp]theorem ZaI a b c d e f:Y7 (.agg [.bool a,.bool b,.bool c,.bool d,.bool e,.bool f]) (.int .i64 4) 6 1 xw=J (.bool e):=rfl
@[simp]theorem ZaD k a b c d e f:Y7 (.agg [.int k a,.int k b,.int k c,.int k d,.int k e,.int k f]) (.int .i64 5) 6 1 xw=J (.int k f):=rfl
@[simp]theorem ZaJ a b c d e f:Y7 (.agg [.bool a,.bool b,.bool c,.bool d,.bool e,.bool f]) (.int .i64 5) 6 1 xw=J (.bool f):=rfl
end Vm
namespace Vm
open Go Go.Proofs
def Z9v{h}(A:h.ok){k l}(o:I l<=1000000)(h2:∀w∈l,ZA w):(Vr h k l).ok:=by
 let⟨a,d,f,g,p,q,r,t,j,u,x,y,z,n⟩:=A;unfold Vr;split;exact⟨a,d,f,g,o,q,r,t,j,h2,x,y,z,n⟩;split;exact⟨a,d,f,g,p,o,r,t,j,u,h2,y,z,n⟩;split;exact⟨a,d,f,g,p,q,o,t,j,u,x,h2,z,n⟩;exact⟨a,d,f,g,p,q,r,o,j,u,x,y,h2,n⟩
end Vm
end
section
namespace Vm
open Go Go.Proofs
def D5{n:Nat}{x:V}(h:WP Try.prog (n+1) 3 x):∃m,x=vi m/\YI m:=by
 obtain⟨m,rfl,a,d⟩:=Ox Try.underlying3 h;exact⟨m,rfl,a,d⟩
def Z9d{n:Nat}{x:V}(h:WP Try.prog (n+1) 22 x):∃m,x=vu m/\ZA m:=by
 obtain⟨m,rfl,a,d⟩:=Ox Try.underlying22 h;exact⟨m,rfl,a,Int.lt_of_le_of_lt d Zeh⟩
def own:ownKnob Try.prog.godebug=U:=Z2
def laidOut:laidOutB Try.prog=xk:=Z2
end Vm
end
section
namespace Vm
open Go Go.Proofs Go.RowKit
section
section
variable {P:Z6}{w:Z3}
def Z9F{o:Oper}{a K Q}s x t
  (G:o.op=.call {callee:=.builtin .append,args:=#[s,x],argTypes:=#[t,t]}) {e} (M:P.underlying t=J (.slice e)) (p:U8 P e=xk)
  {B n v y xs} (L:a.eval s=v) (hx:a.eval x=y) (k:w.ownsRow B e (P.cellsOf e) v n xs) (D:B<=xz (xj w))
  {Gy l} (N:Rd w Gy (.sl l) y) (F:XA (P.cellsOf e) l=xk) (j:n+I l<=YJ)
  (h:∀g f d,f.ownsRow B e (P.cellsOf e) g (n+I l) (xs++d)->w.grownBy f v.ownBlock->(g.ownBlock=v.ownBlock\/(w.grownBy f U/\f.ownsRow (xz<|xj w) e (P.cellsOf e) g (n+I l) (xs++d)))->
   (∀(i:Nat) q,(flat l)[i]?=J q->∃u,d[i]?=J u/\Rd w Gy q u)->K (a.put o.dst g) f):o.wp P a w K Q:=by
 let⟨g,f,d,H,r,z,A,_,C⟩:=Lj (ty:=o.type) M p k D N F j;unfold Oper.wp execOp;simp[G,resolve,invoke,builtin,ZfJ,Zhu,ZfH,List.map_toArray,Zft,Zgq,L,hx,H];exact h g f d r z A C
def P8{ops rest o a Q}(q:o.guard=U)s x t
  (C:o.op=.call {callee:=.builtin .append,args:=#[s,x],argTypes:=#[t,t]}) {e} (F:P.underlying t=J (.slice e)) (p:U8 P e=xk)
  {B n v y xs} (D:a.eval s=v) (hx:a.eval x=y) (j:w.ownsRow B e (P.cellsOf e) v n xs) (z:B<=xz (xj w))
  {Gy l} (G:Rd w Gy (.sl l) y) (A:XA (P.cellsOf e) l=xk) (g:n+I l<=YJ)
  (h:∀k f d,f.ownsRow B e (P.cellsOf e) k (n+I l) (xs++d)->w.grownBy f v.ownBlock->(k.ownBlock=v.ownBlock\/(w.grownBy f U/\f.ownsRow (xz<|xj w) e (P.cellsOf e) k (n+I l) (xs++d)))->
   (∀(i:Nat) r,(flat l)[i]?=J r->∃u,d[i]?=J u/\Rd w Gy r u)->wpList P ops Q rest (a.put o.dst k) f):wpList P ops Q (o::rest) a w:=
 wpList_plain q λ_ N=>Z9F s x t C F p D hx j z G A g λk f d H K L M=>Ze2
end
def Y3(k:IntKind)(l:Z9):List Value:=l.map<|Value.int k
def yn{w G k l d}(h:∀(i:Nat) g,(flat<|l.map<|V.int k)[i]?=J g->∃u,d[i]?=J u/\Rd w G g u)(n:I d=I l):d=Y3 k l:=by
 have f:flat (l.map<|V.int k)=l.map (V.int k):=by
  clear h n;induction l with
  |nil=>rfl
  |cons a l q=>rw[Zft,RF,q];rfl
 apply Zgr;intro i;unfold Y3;by_cases j:i<I l;let⟨u,p,o⟩:=h i (.int k l[i]) (by rw[f,Zfo,ZeX j];rfl);rw[p,Zfo,ZeX j];cases o;rfl;rw[ZfP Z0,ZfP Ze4]
def XK{w:Z3}{B e z n v xs}(h:w.ownsRow B e z v n xs):∃a c,v=.slice a n c:=by
 obtain⟨rfl,rfl⟩|⟨g,cap,d,rfl,_⟩:=h.2;exact⟨_,_,rfl⟩;exact⟨_,_,rfl⟩
theorem Xe{w w':Z3}{B e z n v xs}(h:w.ownsRow B e z v n xs)(l:∀b,v.ownBlock=J b->w'.heap[b]?=w.heap[b]?):w'.ownsRow B e z v n xs:=by
 refine⟨h.1,?_⟩;obtain⟨f,d⟩|⟨g,cap,a,rfl,d,j,k⟩:=h.2;exact .inl ⟨f,d⟩;exact .inr ⟨g,cap,a,rfl,d,by rw[l g rfl];exact j,k⟩
def Y9{w:Z3}{b o cs T}(h:w.heap[b]?=J (.cells cs T (0,0))):w.frozen? ⟨b,o,U⟩=xw:=by
 simp[World.frozen?,h]
def QB:U8 xP 22=xk:=Z2
theorem Ux:xP.cellsOf 22=1:=Z2
def ZV{w:Z3}{b o}(h:w.heap[b]?=J o):b<xz (xj w):=Ze2
def yJ{w:Z3}{B B' e z n v xs}(h:w.ownsRow B e z v n xs)(k:B'<=B):w.ownsRow B' e z v n xs:=by
 refine⟨h.1,?_⟩;obtain d|⟨g,cap,a,j,l,f⟩:=h.2;exact .inl d;exact .inr ⟨g,cap,a,j,Z0,f⟩
def J5 k l i x:Y3 k (l.set i x)=(Y3 k l).set i (.int k x):=by unfold Y3;rw[Zjd]
def Z43:(xP.info? 22).map (λi=>(i.zero,i.size,i.bytes))=J (J<|.int .u64 0,1,8):=Z2
section
variable {w:Z3}{B:Nat}{G:Z4}
def zp{k}(l:Z9):flat (l.map<|V.int k)=l.map (V.int k):=by
 induction l with
 |nil=>rfl
 |cons a l d=>rw[Zft,RF,d];rfl
def S5{k e v l}(h:w.ownsRow B e 1 v (I l)<|Y3 k l)(t:∀c,B<=c->c<xz (xj w)->G c):Rd w G (.sl<|l.map<|V.int k) v:=by
 obtain⟨rfl,r⟩|⟨g,cap,p,rfl,u,y,j,d,_⟩:=h.2;have:l=[]:=Ze3;subst this;exact .nil _ _ Zej
 have:=Rd.sl (w:=w) (G:=G) (l.map<|V.int k) g 0 cap 1 (λi=>(Y3 k l).getD i xy) (by simpa using j) d Ze2 (λx q=>by
  obtain⟨n,_,rfl⟩:=Zfh.1 q
  exact⟨rfl,Z1⟩) (λi f=>by
   have a:i<I l:=Zek;rw[ZfL,h.cellAt i Z0];simp[Y3,a]) (λi c o=>by
   rw[zp]at o;obtain⟨f,rfl⟩:=ZeW.1 o;have a:i<I l:=Zek;simp[Y3,a];exact .int _ _)
 simpa using this
end
def Z66(w:Z3)(b k:Nat)(a:k=1\/k=2\/k=3\/k=4):
  Calls xP 42 #[.pointer<|J ⟨b,0,U⟩,.int .i64 k] w λe d=>e=.returned (.pointer<|J ⟨b,4+k,U⟩)/\Below (xz<|xj w) w d:=by
 go_enter Ec,Try.ntmps42;obtain rfl|rfl|rfl|rfl:=a;all_goals
  go_wp2;go_region;go_wp2;go_ret
  exact⟨rfl,((Zfg _ _).alloc (Zf3 _) _).drew⟩
def ZI:Array Value:=#[.int .u64 0,.int .i64 0,.int .i64 0,.bool xw,.int .i64 0,.slice U 0 0,.slice U 0 0,.slice U 0 0,.slice U 0 0,.slice U 0 0]
abbrev UO(w:Z3)(b:Nat)(v0 v1 v2 v3 v4 v5 v6 v7 v8 v9:Zc):World:=(((((((((w.setCell ⟨b,0,U⟩ v0).setCell ⟨b,1,U⟩ v1).setCell ⟨b,2,U⟩ v2).setCell ⟨b,3,U⟩ v3).setCell ⟨b,4,U⟩ v4).setCell ⟨b,5,U⟩ v5).setCell ⟨b,6,U⟩ v6).setCell ⟨b,7,U⟩ v7).setCell ⟨b,8,U⟩ v8).setCell ⟨b,9,U⟩ v9
def L5{w2 b T}(a:w2.heap[b]?=J (.cells ZI T (0,0))){v0 v1 v2 v3 v4 v5 v6 v7 v8 v9}:(UO w2 b v0 v1 v2 v3 v4 v5 v6 v7 v8 v9).heap[b]?=J (.cells #[v0,v1,v2,v3,v4,v5,v6,v7,v8,v9] T (0,0)):=by
 unfold ZI at a;simp[World.setCell,Zfy,a]
def Ul{w2 b T}(a:w2.heap[b]?=J (.cells ZI T (0,0)))v0 v1 v2 v3 v4 v5 v6 v7 v8 v9 j:(UO w2 b v0 v1 v2 v3 v4 v5 v6 v7 v8 v9).cell? ⟨b,j,U⟩=(#[v0,v1,v2,v3,v4,v5,v6,v7,v8,v9]:Array Value)[j]? :=
 Zf6 _ _ _ _ _ _ (L5 a)
def Wq{B w0 w2 b}(h:Below B w0 w2)(a:B<=b){v0 v1 v2 v3 v4 v5 v6 v7 v8 v9}:Below B w0<|UO w2 b v0 v1 v2 v3 v4 v5 v6 v7 v8 v9:=
 (((((((((h.setCell a _).setCell a _).setCell a _).setCell a _).setCell a _).setCell a _).setCell a _).setCell a _).setCell a _).setCell a _
def Va{w2 b c}(hc:c≠b){v0 v1 v2 v3 v4 v5 v6 v7 v8 v9}:(UO w2 b v0 v1 v2 v3 v4 v5 v6 v7 v8 v9).heap[c]?=w2.heap[c]? :=by
 have:¬b=c:=Z0;simp[World.setCell,Zfy,this]
end
def Zu(h:Hp)(j:Nat):List Int:=if j=0 then h.H else if j=1 then h.aa else if j=2 then h.an else if j=3 then h.am else h.E
structure OwSt (w:World) (b:Nat) (el:Nat->Option Obj) (T:TypeId) (hd src:Nat->Value) (L:Nat->List Int) (k:Nat) (xs:Nat->Value) (wr:World):Prop where
 below:Below (xz<|xj w) w wr
 new:xz (xj w)<=b
 blk:wr.heap[b]?=J (.cells #[hd 0,hd 1,hd 2,hd 3,hd 4,xs 0,xs 1,xs 2,xs 3,src 4] T (0,0))
 oi:∀c,xz (xj w)<=c->c<b->wr.heap[c]?=el c
 rest:∀j,k<=j->xs j=src j
 own:∀j,j<k->wr.ownsRow (xz<|xj w) 22 1 (xs j) (I<|L j) (Y3 .u64<|L j)
 ot:∀j,j<k->∀c,(xs j).ownBlock=J c->b<c
 apart:∀i j,i<j->j<k->∀c,(xs i).ownBlock=J c->(xs j).ownBlock≠J c
abbrev Z5:=Nat->Value
def OwSt.next{w wr w1 o:Z3}{b:Nat}{z:Nat->Option Obj}{T:Zf}{g l:Z5}{L:Nat->List Int}{k:Nat}{xs:Z5}(h:OwSt w b z T g l L k xs wr)(H:k<4)
  (p:Below (xz<|xj wr) wr w1) (q:w1.grownBy o U) {v:Zc} (K:o.ownsRow (xz<|xj w) 22 1 v (I<|L k)<|Y3 .u64<|L k) (D:∀c,v.ownBlock=J c->xz (xj w1)<=c):
  OwSt w b z T g l L (k+1) (λj=>if j=k then v else xs j) (o.setCell ⟨b,5+k,U⟩ v):=by
 have r:b<xz (xj wr):=ZV h.blk;have F:=p.size;have y:=h.below.size;have G:=q.size;have f:∀c,c<xz (xj wr)->c≠b->(o.setCell ⟨b,5+k,U⟩ v).heap[c]?=wr.heap[c]? :=λc d x=>by
  rw[Zff _ _ _ _ x,q.block c Z0 Z1,p.block c d]
 have C:o.heap[b]?=J (.cells #[g 0,g 1,g 2,g 3,g 4,xs 0,xs 1,xs 2,xs 3,l 4] T (0,0)):=by
  rw[q.block b Z0 Z1,p.block b r,h.blk]
 refine⟨((h.below.trans<|p.mono y).grown q Z0 Z1).setCell h.new _,h.new,?_,?_,?_,?_,?_,?_⟩;have:k=0\/k=1\/k=2\/k=3:=Z0;obtain rfl|rfl|rfl|rfl:=this<;>simp[World.setCell,Zfy,C];intro c A B;rw[f c Z0 Z0];exact h.oi c A B;intro j u;rw[Zf7 Z0];exact h.rest j Z0;intro j u;by_cases a:j=k;subst a;rw[Zfc rfl];grind [Xe,Below.heap_setCell];rw[Zf7 a];have n:=h.own j Z0;exact Xe n λc d=>f c (n.lt c d).2 (by have:=h.ot j Z0 c d;omega);intro j u c d;by_cases a:j=k;grind;rw[Zf7 a]at d;exact h.ot j Z0 c d;intro i j t u c d;rw[Zf7 Z0]at d;by_cases a:j=k;rw[Zfc a];intro e;have:=D c e;have:=((h.own i Z0).lt c d).2;omega;rw[Zf7 a];exact h.apart i j t Z0 c d
structure HOwn (B:Nat) (w:World) (h:Hp) (x:Nat->Value):Prop where
 own:∀j,j<5->w.ownsRow B 22 1 (x j) (I<|Zu h j) (Y3 .u64<|Zu h j)
 apart:∀i j,i<j->j<5->∀c,(x i).ownBlock=J c->(x j).ownBlock≠J c
def Zx(h:Hp)(x:Z5):Value:=.agg #[.int .u64 h.base,.int .i64 h.cap,.int .i64 h.to,.bool h.M,.int .i64 h.Y,x 0,x 1,x 2,x 3,x 4]
abbrev Rh(W:Z3)(b:Nat)(h:Hp)(x:Z5):World:=UO W b (.int .u64 h.base) (.int .i64 h.cap) (.int .i64 h.to) (.bool h.M) (.int .i64 h.Y) (x 0) (x 1) (x 2) (x 3)<|x 4
def PI(w:Z3)(h:Hp)(e:Ending)(w':Z3):Prop:=∃x,e=.returned (Zx h x)/\Below (xz<|xj w) w w'/\HOwn (xz<|xj w) w' h x
def QZ{h}(a:h.ok)k:I (Zu h k)<=1000000:=by
 unfold Zu;split;exact a.H;split;exact a.aa;split;exact a.an;split;exact a.am;exact a.E
def Z67(w:Z3)(b k:Nat)(d:k<4):
  Calls xP 42 #[.pointer<|J ⟨b,0,U⟩,.int .i64 ((k+1:Nat):Int)] w λe a=>e=.returned (.pointer<|J ⟨b,5+k,U⟩)/\Below (xz<|xj w) w a:=by
 have:=Z66 w b (k+1) Z0;grind
def jd(w:Z3)(G:Z4)(hG:∀b,G b->b<xz (xj w))(h:Hp)(hh:h.ok)(d:Z5)(hs:∀j,j<5->Rd w G (.sl<|(Zu h j).map vu) (d j)):
  Calls xP 24 #[Zx h d] w (PI w h):=by
 have HS:=Zf0 hs;have HH:=Zf0 hh;clear hs hh;unfold Zx;go_enter DX,Try.ntmps24;go_wp2
 go_loopw [4] (λi wr=>∃(k:Nat) (xs:Z5),i=.int .i64 ((k+1:Nat):Int)/\k<=4/\Hid (OwSt w (xz (xj w)+2) (λc=>if c=(xz<|xj w) then J (.cells #[.int .u64 h.base,.int .i64 h.cap,.int .i64 h.to,.bool h.M,.int .i64 h.Y,d 0,d 1,d 2,d 3,d 4] 27 (0,0))else J<|.cells #[.int .u64 0,.int .i64 0,.int .i64 0,.bool xw,.int .i64 0,.slice U 0 0,.slice U 0 0,.slice U 0 0,.slice U 0 0,.slice U 0 0] 27 (0,0)) 122 (λj=>if j=0 then .int .u64 h.base else if j=1 then .int .i64 h.cap else if j=2 then .int .i64 h.to else if j=3 then .bool h.M else .int .i64 h.Y) d (Zu h) k xs wr))
  (λi _=>5- (intOf i).toNat)
 case atStart=>
  refine⟨0,d,rfl,Z0,Zf0 ⟨(((Zfg _ _).alloc (Zf3 _) _).alloc Z1 _).alloc Ze4 _,Z0,?_,?_,λ_ _=>rfl,λj hj=>Z0,λj hj=>Z0,λi j _ hj=>Z0⟩⟩;have:=Zfq ((w.alloc<|.cells #[.int .u64 h.base,.int .i64 h.cap,.int .i64 h.to,.bool h.M,.int .i64 h.Y,d 0,d 1,d 2,d 3,d 4] 27).alloc<|.cells #[.int .u64 0,.int .i64 0,.int .i64 0,.bool xw,.int .i64 0,.slice U 0 0,.slice U 0 0,.slice U 0 0,.slice U 0 0,.slice U 0 0] 27)<|.cells #[.int .u64 h.base,.int .i64 h.cap,.int .i64 h.to,.bool h.M,.int .i64 h.Y,d 0,d 1,d 2,d 3,d 4] 122;simp_all;intro c h1 h2;have:c=(xz<|xj w)\/c=xz (xj w)+1:=Z0;obtain rfl|rfl:=this;rw[Zfc rfl,Zfa _ _ _ Ze4,Zfa _ _ _ Z1];exact Zfq _ _;rw[Zf7 Z0,Zfa _ _ _ Z1];have:=Zfq (w.alloc<|.cells #[.int .u64 h.base,.int .i64 h.cap,.int .i64 h.to,.bool h.M,.int .i64 h.Y,d 0,d 1,d 2,d 3,d 4] 27)<|.cells #[.int .u64 0,.int .i64 0,.int .i64 0,.bool xw,.int .i64 0,.slice U 0 0,.slice U 0 0,.slice U 0 0,.slice U 0 0,.slice U 0 0] 27;simp_all
 case round=>
  obtain⟨k,xs,rfl,hk,g⟩:=hrel;have a4:=ZV g.out.blk;by_cases a2:k<4
  .have b4:((k+1:Nat):Int)<=4:=Z0;have c0:wr.cell? ⟨xz (xj w)+2,5+k,U⟩=J (d k):=by
    rw[Zf6 _ _ _ _ _ _ g.out.blk];have h3:k=0\/k=1\/k=2\/k=3:=Z0;have hr:=g.out.rest k<|Zf3 _;obtain rfl|rfl|rfl|rfl:=h3<;>simp[<-hr]
   have f0:wr.frozen? ⟨xz (xj w)+2,5+k,U⟩=xw:=Y9 g.out.blk;have b2:I (Zu h k)<=1000000:=QZ HH.out k
   go_wp2_with (first
    |(go_at_call 42;refine(Z67 _ _ _ a2).mono ?_;rintro e w1 ⟨rfl,C⟩;have c1:=(C.cell (p:=⟨xz (xj w)+2,5+k,U⟩)<|by exact a4).trans c0;have f1:=(C.frozen (p:=⟨xz (xj w)+2,5+k,U⟩)<|by exact a4).trans f0;have S:=Zf0<|(HS.out k<|by omega).keep (w':=w1) (λb hb=>by rw[C.block b (by have:=hG b hb;omega)];exact g.out.below.block b<|hG b hb) (λ_ h=>h);have a5:=Zf0 C;have b5:=C.size;have a3:=g.out.below.size;clear C)
    |(at_builtin;refine P8 (B:=xz<|xj w) (n:=0) (xs:=[]) rfl _ _ _ rfl Sq QB rfl rfl (Zgl _ _ _ _) (by omega) (l:=(Zu h k).map vu) (Gy:=G) S.out (by grind [Ux,qL]) (by grind [YJ]) ?_))
   intro v6 w6 x a f A Q;simp only[Ux]at a;have W:I x=I (Zu h k):=by have:=a.1;simp_all
   rw[yn Q W]at a;try simp only[Zfu,ZfL,ZfW]at a
   obtain⟨P,R,X⟩:=XK a;subst X;have u:(Value.slice U 0 0).ownBlock=U:=rfl;rw[u]at f;have c6:=(f.cell_far ⟨xz (xj w)+2,5+k,U⟩ Ze2 Z1).trans c1;have f6:=(f.frozen_far ⟨xz (xj w)+2,5+k,U⟩ Ze2 Z1).trans f1;have q:∀c,(Value.slice P (I<|Zu h k) R).ownBlock=J c->xz (xj w1)<=c:=by
    intro c t;obtain e|⟨_,e⟩:=A;simp_all;exact(e.lt c t).1
   have HN:=Zf0<|g.out.next a2 a5.out f a q;clear a f A Q q;go_wp2;go_roundw
   case rel=>grind
   case measure=>grind [intOf]
  .have a9:k=4:=Z0;subst a9;have b0:=g.out.oi (xz<|xj w) Z0 Z0;rw[Zfc rfl]at b0;have b1:=g.out.oi (xz (xj w)+1) Z0 Z0;rw[Zf7 Z0]at b1;have c9:wr.cell? ⟨xz<|xj w,9,U⟩=J (d 4):=by rw[Zf6 _ _ _ _ _ _ b0];rfl
   have b2:I (Zu h 4)<=1000000:=QZ HH.out 4;have S:=Zf0<|(HS.out 4 Z0).keep (w':=wr) (λb hb=>g.out.below.block b<|hG b hb) (λ_ h=>h);have a3:=g.out.below.size;go_wp2_with (at_builtin;refine P8 (B:=xz<|xj w) (n:=0) (xs:=[]) rfl _ _ _ rfl Sq QB rfl rfl (Zgl _ _ _ _) Z0 (l:=(Zu h 4).map vu) (Gy:=G) S.out (by grind [Ux,qL]) (by grind [YJ]) ?_)
   intro v6 w6 x a f A Q;simp only[Ux]at a;have W:I x=I (Zu h 4):=by have:=a.1;simp_all
   rw[yn Q W]at a;try simp only[Zfu,ZfL,ZfW]at a
   obtain⟨P,R,X⟩:=XK a;subst X;have u:(Value.slice U 0 0).ownBlock=U:=rfl;rw[u]at f;obtain⟨D,L,e0⟩:=XK<|g.out.own 0 Z0;obtain⟨F,M,e1⟩:=XK<|g.out.own 1 Z0;obtain⟨H,N,e2⟩:=XK<|g.out.own 2 Z0;obtain⟨K,O,e3⟩:=XK<|g.out.own 3 Z0;have blk:wr.heap[xz (xj w)+2]?=J (.cells #[.int .u64 h.base,.int .i64 h.cap,.int .i64 h.to,.bool h.M,.int .i64 h.Y,.slice D (I<|Zu h 0) L,.slice F (I<|Zu h 1) M,.slice H (I<|Zu h 2) N,.slice K (I<|Zu h 3) O,d 4] 122 (0,0)):=by rw[<-e0,<-e1,<-e2,<-e3];exact g.out.blk
   have y:=(f.block (xz (xj w)+2) Z0 Z1).trans blk;have Z:=(f.block (xz (xj w)+1) Z0 Z1).trans b1;have x9:w6.cell? ⟨xz (xj w)+2,9,U⟩=J (d 4):=by rw[Zf6 _ _ _ _ _ _ y];rfl
   have y9:w6.frozen? ⟨xz (xj w)+2,9,U⟩=xw:=Y9 y;obtain⟨Y,h7⟩:∃Y,w6.setCell ⟨xz (xj w)+2,9,U⟩ (.slice P (I<|Zu h 4) R)=Y:=⟨_,rfl⟩;have a0:Y.heap[xz (xj w)+2]?=J (.cells #[.int .u64 h.base,.int .i64 h.cap,.int .i64 h.to,.bool h.M,.int .i64 h.Y,.slice D (I<|Zu h 0) L,.slice F (I<|Zu h 1) M,.slice H (I<|Zu h 2) N,.slice K (I<|Zu h 3) O,.slice P (I<|Zu h 4) R] 122 (0,0)):=by
    rw[<-h7];simp[World.setCell,Zfy,y]
   have T:Y.heap[xz (xj w)+1]?=J (.cells ZI 27 (0,0)):=by
    rw[<-h7,Zff _ _ _ _ Z1];exact Z
   have l:=λj=>Zf6 _ _ j _ _ _ a0;have m:=λj=>Zf6 _ _ j _ _ _ T;unfold ZI at m;have r:=λj=>Y9 (o:=j) T;have z:=Ul T (.int .u64 h.base) (.int .i64 h.cap) (.int .i64 h.to) (.bool h.M) (.int .i64 h.Y) (.slice D (I<|Zu h 0) L) (.slice F (I<|Zu h 1) M) (.slice H (I<|Zu h 2) N) (.slice K (I<|Zu h 3) O)<|.slice P (I<|Zu h 4) R;have a7:Below (xz<|xj w) w Y:=by rw[<-h7];exact(g.out.below.grown f a3 Z1).setCell Z1 _
   have b3:∀c,c≠xz (xj w)+2->Y.heap[c]?=w6.heap[c]? :=λc t=>by rw[<-h7];exact Zff _ _ _ _ t
   have q:∀c,(Value.slice P (I<|Zu h 4) R).ownBlock=J c->xz (xj wr)<=c:=by
    intro c t;obtain e|⟨_,e⟩:=A;simp_all;exact(e.lt c t).1
   clear y Z blk b0 b1 c9;go_wp2;refine ZfA (v:=.agg #[.int .u64 h.base,.int .i64 h.cap,.int .i64 h.to,.bool h.M,.int .i64 h.Y,.slice D (I<|Zu h 0) L,.slice F (I<|Zu h 1) M,.slice H (I<|Zu h 2) N,.slice K (I<|Zu h 3) O,.slice P (I<|Zu h 4) R]) (by simp[results,Try.results24,go_sem,z]) rfl ⟨λj=>if j=4 then .slice P (I<|Zu h 4) R else xs j,by simp[Zx,e0,e1,e2,e3],Wq a7 Z1,?_⟩;have a1:=λc h1 h2=>(@Va Y (xz (xj w)+1) c h1 (.int .u64 h.base) (.int .i64 h.cap) (.int .i64 h.to) (.bool h.M) (.int .i64 h.Y) (.slice D (I<|Zu h 0) L) (.slice F (I<|Zu h 1) M) (.slice H (I<|Zu h 2) N) (.slice K (I<|Zu h 3) O)<|.slice P (I<|Zu h 4) R).trans<|b3 c h2;refine⟨λj hj=> ?_,λi j a8 hj c t=> ?_⟩;by_cases h4:j=4;subst h4;rw[Zfc rfl];exact Xe a λc t=>a1 c (by have:=q c t;omega) (by have:=q c t;omega);rw[Zf7 h4];have ho:=g.out.own j Z0;exact Xe ho λc t=>by
    have h1:=g.out.ot j Z0 c t;have h2:=(ho.lt c t).2;rw[a1 c Z0 Z0,f.block c h2 Z1]
   rw[Zf7 Z0]at t;by_cases h4:j=4;subst h4;rw[Zfc rfl];intro e;have h1:=q c e;have h2:=((g.out.own i Z0).lt c t).2;omega;rw[Zf7 h4];exact g.out.apart i j a8 Z0 c t
def Z9M(z:Zc)(n:Nat):(Builtin.zeroCells #[z] n).toList=List.replicate n z:=by
 simp[Builtin.zeroCells];apply List.ext_getElem;simp;intro i a d;simp[Nat.mod_one]
def Z7N{P:Z6}{w:Z3}{T tI ty e:Zf}{i:TypeInfo}{z:Zc}{kn:IntKind}(Z:P.underlying T=J (.slice e))(R:P.underlying tI=J (.int kn))(Y:P.info? e=J i)(hz:i.zero=J z)
  (H:z.cells=#[z]) (h1:z.oneCell'=xk) (hs:i.size=1) (M:i.bytes=8) {B n m:Nat} {v:Zc} {xs:Zp} (l:w.ownsRow B e 1 v n xs) (hB:B<=xz (xj w)) (hm:0<m) (a1:n+m<=4294967296) (N:IntKind):
  ∃O K,(Builtin.append_ #[T,tI] ty #[v,.int N m]).run P w=.ok O K/\K.ownsRow B e 1 O (n+m) (xs++List.replicate m z)/\w.grownBy K v.ownBlock/\
   (O.ownBlock=v.ownBlock\/(w.grownBy K U/\K.ownsRow (xz<|xj w) e 1 O (n+m) (xs++List.replicate m z))):=by
 have q:I xs=n:=by have:=l.1;simpa using this
 have f:I (xs++List.replicate m z)=n+m:=by simp[q]
 have Q:n+m<=maxLen:=by simp only[maxLen];omega
 have d:∀(a:Nat),a<n+m->∀(row:Option Nat) (L:Za),L=xs.toArray++(List.replicate m z).toArray->
   (w.drew.alloc<|.cells (L++Builtin.zeroCells z.cells (grownCap w (n+m) a e- (n+m))) e).ownsRow (xz<|xj w) e 1
    (.slice (J ⟨xz<|xj w,0,U⟩) (n+m)<|grownCap w (n+m) a e) (n+m) (xs++List.replicate m z)/\
   w.grownBy (w.drew.alloc<|.cells (L++Builtin.zeroCells z.cells (grownCap w (n+m) a e- (n+m))) e) row:=by
  rintro a ho row L rfl;have X:=grownCap_ge w (n+m) a e;have x:grownCap w (n+m) a e<=maxLen:=grownCap_le_maxLen w (n+m) a e Q;refine⟨⟨Zek,.inr ⟨xz<|xj w,_,_,rfl,Zf3 _,Zfq w.drew _,X,x,?_,?_⟩⟩,⟨rfl,rfl,rfl,Z1,λk F _=>Zfa w.drew _ k F⟩⟩;simp only[Array.size_append,Zgs,size_zeroCells,H];simp[q];omega;simp only[Array.toList_append,Zg1];rw[<-Zg1,Zj6,<-f];exact List.take_left
 have A:Builtin.zeroCells z.cells m=(List.replicate m z).toArray:=by
  rw[H];apply Array.ext';rw[Z9M]
 obtain⟨rfl,rfl⟩|⟨g,cap,h,rfl,S,hg,a2,x,a0,p⟩:=l.2;have hx:xs=[]:=ZgJ q;subst hx;have t:=Lib.run_append_nil_zeros (P:=P) w T tI ty e i z N kn Z R Y hz m hm Z0 Z0 (by rw[M];omega);have D:=d 0 Z0;simp only[ZfL,ZfW,Array.empty_append]at D t⊢;rw[A]at t;obtain⟨g1,g2⟩:=D U _ rfl;exact⟨_,_,t,yJ g1 hB,g2,.inr ⟨g2,g1⟩⟩;by_cases o:n+m<=cap;have r:n+I (List.replicate m z)<=h.size:=Ze4;have y:=run_storeCells_at P g n e (List.replicate m z) 0 h w hg (by simpa using r) (by intro v hv;rw[List.eq_of_mem_replicate hv];exact h1);simp only[ZgF]at y;have hw:IntKind.i64.wrap (m:Int)=m:=by rw[IntKind.wrap_i64];omega
 have G:¬((m:Int)<0):=Z0;have C:¬(281474976710656< (m:Int)*8):=Z0;have F:m≠0:=Z0
 have t:(Builtin.append_ #[T,tI] ty #[.slice (J ⟨g,0,U⟩) n cap,.int N m]).run P w=
   .ok (.slice (J ⟨g,0,U⟩) (n+m) cap) (w.setRow g (h.toList.take n++List.replicate m z++h.toList.drop (n+I (List.replicate m z))).toArray):=by
  simp[Builtin.append_,ZfD Z,ZfD R,Go.sizeOf,typeInfo,zeroValue,Y,hz,asInt,asIntOf,hw,G,hs,M,C,F,o,A,ZgD];simp at y;rw[y];simp
 refine⟨_,_,t,⟨Zek,.inr ⟨g,cap,_,rfl,S,Zj4 w g h _ e _ hg,o,x,?_,?_⟩⟩,⟨rfl,rfl,rfl,Z1,λk _ F=>ZgQ w g k _<|λe=>F (by simp[Value.ownBlock,e])⟩,.inl rfl⟩;simp only[Zgs,ZfK,Zg0,ZgK,Zhg];simp at r⊢;omega;rw[Zj6]at p⊢;rw[p,<-f];exact List.take_left;have holds:∀j u,xs[j]?=J u->w.cell? ((⟨g,0,U⟩:Addr).add j)=J u:=l.cells (g:=g) rfl;have W:=run_firstCells_some (P:=P) w.drew i.size n ⟨g,0,U⟩ n cap xs (by rw[hs,Zj6];exact q) (by simpa using holds);have t:=Lib.run_append_grow_zeros (P:=P) w T tI ty e i z N kn Z R Y hz (J ⟨g,0,U⟩) n cap xs W m hm Z0 Z0 Z0 (by rw[M];omega)<|Zj1 Z0 (by rw[M];omega);rw[A]at t;obtain⟨g1,g2⟩:=d cap Z0 U _ rfl;obtain⟨_,g3⟩:=d cap Z0 (Value.ownBlock<|.slice (J ⟨g,0,U⟩) n cap) _ rfl;exact⟨_,_,t,yJ g1 hB,g3,.inr ⟨g2,g1⟩⟩
end Vm
end
section
namespace Vm
open Go Go.Proofs
def Hp.dy:Hp.zero.ok:=by
 refine⟨?_,?_,?_,?_,?_,?_,?_,?_,?_,?_,?_,?_,?_,?_⟩<;>simp[Hp.zero,ZA,YI]
def I9{h:Hp}(d:h.ok){part:Int}{a n:Nat}(o:a+n<=I (Zy h part))(h2:(n:Int)<=XG (Zv h))(p:0<n):(Xd h part a n).ok:=by
 have g:ZQ (Zv h)=xk:=by
  cases j:ZQ<|Zv h;have:XG (Zv h)=0:=by unfold XG;rw[j];rfl
  omega;rfl
 have l:XG (Zv h)=(Zv h).cap- (Zv h).H- (Zv h).aa:=by unfold XG;rw[g];rfl
 have k:=XL.1 g;have q:(Zv h).H=I h.H:=rfl;have r:(Zv h).aa=I h.aa:=rfl;refine⟨d.base,d.cap,d.to,d.Y,?_,d.aa,d.an,d.am,d.E,?_,d.gc,d.ko,d.kf,d.db⟩;simp only[Xd,ZfK,ZgK,Zg0];omega;intro w f;simp only[Xd]at f;obtain f|f:=Zfs.1 f;exact d.ft w f;exact(Xy d part).1 w (Zga<|ZhB f)
def Pn{ws:Z9}{a:Nat}(h:∀w∈ws,ZA w):∀n,∀w∈zr ws a n,ZA w
 |0=>h
 |n+1=>by
  intro w d;obtain d|d:=Zgm d;exact Pn h n w d;subst d;unfold ZA;omega
def Z2x{h:Hp}(f:h.ok){part:Int}{a n:Nat}(g:0<n):(SI h part a n).2.1.ok/\ZA (SI h part a n).1:=by
 unfold SI;split;exact⟨Hp.dy,by simp[ZA]⟩;split;exact⟨Hp.dy,by simp[ZA]⟩;rename_i g1 g2;have j:=Xy f part;refine⟨Z9v (I9 f Z0 Z0 g) Ze4 ?_,MV⟩;intro w d;obtain d|d:=Zgm d;exact Pn j.1 _ w d;subst d;exact MV
def zB{h:Hp}(a:h.ok){w:Int}(j:ZA w):(fwd h w).2.1.ok/\ZA (fwd h w).1:=by
 unfold fwd;split;exact⟨Hp.dy,by simp[ZA]⟩;split;exact⟨a,by simp[ZA]⟩;split;exact⟨Hp.dy,by simp[ZA]⟩;split;exact⟨Hp.dy,by simp[ZA]⟩;split;exact⟨a,j⟩;split;refine⟨a,?_⟩;generalize (Y8 (Zv h) (adr w).1).2.1.toNat=k;have g:=(Xy a (Y8 (Zv h) (adr w).1).1).1;generalize Zy h (Y8 (Zv h) (adr w).1).1=d at*;by_cases f:k<I d;have e:d.getD k 0=d[k]:=by simp[List.getD,f]
 simp only[e];exact g _<|Zfr f;have e:d.getD k 0=0:=by simp[List.getD,f]
 simp only[e];unfold ZA;omega;split;exact⟨Hp.dy,by simp[ZA]⟩;exact Z2x a Z0
end Vm
end
section
namespace Vm
open Go Go.Proofs Go.RowKit
section
def Qz:V->Value
 |.int k n=>.int k n
 |.bool b=>.bool b
 |_=>xy
def Te:V->Bool
 |.int _ _=>xk
 |.bool _=>xk
 |_=>xw
def Ta:V->Value
 |.agg a=>.agg (a.map Qz).toArray
 |x=>Qz x
def Ub:V->Bool
 |.agg a=>a.all Te
 |x=>Te x
def jQ:V->Value
 |.ak l=>.tuple (l.map Ta).toArray
 |x=>Ta x
def zn:V->Bool
 |.ak l=>l.all Ub
 |x=>Ub x
variable {w:Z3}{G:Z4}
def Z73{x:V}(h:Te x=xk):Rd w G x<|Qz x:=by
 cases x<;>simp[Te]at h;exact .int _ _;exact .bool _
def Nf{x:V}(h:Ub x=xk):Rd w G x<|Ta x:=by
 cases x with
 |agg d=>
  simp only[Ub,Zfb]at h;refine .agg _ _ Z1 (λc a=> ?_) λi c a=> ?_;have:=h c a;cases c<;>simp[Te]at this<;>rfl;have f:=Z73 (w:=w) (G:=G)<|h c<|Zf5 a;have:((d.map Qz).toArray).getD i xy=Qz c:=by
   obtain⟨g,rfl⟩:=ZeW.1 a;simp[Array.getD,g]
  rw[this];exact f
 |int k n=>exact .int _ _
 |bool b=>exact .bool _
 |_=>simp[Ub,Te]at h
def Z1M{x:V}{v:Zc}(h:Te x=xk)(r:Rd w G x v):v=Qz x:=by
 cases x<;>simp[Te]at h;cases r;rfl;cases r;rfl
def jP{x:V}{v:Zc}(h:Ub x=xk)(r:Rd w G x v):v=Ta x:=by
 cases x with
 |agg a=>
  simp only[Ub,Zfb]at h;cases r with
  |agg _ vs j _ l=>
   simp only[Ta,Value.agg.injEq];apply Zhq;simpa using j;intro i f o;have d:i<I a:=Z0;have g:a[i]?=J a[i]:=ZeX d;have:=Z1M (h _<|Zfr d)<|l i _ g;simp[Array.getD,f]at this;simpa using this
 |int k n=>cases r;rfl
 |bool b=>cases r;rfl
 |_=>simp[Ub,Te]at h
def Fj{x:V}{v:Zc}(h:zn x=xk)(r:Rd w G x v):v=jQ x:=by
 cases x with
 |ak a=>
  simp only[zn,Zfb]at h;cases r with
  |ak _ vs j l=>
   simp only[jQ,Value.tuple.injEq];apply Zhq;simpa using j;intro i f o;have d:i<I a:=Z0;have g:a[i]?=J a[i]:=ZeX d;have:=jP (h _<|Zfr d)<|l i _ g;simp[Array.getD,f]at this;simpa using this
 |agg a=>exact jP (x:=.agg a) h r
 |int k n=>cases r;rfl
 |bool b=>cases r;rfl
 |_=>simp[zn,Ub,Te]at h
def T8{P:Z6}{f:Zm}{fr:Bool}{args:List V}{r:V}(h:VC P f fr args r)(a:args.all Ub=xk)(k:zn r=xk)(w:Z3):
  Calls P f (args.map Ta).toArray w λe g=>e=.returned (jQ r)/\Below (xz<|xj w) w g:=by
 simp only[Zfb]at a;refine Zhc (h.2 w (λ_=>False) _ Z1 Z1 ?_) ?_;intro i x n;obtain⟨d,rfl⟩:=ZeW.1 n;have:((args.map Ta).toArray).getD i xy=Ta args[i]:=by simp[Array.getD,d]
 rw[this];exact Nf<|a _<|Zfr d;rintro e g ⟨v,rfl,j,l⟩;exact⟨by rw[Fj k l],j⟩
def Tk(l:Ly):Value:=.agg #[.int .u64 l.base,.int .i64 l.cap,.int .i64 l.to,.int .i64 l.H,.int .i64 l.aa,.int .i64 l.an,.int .i64 l.am]
def Z7w{l:Ly}(a:l.ay)(w:Z3):Calls xP 44 #[Tk l] w λe d=>e=.returned (.bool<|ZQ l)/\Below (xz<|xj w) w d:=
 T8 (Li a) rfl rfl w
def Z7z{l:Ly}(a:l.ay)(w:Z3):Calls xP 58 #[Tk l] w λe d=>e=.returned (.int .i64<|XG l)/\Below (xz<|xj w) w d:=
 T8 (Z7A a) rfl rfl w
def jq{l:Ly}(a:l.ay)(part at_:Int)(w:Z3):Calls xP 28 #[Tk l,.agg #[.int .i64 part,.int .i64 at_]] w λe d=>e=.returned (.tuple #[.int .u64 (Yr l part at_).1,.int .i64 (Yr l part at_).2])/\Below (xz<|xj w) w d:=
 T8 (Eu a) rfl rfl w
def Z29{l:Ly}(f:l.ay){a:Int}(d:ZA a)(w:Z3):Calls xP 55 #[Tk l,.int .u64 a] w λe g=>e=.returned (.tuple #[.agg #[.int .i64 (Y8 l a).1,.int .i64 (Y8 l a).2.1],.int .i64 (Y8 l a).2.2])/\Below (xz<|xj w) w g:=
 T8 (Z2b f d) rfl rfl w
def Sr{x:Int}(hx:ZA x)(w:Z3):Calls xP 38 #[.int .u64 x] w λe a=>e=.returned (.tuple #[.int .u64 (adr x).1,.int .i64 (adr x).2])/\Below (xz<|xj w) w a:=
 T8 (JI hx) rfl rfl w
def MU{x:Int}(hx:ZA x)(w:Z3):Calls xP 30 #[.int .u64 x] w λe a=>e=.returned (.tuple #[.int .u64 (V9 x).1,.int .i64 (V9 x).2])/\Below (xz<|xj w) w a:=
 T8 (Z6M hx) rfl rfl w
def Jt{x:Int}(hx:ZA x)(w:Z3):Calls xP 57 #[.int .u64 x] w λe a=>e=.returned (.tuple #[.agg #[.int .i64 (ZN x).1,.int .i64 (ZN x).2.1],.int .i64 (ZN x).2.2])/\Below (xz<|xj w) w a:=
 T8 (OC hx) rfl rfl w
def LE{h:Hp}{x:Z5}(g:∀b,G b->b<xz (xj w))(d:∀j,j<5->Rd w G (.sl<|(Zu h j).map vu) (x j)):
  Calls xP 29 #[Zx h x] w λe f=>e=.returned (Tk<|Zv h)/\Below (xz<|xj w) w f:=by
 refine Zhc ((DE (h:=h)).2 w G _ g rfl ?_) ?_;intro i y a
 match i,a with
 |0,a=>
  cases a;refine .agg _ _ rfl (by simp[V.one]) ?_;intro i y a
  match i,a with
  |0,a=>cases a;exact .int _ _
  |1,a=>cases a;exact .int _ _
  |2,a=>cases a;exact .int _ _
  |3,a=>cases a;exact .bool _
  |4,a=>cases a;exact .int _ _
  |5,a=>cases a;exact d 0 Z0
  |6,a=>cases a;exact d 1 Z0
  |7,a=>cases a;exact d 2 Z0
  |8,a=>cases a;exact d 3 Z0
  |9,a=>cases a;exact d 4 Z0
 rintro e f ⟨v,rfl,k,l⟩;exact⟨by rw[Fj ZeR l];rfl,k⟩
end
end Vm
end
section
namespace Vm
open Go Go.Proofs Go.RowKit
structure Now (B:Nat) (w:World) (b:Nat) (h:Hp) (x:Nat->Value):Prop where
 blk:w.heap[b]?=J (.cells #[.int .u64 h.base,.int .i64 h.cap,.int .i64 h.to,.bool h.M,.int .i64 h.Y,x 0,x 1,x 2,x 3,x 4] 134 (0,0))
 own:HOwn B w h x
 am:∀j,j<5->∀c,(x j).ownBlock=J c->c≠b
 new:B<=b
def Si(h:Hp)(part:Int)(a n:Nat):Int:=(V9 (Yr (Zv<|Xd h part a n) 1<|I h.H).1).1
def Pw(B:Nat)(w:World)(b:Nat)(h:Hp)(p a n:Nat)(e:Ending)(w':World):Prop:=
 ∃d,e=.returned (.int .u64<|Si h (p+1) a n)/\Below B w w'/\Now B w' b (Vr (Xd h (p+1) a n) (p+1)<|(zr (Zu h p) a n).set a<|Si h (p+1) a n) d
def Z9G{P}w{o:Oper}{a K Q}s t
  (d:o.op=.call {callee:=.builtin .clear,args:=#[s],argTypes:=#[t]}) vs (g:a.eval s=vs)
  w' (f:(Builtin.clear_ #[t] o.type #[vs]).run P w=.ok (.tuple #[]) w') (h:K (a.put o.dst<|.tuple #[]) w'):o.wp P a w K Q:=by
 unfold Oper.wp execOp;simp[d,resolve,invoke,builtin,g,f];exact h
def Z9D{P}w{ops rest o a Q}(d:o.guard=U)s t
  (f:o.op=.call {callee:=.builtin .clear,args:=#[s],argTypes:=#[t]}) vs (j:a.eval s=vs)
  w' (g:(Builtin.clear_ #[t] o.type #[vs]).run P w=.ok (.tuple #[]) w') (h:wpList P ops Q rest (a.put o.dst<|.tuple #[]) w'):wpList P ops Q (o::rest) a w:=
 wpList_plain d λ_ k=>Z9G w s t f vs j w' g Ze3
def NY{b c}(hc:c≠b):∀vs o (w:World),(w.setCells b o vs).heap[c]?=w.heap[c]?
 | [],_,_=>rfl
 |v::r,o,w=>by
  show((w.setCell ⟨b,o,U⟩ v).setCells b _ r).heap[c]?=_;rw[NY hc r];exact Zff _ _ _ _ hc
def NZ b:∀vs o (w:World),xz (xj<|w.setCells b o vs)=xz (xj w)
 | [],_,_=>rfl
 |v::r,o,w=>by
  show xz (xj<|(w.setCell ⟨b,o,U⟩ v).setCells b _ r)=_;rw[NZ b r];simp
def NW{B b}(d:B<=b):∀vs o a w,Below B a w->Below B a (w.setCells b o vs)
 | [],_,_,_,h=>h
 |v::r,o,a,w,h=>NW d r _ a _<|h.setCell d _
def IS{B g len cap:Nat}{L:List Int}(a:Nat):∀(n k:Nat) (w:World),a+k+n<=len->w.ownsRow B 22 1 (.slice (J ⟨g,0,U⟩) len cap) len (Y3 .u64<|zr L a k)->
  (w.setCells g (a+k)<|List.replicate n<|.int .u64 0).ownsRow B 22 1 (.slice (J ⟨g,0,U⟩) len cap) len (Y3 .u64<|zr L a<|k+n)
 |0,k,w,_,h=>h
 |n+1,k,w,j,h=>by
  have d:=(h.stored (a+k)<|.int .u64 0).1;have f:(Y3 .u64<|zr L a k).set (a+k) (.int .u64 0)=Y3 .u64 (zr L a<|k+1):=by rw[zr,J5]
  rw[f]at d;have:=IS a n (k+1) _ Z0 d;rw[show k+1+n=k+(n+1)by omega]at this;exact this
def Z1A(w:World)(B b:Nat)(h:Hp)(x:Nat->Value)(q:Now B w b h x)(hB:B<=xz (xj w))(hh:h.ok)(p a n:Nat)(hp:p=2\/p=3)(S:0<n)(hn:n<=1000)(f3:(n:Int)<=XG (Zv h))
  (g cap:Nat) (hx:x p=.slice (J ⟨g,0,U⟩) (I<|Zu h p) cap) (j0:a+n<=I (Zu h p)) (c':Nat):
  Calls xP 59 #[.pointer<|J ⟨b,0,U⟩,.slice (J ⟨g,a,U⟩) n c'] w (Pw B w b h p a n):=by
 obtain⟨iU,e7,i7,i4,j1⟩:=info_parts Z43;have k5:I (Zu h 0)<=1000000:=QZ hh 0;obtain⟨v1,w1,i3,f2,z,a9⟩:=Z7N (P:=xP) (w:=w) (T:=25) (tI:=3) (ty:=25) Sq Z0D e7 i7 rfl rfl i4 j1 (q.own.own 0 Z0) hB S Z0 .i64;obtain⟨a0,q0,e0⟩:=XK<|q.own.own 0 Z0;have b0:w.cell? ⟨b,5,U⟩=J (x 0):=by rw[Zf6 _ _ _ _ _ _ q.blk];rfl
 have f0:w.frozen? ⟨b,5,U⟩=xw:=Y9 q.blk;have c8:=ZV q.blk;have F:J b≠(x 0).ownBlock:=λe=>q.am 0 Z0 b e.symm rfl;have c1:=(z.cell_far ⟨b,5,U⟩ c8 F).trans b0;have f1:=(z.frozen_far ⟨b,5,U⟩ c8 F).trans f0;rw[e0]at i3 b0 c1;have i0:I (Y3 .u64<|Zu h 0)=I (Zu h 0):=by simp[Y3]
 obtain⟨_,k0⟩|⟨g0,q1,y,j9,b3,g6,j7,j8,b1,f5⟩:=f2.2;omega;subst j9;have k2:¬q1=I (Zu h 0):=Z0;have R:g0≠b:=by
  intro e;obtain r|⟨_,r⟩:=a9;exact F (by rw[<-r,e];rfl);have:=(r.lt g0 rfl).1;omega
 have e4:g≠b:=q.am p Z0 g (by rw[hx];rfl);have h7:g<xz (xj w):=((q.own.own p Z0).lt g (by rw[hx];rfl)).2;have e5:J g≠(x 0).ownBlock:=λe=>q.own.apart 0 p Z0 Z0 g e.symm (by rw[hx];rfl);have b4:g≠g0:=by
  intro e;obtain r|⟨_,r⟩:=a9;exact e5 (by rw[<-r,e];rfl);have:=(r.lt g0 rfl).1;omega
 obtain⟨w2,H⟩:∃w2,w2=w1.setCell ⟨b,5,U⟩ (.slice (J ⟨g0,0,U⟩) (I (Zu h 0)+n) q1):=⟨_,rfl⟩;have Q:w2.heap[g0]?=J (.cells y 22 (0,0)):=by rw[H,Zff _ _ _ _ R];exact g6
 have h5:∀c,c≠b->c<xz (xj w)->J c≠(x 0).ownBlock->w2.heap[c]?=w.heap[c]? :=λc A h2 h3=>by
  rw[H,Zff _ _ _ _ A,z.block c h2 h3]
 have N:w2.heap[b]?=J (.cells #[.int .u64 h.base,.int .i64 h.cap,.int .i64 h.to,.bool h.M,.int .i64 h.Y,.slice (J ⟨g0,0,U⟩) (I (Zu h 0)+n) q1,x 1,x 2,x 3,x 4] 134 (0,0)):=by
  have:=(z.block b c8 F).trans q.blk;rw[H];simp[World.setCell,Zfy,this]
 have i8:w2.cell? ⟨b,5,U⟩=J (.slice (J ⟨g0,0,U⟩) (I (Zu h 0)+n) q1):=by rw[Zf6 _ _ _ _ _ _ N];rfl
 have X:w2.ownsRow B 22 1 (x p) (I<|Zu h p)<|Y3 .u64<|Zu h p:=Xe (q.own.own p Z0) λc f=>by
  rw[hx]at f;cases f;exact h5 g e4 h7 e5
 obtain⟨M,a8⟩:∃M,M=Y3 .u64 (((Zu h p).take<|a+n).drop a):=⟨_,rfl⟩;have O:I M=n:=by rw[a8];simp[Y3];omega
 have i5:∀j v,M[j]?=J v->w2.cell? ((⟨g,a,U⟩:Addr).add j)=J v:=by
  intro j v hv;have o:j<n:=by rw[<-O];exact(ZeW.1 hv).1
  rw[hx]at X;have:=X.cellAt (a+j) Z0;rw[ZgD,this];rw[a8]at hv;simp only[Y3]at hv⊢;rw[<-hv];simp[Zfx,show a+j<a+n by omega]
 obtain⟨w3,K⟩:∃w3,w3=w2.setRow g0 (y.toList.take (I<|Zu h 0)++(M++y.toList.drop (I (Zu h 0)+I M))).toArray:=⟨_,rfl⟩;have b2:I (Zu h 0)+I M<=y.size:=by rw[O];simp at b1;omega
 have i2:∀v∈M,v.oneCell'=xk:=by
  intro v hv;rw[a8]at hv;obtain⟨_,_,rfl⟩:=Zfh.1 hv;rfl
 have i1:I M=Nat.min n n:=by rw[O];simp
 have i6:(xP.info? 22).map (·.size)=J 1:=by rw[e7];simp[i4]
 have d:w3.heap[b]?=J (.cells #[.int .u64 h.base,.int .i64 h.cap,.int .i64 h.to,.bool h.M,.int .i64 h.Y,.slice (J ⟨g0,0,U⟩) (I (Zu h 0)+n) q1,x 1,x 2,x 3,x 4] 134 (0,0)):=by
  rw[K,ZgQ _ _ _ _ R.symm];exact N
 have h8:∀c,c≠b->c≠g0->c<xz (xj w)->J c≠(x 0).ownBlock->w3.heap[c]?=w.heap[c]? :=λc A h2 h3 h4=>by
  rw[K,ZgQ _ _ _ _ h2];exact h5 c A h3 h4
 have k3:xz (xj w)<=xz (xj w3):=by
  have:=z.size;have e2:xz (xj w2)=xz (xj w1):=by rw[H];simp[World.setCell]
  have e3:xz (xj w3)=xz (xj w2):=by rw[K];simp[World.setRow]
  omega
 have j4:Zu (Xd h (p+1) a n) 0=Zu h 0++((Zu h p).take<|a+n).drop a:=by
  obtain rfl|rfl:=hp<;>rfl
 have h9:∀j,j≠0->Zu (Xd h (p+1) a n) j=Zu h j:=λj o=>by
  unfold Zu Xd;simp[o]
 have Y:∀j,j<5->w3.ownsRow B 22 1 (if j=0 then .slice (J ⟨g0,0,U⟩) (I (Zu h 0)+n) q1 else x j) (I<|Zu (Xd h (p+1) a n) j) (Y3 .u64<|Zu (Xd h (p+1) a n) j):=by
  intro j o;by_cases e8:j=0;subst e8;rw[Zfc rfl,j4];have hd:I (((Zu h p).take<|a+n).drop a)=n:=Ze4;refine⟨by simp[Y3],.inr ⟨g0,q1,(y.toList.take (I<|Zu h 0)++(M++y.toList.drop (I (Zu h 0)+I M))).toArray,?_,b3,?_,?_,j8,?_,?_⟩⟩;rw[ZfK,hd];rw[K];exact Zj4 _ _ _ _ _ _ Q;rw[ZfK,hd];exact j7;simp[O]at b1 b2⊢;omega;have ht:y.toList.take (I<|Zu h 0)=Y3 .u64 (Zu h 0):=by
   have:=Zg6 (List.take<|I<|Zu h 0) f5;rw[List.take_take,Zij Z0]at this;rw[this,ZiT i0]
  rw[ZfK,hd,ht];simp only[Zj6];rw[<-Zg1,ZiT (by simp[i0,O]),a8];simp[Y3];rw[Zf7 e8,h9 j e8];have ho:=q.own.own j o
  exact Xe ho λc f=>h8 c (q.am j o c f) (λe=>by
   obtain r|⟨_,r⟩:=a9;exact q.own.apart 0 j Z0 o c (by rw[<-r,e];rfl) f;have A:=(r.lt g0 rfl).1;have h2:=(ho.lt c f).2;omega) (ho.lt c f).2 (λe=>q.own.apart 0 j Z0 o c e.symm f)
 have g7:∀j,0<j->j<5->(x j).ownBlock≠J g0:=λj h0 o f=>by
  obtain r|⟨_,r⟩:=a9;exact q.own.apart 0 j h0 o g0 (by rw[<-r];rfl) f;have A:=(r.lt g0 rfl).1;have h2:=((q.own.own j o).lt g0 f).2;omega
 have j2:∀j,j<5->j≠p->(x j).ownBlock≠J g:=λj o F f=>by
  have h6:(x p).ownBlock=J g:=by rw[hx];rfl
  obtain A|A:=Zhp F;exact q.own.apart j p A Z0 g f h6;exact q.own.apart p j A o g h6 f
 have g9:B<=g:=((q.own.own p Z0).lt g (by rw[hx];rfl)).1;have b5:=q.own.own p Z0;rw[hx]at b5;have Z:∀W:World,W.heap[g]?=w.heap[g]? ->W.ownsRow B 22 1 (.slice (J ⟨g,0,U⟩) (I<|Zu h p) cap) (I<|Zu h p) (Y3 .u64<|Zu h p):=λW hW=>Xe b5 λc f=>by
  cases f;exact hW
 have j5:I (Y3 .u64<|Zu h p)=I (Zu h p):=by simp[Y3]
 have l:∀W:World,W.heap[g]?=w.heap[g]? ->(∀j,j<n->(W.cell? ⟨g,a+j,U⟩).isSome=xk)/\(∀j,j<n->W.frozen? ⟨g,a+j,U⟩=xw):=λW hW=>⟨λj o=>by
  rw[(Z W hW).cellAt (a+j) Z0];simp[j5];omega,λj o=>(Z W hW).frozenAt _⟩
 have g8:w3.heap[g]?=w.heap[g]? :=h8 g e4 b4 h7 e5;have HN:=Zf0 q;have HO:=Zf0 f2;have HG:=Zf0 z;have f9:=Zf0 H;have g3:=Zf0 K;have f8:=Zf0 Y;have d0:w3.cell? ⟨b,0,U⟩=J (Value.int .u64 h.base):=Zec;have d1:w3.cell? ⟨b,1,U⟩=J (Value.int .i64 h.cap):=Zec;have d2:w3.cell? ⟨b,2,U⟩=J (Value.int .i64 h.to):=Zec;have d3:w3.cell? ⟨b,3,U⟩=J (Value.bool h.M):=Zec;have d4:w3.cell? ⟨b,4,U⟩=J (Value.int .i64 h.Y):=Zec;have d5:w3.cell? ⟨b,5,U⟩=J (Value.slice (J ⟨g0,0,U⟩) (I (Zu h 0)+n) q1):=Zec;have d6:w3.cell? ⟨b,6,U⟩=J (x 1):=Zec;have d7:w3.cell? ⟨b,7,U⟩=J (x 2):=Zec;have d8:w3.cell? ⟨b,8,U⟩=J (x 3):=Zec;have d9:w3.cell? ⟨b,9,U⟩=J (x 4):=Zec;have j6:(Xd h (p+1) a n).ok:=I9 hh (by obtain rfl|rfl:=hp<;>exact j0) f3 S;clear q f2 z H K Y;go_enter Ej,Try.ntmps59
 go_wp2_with (first
  |(at_builtin;refine Lib.wpList_append_run _ rfl _ _ 25 3 rfl _ _ rfl rfl _ _ i3 ?_)
  |(rw[<-f9.out];refine wpList_copy_own rfl _ _ 25 25 rfl 22 Sq i6 g0 (I<|Zu h 0) n (q1- I (Zu h 0)) ⟨g,a,U⟩ n c' rfl rfl y 22 Q M i1 i5 b2 i2 ?_;rw[<-g3.out])
  |(go_at_call 29;refine(LE (h:=Xd h (p+1) a n) (x:=λj=>if j=0 then .slice (J ⟨g0,0,U⟩) (I (Zu h 0)+n) q1 else x j) (G:=λc=>B<=c/\c<xz (xj w3)) (λc f=>f.2)<|λj o=>S5 (f8.out j o) (λc A h2=>⟨A,h2⟩)).mono ?_;rintro e w4 ⟨rfl,g5⟩;have t:=Zf0 g5;clear g5)
  |(go_at_call 28;refine(jq j6.bj _ _ _).mono ?_;rintro e C ⟨rfl,a6⟩;have D:C.heap[g]?=w.heap[g]? :=(a6.block g (by have:=t.out.size;omega)).trans<|(t.out.block g<|by omega).trans g8;have k7:xz (xj w3)<=xz (xj C):=Zfw t.out.size a6.size;have a4:=Zf0 a6;clear a6;obtain⟨w6,a3⟩:∃w6,w6=C.setCells g a (List.replicate n<|.int .u64 0):=⟨_,rfl⟩;have k8:xz (xj w6)=xz (xj C):=by {rw[a3];exact NZ _ _ _ _};have c6:w6.cell? ⟨g,a,U⟩=J (.int .u64 0):=by {rw[a3];have:=World.cell?_setCells_in g (List.replicate n<|Value.int .u64 0) a C (by simpa using(l C D).1) 0 (by simpa using S);simpa using this};have f6:w6.frozen? ⟨g,a,U⟩=xw:=by {rw[a3,World.frozen?_setCells];exact(l C D).2 0 S};have a5:=Zf0 a3;clear a3)
  |(refine Z9D _ rfl _ 25 rfl _ rfl _ (Lib.run_clear_slice _ _ 22 _ (.int .u64 0) Sq (qr e7 i7) rfl rfl g a n c' S (l C D).1 (l C D).2) ?_;rw[<-a5.out])
  |(go_at_call 30;refine(MU Z0H _).mono ?_;rintro e w7 ⟨rfl,a7⟩;have c7:=(a7.cell (p:=⟨g,a,U⟩) (by show g<xz (xj w6);omega)).trans c6;have f7:=(a7.frozen (p:=⟨g,a,U⟩) (by show g<xz (xj w6);omega)).trans f6;have b6:=Zf0 a7;clear a7))
 go_ret
 have b7:Below B w w3:=by
  rw[g3.out,f9.out];exact Go.below_setRow (Below.setCell (p:=⟨b,5,U⟩) ((Zfg B w).grown HG.out hB<|λk hk=>((HN.out.own.own 0 Z0).lt k hk).1) HN.out.new _) b3 _
 have i9:B<=xz (xj w3):=Z0;have b8:Below B w C:=(b7.trans<|t.out.mono i9).trans<|a4.out.mono (by have:=t.out.size;omega);have b9:Below B w w6:=by rw[a5.out];exact NW g9 _ _ _ _ b8
 have c0:Below B w w7:=b9.trans<|b6.out.mono Z0;have k6:=t.out.size;have k4:=a4.out.size;have g4:∀(c:Nat) (u:Value),c≠g->c<xz (xj w3)->(w7.setCell ⟨g,a,U⟩ u).heap[c]?=w3.heap[c]? :=λc u A h2=>by
  rw[Zff _ _ _ _ A,b6.out.block c Z0,a5.out,NY A,a4.out.block c Z0,t.out.block c h2]
 have D:C.heap[g]?=w.heap[g]? :=(a4.out.block g Z0).trans<|(t.out.block g Z0).trans g8;have a1:=IS (L:=Zu h p) a n 0 C Z0<|Z C D;have e6:C.setCells g (a+0) (List.replicate n<|.int .u64 0)=w6:=a5.out.symm;rw[e6,ZfL]at a1;have f4:=Xe (w':=w7) a1 λc f=>by
  cases f;exact b6.out.block g Z0
 have a2:=(f4.stored a<|.int .u64<|Si h (p+1) a n).1;rw[<-J5]at a2;refine⟨λj=>if j=0 then .slice (J ⟨g0,0,U⟩) (I (Zu h 0)+n) q1 else x j,rfl,c0.setCell g9 _,?_,⟨?_,?_⟩,?_,HN.out.new⟩;rw[g4 b _ (λe=>e4 e.symm) Z0,d];obtain rfl|rfl:=hp<;>rfl;intro j o;by_cases e9:j=p;subst e9;have r:Zu (Vr (Xd h (j+1) a n) (j+1)<|(zr (Zu h j) a n).set a<|Si h (j+1) a n) j=(zr (Zu h j) a n).set a (Si h (j+1) a n):=by
  obtain rfl|rfl:=hp<;>rfl
 rw[r,Zf7 Z0,hx,Zgx,jb];exact a2;have r:Zu (Vr (Xd h (p+1) a n) (p+1)<|(zr (Zu h p) a n).set a<|Si h (p+1) a n) j=Zu (Xd h (p+1) a n) j:=by
  have:j=0\/j=1\/j=2\/j=3\/j=4:=Z0;obtain rfl|rfl:=hp<;>obtain rfl|rfl|rfl|rfl|rfl:=this<;>first|rfl|exact(e9 rfl).elim
 rw[r];have ho:=f8.out j o;refine Xe ho λc f=>g4 c _ (λe=> ?_) (ho.lt c f).2;subst e;by_cases h0:j=0;rw[Zfc h0]at f;cases f;exact b4 rfl;rw[Zf7 h0]at f;exact j2 j o e9 f;intro i j j3 o c f;rw[Zf7 (Z0:¬j=0)];by_cases h0:i=0;rw[Zfc h0]at f;cases f;exact g7 j Z0 o;rw[Zf7 h0]at f;exact HN.out.own.apart i j j3 o c f;intro j o c f;by_cases h0:j=0;rw[Zfc h0]at f;cases f;exact R;rw[Zf7 h0]at f;exact HN.out.am j o c f
end Vm
namespace Vm
open Go Go.Proofs Go.RowKit
def Z2u(w:World)(B b:Nat)(h:Hp)(x:Nat->Value)(j:Now B w b h x)(o:h.ok)(p a:Nat)(q:p=2\/p=3)(g cap:Nat)
  (hx:x p=.slice (J ⟨g,0,U⟩) (I<|Zu h p) cap) (u:a< I (Zu h p)):
  Calls xP 56 #[.pointer<|J ⟨b,0,U⟩,.agg #[.int .i64<|(p:Int)+1,.int .i64 a]] w λe r=>e=.returned (.slice (J ⟨g,a,U⟩) (I (Zu h p)-a)<|cap-a)/\Below (xz<|xj w) w r:=by
 have f:=ZV j.blk;have y:=QZ o p;have l:I (Zu h p)<=cap:=by
  have:=(j.own.own p Z0).2;rw[hx]at this;obtain⟨k,_⟩|⟨_,_,_,k,_,_,n,_⟩:=this;cases k;cases k;exact n
 obtain rfl|rfl:=q
 .have c7:(w.alloc<|.cells #[.int .i64 3,.int .i64 a] 85).cell? ⟨b,7,U⟩=J (.slice (J ⟨g,0,U⟩) (I<|Zu h 2) cap):=by
   rw[Zgv _ _ _ f,Zf6 _ _ _ _ _ _ j.blk,<-hx];rfl
  have d:(I (Zu h 2):Int)<=9223372036854775807:=Z0;go_enter jk,Try.ntmps56;go_wp2;go_region;go_wp2;go_ret
  exact⟨rfl,((Zfg _ _).alloc (Zf3 _) _).drew⟩
 .have t:(w.alloc<|.cells #[.int .i64 4,.int .i64 a] 85).cell? ⟨b,8,U⟩=J (.slice (J ⟨g,0,U⟩) (I<|Zu h 3) cap):=by
   rw[Zgv _ _ _ f,Zf6 _ _ _ _ _ _ j.blk,<-hx];rfl
  have d:(I (Zu h 3):Int)<=9223372036854775807:=Z0;go_enter jk,Try.ntmps56;go_wp2;go_region;go_wp2;go_ret
  exact⟨rfl,((Zfg _ _).alloc (Zf3 _) _).drew⟩
end Vm
namespace Vm
open Go Go.Proofs Go.RowKit
def FwdPost(w:World)(r:Int×Hp×Int)(e:Ending)(w':World):Prop:=
 ∃x,e=.returned (.tuple #[.int .u64 r.1,Zx r.2.1 x,.int .i64 r.2.2])/\Below (xz<|xj w) w w'/\HOwn (xz<|xj w) w' r.2.1 x
def KQ{B' B}{w:World}{e n v l}(h:w.ownsRow B' e 1 v n l)(k:∀c,B'<=c->c<xz (xj w)->B<=c/\c<xz (xj w)):w.ownsRow B e 1 v n l:=by
 refine⟨h.1,?_⟩;obtain d|⟨g,cap,a,j,o,f,r⟩:=h.2;exact .inl d;exact .inr ⟨g,cap,a,j,Ze2,f,r⟩
def JA w' G:∀j,j<5->Rd w' G (.sl<|(Zu Hp.zero j).map vu) (.slice U 0 0):=λj a=>by
 have:Zu Hp.zero j=[]:=by
  unfold Zu Hp.zero;split;rfl;split;rfl;split;rfl;split<;>rfl
 rw[this];exact .nil _ _ Zej
def Dq B w':HOwn B w' Hp.zero (λ_=>.slice U 0 0):=⟨λj d=>by
 have:Zu Hp.zero j=[]:=by
  unfold Zu Hp.zero;split;rfl;split;rfl;split;rfl;split<;>rfl
 rw[this];exact Zgl _ _ _ _,λi j _ _ c a=>by cases a⟩
def Dp(w:World)(o:Obj):((w.alloc o).alloc<|.cells #[.int .u64 0,.int .i64 0,.int .i64 0,.bool xw,.int .i64 0,.slice U 0 0,.slice U 0 0,.slice U 0 0,.slice U 0 0,.slice U 0 0] 27).heap[xz (xj w)+1]?=J (.cells ZI 27 (0,0)):=by
 have e:xz (xj<|w.alloc o)=xz (xj w)+1:=Z1;have:=Zfq (w.alloc o)<|.cells ZI 27;rw[e]at this;exact this
end Vm
namespace Vm
open Go Go.Proofs Go.RowKit
def Dh(h:Hp)(x:Nat->Value):Obj:=.cells #[.int .u64 h.base,.int .i64 h.cap,.int .i64 h.to,.bool h.M,.int .i64 h.Y,x 0,x 1,x 2,x 3,x 4] 134
def Z5k{B a h x}(f:HOwn B a h x)(k:B<=xz (xj a)):Now B (a.alloc<|Dh h x) (xz<|xj a) h x:=by
 refine⟨Zfq a _,⟨λj d=> ?_,f.apart⟩,λj d c g=> ?_,k⟩;exact Xe (f.own j d) λc g=>Zfa _ _ _ ((f.own j d).lt c g).2;have:=((f.own j d).lt c g).2;omega
def Fp(W:World):W.drew.heap=W.heap:=rfl
def Z6O{w2:World}{b c:Nat}(hc:c≠b){v0 v1 v2 v3 v4 v5 v6 v7 v8 v9:Value}:(UO w2 b v0 v1 v2 v3 v4 v5 v6 v7 v8 v9).drew.heap[c]?=w2.heap[c]? :=by
 rw[Fp];exact Va hc
def KP{w:World}{B n q e z a v xs}(h:w.ownsRow B e z v n xs)(j:v=.slice a n q)(l:0<n):∃g,a=J ⟨g,0,U⟩:=by
 subst j;obtain⟨_,k⟩|⟨g,cap,d,f,_⟩:=h.2;omega;cases f;exact⟨g,rfl⟩
def Z5Y{w:World}{B n q e z a xs}(h:w.ownsRow B e z (.slice a n q) n xs)(o:0<n):n<=q/\q<=maxLen:=by
 obtain⟨_,l⟩|⟨g,cap,d,k,_,_,f,j,_⟩:=h.2;omega;cases k;exact⟨f,j⟩
def BD{w:World}{B g cap:Nat}{l:List Int}(h:w.ownsRow B 22 1 (.slice (J ⟨g,0,U⟩) (I l) cap) (I l)<|Y3 .u64 l){i:Nat}{v:Int}(a:l[i]?=J v):w.cell? ⟨g,i,U⟩=J (.int .u64 v):=by
 obtain⟨d,f⟩:=ZeW.1 a;rw[h.cellAt i Z0];simp[Y3,a]
abbrev Uu:=List<|Nat×Array Value×TypeId
structure Kp (w W:World) (L:Uu):Prop where
 bp:Below (xz<|xj w) w W
 row:∀x∈L,W.heap[x.1]?=J (.cells x.2.1 x.2.2 (0,0))
def Kf(W:World):Uu->Prop
 | []=>True
 |x::L=>((∀j,W.cell? ⟨x.1,j,U⟩=x.2.1[j]?)/\∀j,W.frozen? ⟨x.1,j,U⟩=xw)/\Kf W L
def Kp.below{w W W':World}{L:Uu}(k:Kp w W L)(a:Below (xz<|xj W) W W'):Kp w W' L:=⟨k.bp.trans<|a.mono k.bp.size,λx d=>(a.block _<|ZV<|k.row x d).trans<|k.row x d⟩
def Kp.alloc{w W:World}{L:Uu}(k:Kp w W L)(cs:Array Value)(T:TypeId){n:Nat}(d:xz (xj W)=n:=by first|rfl):Kp w (W.alloc<|.cells cs T)<|(n,cs,T)::L:=by
 subst d;refine⟨k.bp.alloc k.bp.size _,λx a=> ?_⟩;obtain rfl|a:=Zfi.1 a;exact Zfq W _;rw[Zfa _ _ _<|ZV<|k.row x a];exact k.row x a
def Kp.F{w W:World}:∀ {L:Uu},Kp w W L->Kf W L
 | [],_=>trivial
 |x::L,k=>⟨⟨λj=>Zf6 _ _ _ _ _ _<|k.row x<|.head _,λj=>Y9<|k.row x<|.head _⟩,Kp.F ⟨k.bp,λy a=>k.row y<|.tail _ a⟩⟩
def Now.below{B b:Nat}{W W':World}{h:Hp}{x:Nat->Value}(s:Now B W b h x)(a:Below (xz<|xj W) W W'):Now B W' b h x:=
 ⟨(a.block _<|ZV s.blk).trans s.blk,⟨λj d=>Xe (s.own.own j d) λc f=>a.block _ ((s.own.own j d).lt c f).2,s.own.apart⟩,s.am,s.new⟩
abbrev We(h:Hp)(a:Nat->Option Addr)(q:Nat->Nat):Nat->Value:=λj=>.slice (a j) (I<|Zu h j)<|q j
def HOwn.lj{B:Nat}{w:World}{h:Hp}{x:Nat->Value}(o:HOwn B w h x):∃a q,Zx h x=Zx h (We h a q)/\HOwn B w h (We h a q):=by
 have:∀j,∃p:Option Addr×Nat,j<5->x j=.slice p.1 (I<|Zu h j) p.2:=λj=>by
  by_cases d:j<5;obtain⟨a,q,e⟩:=XK<|o.own j d;exact⟨(a,q),λ_=>e⟩;exact⟨(U,0),λh=>absurd h d⟩
 obtain⟨f,e⟩:=Zhh this;refine⟨λj=>(f j).1,λj=>(f j).2,?_,λj d=> ?_,λi j g d c k=> ?_⟩;simp only[Zx,e 0 Z0,e 1 Z0,e 2 Z0,e 3 Z0,e 4 Z0];have:=o.own j d;rwa[e j d]at this;have:=o.apart i j g d c;rw[e i Z0,e j d]at this;exact this k
def Z9P{w W:World}{L:Uu}(k:Kp w W L){rb:Nat}(a:xz (xj w)<=rb){r:Int×Hp×Int}{c:Int}(e:r=(0,Hp.zero,c)):
  FwdPost w r (.returned<|.tuple #[.int .u64 0,.agg ZI,.int .i64 r.2.2]) (UO W rb (.int .u64 0) (.int .i64 0) (.int .i64 0) (.bool xw) (.int .i64 0) (.slice U 0 0) (.slice U 0 0) (.slice U 0 0) (.slice U 0 0)<|.slice U 0 0):=by
 subst e;exact⟨λ_=>.slice U 0 0,by simp[Zx,Hp.zero,ZI],Wq k.bp a,Dq _ _⟩
def FwdPost.drew{w W:World}{r:Int×Hp×Int}{e:Ending}(p:FwdPost w r e W):FwdPost w r e W.drew:=by
 obtain⟨x,d,f,a⟩:=p;exact⟨x,d,f.drew,⟨λj g=>Xe (a.own j g) λc h=>rfl,a.apart⟩⟩
def Gs{w W:World}{rb B:Nat}{L:Uu}(k:Kp w W L)(f:xz (xj w)<=rb)(p:rb<B){h:Hp}{x:Nat->Value}(o:HOwn B W h x){r:Int×Hp×Int}(c:Int)(e:r=(c,h,0)):
  FwdPost w r (.returned<|.tuple #[.int .u64 c,Zx h x,.int .i64 0]) (Rh W rb h x):=by
 subst e;refine⟨x,rfl,Wq k.bp f,λj l=> ?_,o.apart⟩;have a:=o.own j l;exact KQ (Xe a λc g=>Va (by have:=(a.lt c g).1;omega)) λc n d=>⟨Z0,d⟩
def DI(w:World)(G:Nat->Prop)(n:∀b,G b->b<xz (xj w))(h:Hp)(p:h.ok)(d:Nat->Value)(t:∀j,j<5->Rd w G (.sl<|(Zu h j).map vu) (d j)):
  Calls xP 24 #[Zx h d] w λe g=>∃a q,e=.returned (Zx h<|We h a q)/\Below (xz<|xj w) w g/\HOwn (xz<|xj w) g h (We h a q):=
 (jd w G n h p d t).mono λe g ⟨x,k,o,r⟩=>by
  obtain⟨a,q,l,f⟩:=r.lj;exact⟨a,q,by rw[k,l],o,f⟩
def Z2z{h:Hp}(P:h.ok){v:Int}(S:ZA v):
  (ZQ (Zv h)=xw/\fwd h v=(0,Hp.zero,1))\/(ZQ (Zv h)=xk/\¬v=0/\¬(adr v).2=0/\fwd h v=(0,Hp.zero,3))\/(ZQ (Zv h)=xk/\¬v=0/\(adr v).2=0/\¬(Y8 (Zv h) (adr v).1).2.2=0/\fwd h v=(0,Hp.zero,6))\/
  (ZQ (Zv h)=xk/\v=0/\fwd h v=(0,h,0))\/(∃(part:Int) (at_:Nat),ZQ (Zv h)=xk/\¬v=0/\(adr v).2=0/\Y8 (Zv h) (adr v).1=(part,(at_:Int),0)/\(part=1\/part=2)/\fwd h v=(v,h,0))\/
  ∃(j at_:Nat) (f:Int),ZQ (Zv h)=xk/\¬v=0/\(adr v).2=0/\Y8 (Zv h) (adr v).1=((j:Int)+1,(at_:Int),0)/\(j=2\/j=3)/\(Zu h j)[at_]?=J f/\ZA f/\
   (((adr f).2=0/\fwd h v=(f,h,0))\/(¬(adr f).2=0/\∃(sz:Nat) (pt x:Int),ZN f=((sz:Int),pt,x)/\sz<=255/\
     ((¬x=0/\fwd h v=(0,Hp.zero,3))\/(x=0/\I (Zu h j)<at_+(sz+1)/\fwd h v=(0,Hp.zero,2))\/
       (x=0/\at_+(sz+1)<=I (Zu h j)/\XG (Zv h)< ((sz+1:Nat):Int)/\fwd h v=(0,Hp.zero,7))\/
       (x=0/\at_+(sz+1)<=I (Zu h j)/\¬XG (Zv h)< ((sz+1:Nat):Int)/\
        fwd h v=(Si h ((j:Int)+1) at_<|sz+1,Vr (Xd h ((j:Int)+1) at_<|sz+1) ((j:Int)+1)<|(zr (Zu h j) at_<|sz+1).set at_<|Si h ((j:Int)+1) at_<|sz+1,0))))):=by
 cases p:ZQ<|Zv h;exact .inl ⟨rfl,by simp[fwd,p]⟩;by_cases a:v=0;exact .inr<|.inr<|.inr<|.inl ⟨rfl,a,by simp[fwd,p,a]⟩;by_cases o:(adr v).2=0;case neg=>exact .inr<|.inl ⟨rfl,a,o,by simp[fwd,p,a,o]⟩
 by_cases D:(Y8 (Zv h) (adr v).1).2.2=0;case neg=>exact .inr<|.inr<|.inl ⟨rfl,a,o,D,by simp[fwd,p,a,o,D]⟩
 obtain⟨_,L,M,N,G,_⟩:=Z2a D;rw[US ⟨L,M⟩]at G;obtain⟨k,K⟩:=Zfd N;have t:Y8 (Zv h) (adr v).1=((Y8 (Zv h) (adr v).1).1,(k:Int),0):=by rw[<-K,<-D]
 rw[K]at G;generalize (Y8 (Zv h) (adr v).1).1=part at*;by_cases u:part<3;exact .inr<|.inr<|.inr<|.inr<|.inl ⟨part,k,rfl,a,o,t,Z0,by simp[fwd,p,a,o,t,u]⟩;obtain⟨j,Q,rfl,l⟩:∃j:Nat,(j=2\/j=3)/\(j:Int)+1=part/\Zy h part=Zu h j:=by
  have:part=3\/part=4:=Z0;obtain rfl|rfl:=this;exact⟨2,.inl rfl,rfl,rfl⟩;exact⟨3,.inr rfl,rfl,rfl⟩
 have r:=(Xy P<|(j:Int)+1).1;rw[l]at G r;have y:k< I (Zu h j):=Z0;have C:(Zu h j)[k]?=J (Zu h j)[k]:=ZeX y;replace r:=r _<|Zfr y;generalize (Zu h j)[k]=f at*;have z:(Zu h j).getD k 0=f:=by simp[List.getD,C]
 refine .inr<|.inr<|.inr<|.inr<|.inr ⟨j,k,f,rfl,a,o,t,Q,C,r,?_⟩;by_cases g:(adr f).2=0;exact .inl ⟨g,by simp[fwd,p,a,o,t,u,l,-List.getD_eq_getElem?_getD,z,g]⟩;refine .inr ⟨g,?_⟩;by_cases d:(ZN f).2.2=0;have R:=YH.1<|D6 (w:=f) d;obtain⟨n,F⟩:=Zfd R.1;have H:ZN f=((n:Int),(ZN f).2.1,(ZN f).2.2):=by rw[<-F]
 refine⟨n,_,_,H,Z0,.inr ?_⟩;by_cases q:I (Zu h j)<k+(n+1);exact .inl ⟨d,q,by simp[fwd,SI,p,a,o,t,u,l,-List.getD_eq_getElem?_getD,z,g,d,F,q]⟩;by_cases A:XG (Zv h)< ((n+1:Nat):Int);exact .inr<|.inl ⟨d,Z0,A,by simp[fwd,SI,p,a,o,t,u,l,-List.getD_eq_getElem?_getD,z,g,d,F,q];omega⟩;refine .inr<|.inr ⟨d,Z0,A,?_⟩;have B:¬XG (Zv h)< (n:Int)+1:=Z0;simp only[fwd,p,a,o,t,ZfV,ZfT,Zil,Zjb,Ziy];simp[-List.getD_eq_getElem?_getD,u,l,z,g,F,d,SI,q,B];exact⟨rfl,rfl⟩;have O:ZN f=(((0:Nat):Int),(ZN f).2.1,(ZN f).2.2):=by
  unfold ZN at d⊢;split;rename_i c;rw[Zfc c]at d;exact absurd rfl d;rfl
 exact⟨0,_,_,O,Z0,.inl ⟨d,by simp[fwd,p,a,o,t,u,l,-List.getD_eq_getElem?_getD,z,g,d]⟩⟩
abbrev FwQ{w W:World}{L:Uu}{B b c d:Nat}{h:Hp}{x:Nat->Value}{r s:Array Value}{T S:TypeId}(_:Hid<|Kp w W L)(_:Hid<|Now B W b h x)(_:(c,r,T)∈L)(_:(d,s,S)∈L)(W:World):Prop:=
 (∀j,W.cell? ⟨c,j,U⟩=r[j]?)/\(∀j,W.cell? ⟨d,j,U⟩=s[j]?)/\Kp w W L/\Now B W b h x
theorem FwQ.of{w W V:World}{L:Uu}{B b c d:Nat}{h:Hp}{x:Nat->Value}{r s:Array Value}{T S:TypeId}{k:Hid (Kp w W L)}{n:Hid (Now B W b h x)}{m:(c,r,T)∈L}{m':(d,s,S)∈L}(e:Kp w V L)(o:Now B V b h x):FwQ k n m m' V:=
 ⟨λj=>Zf6 _ _ _ _ _ _<|e.row _ m,λj=>Zf6 _ _ _ _ _ _<|e.row _ m',e,o⟩
def Kp.drew{w W:World}{L:Uu}(k:Kp w W L):Kp w W.drew L:=⟨k.bp.drew,k.row⟩
def Now.drew{B b:Nat}{W:World}{h:Hp}{x:Nat->Value}(s:Now B W b h x):Now B W.drew b h x:=⟨s.blk,⟨λj a=>Xe (s.own.own j a) λc d=>rfl,s.own.apart⟩,s.am,s.new⟩
def Kp.sub{w W W':World}{L:Uu}(k:Kp w W L){B c:Nat}{r:Array Value}{T:TypeId}(a:Below B W W')(d:xz (xj w)<=B)(m:(c,r,T)∈L)(hc:c<B):Kp w W' [(c,r,T)]:=
 ⟨k.bp.trans<|a.mono d,λx f=>by
  cases ZfZ.1 f;exact(a.block _ hc).trans (k.row _ m)⟩
def Now.lj{B b:Nat}{W:World}{h:Hp}{x:Nat->Value}(s:Now B W b h x):∃a q,Now B W b h<|We h a q:=by
 obtain⟨a,q,e,o⟩:=s.own.lj;simp only[Zx,Value.agg.injEq]at e;have d:=s.blk;rw[e]at d;refine⟨a,q,d,o,λj f c g=> ?_,s.new⟩;simp at e;have:=s.am j f c
 match j,f with
 |0,_|1,_|2,_|3,_|4,_=>simp_all
def yI{w:World}{B g cap:Nat}{l:List Int}{a:Option Addr}(h:w.ownsRow B 22 1 (.slice a (I l) cap) (I l)<|Y3 .u64 l)(d:a=J ⟨g,0,U⟩){i:Nat}{v:Int}(f:l[i]?=J v):w.cell? ⟨g,i,U⟩=J (.int .u64 v):=by
 subst d;exact BD h f
def DC(w:World)(G:Nat->Prop)(hG:∀b,G b->b<xz (xj w))(h:Hp)(hh:h.ok)(f:Nat->Value)(hs:∀j,j<5->Rd w G (.sl<|(Zu h j).map vu) (f j))(v:Int)(hv:ZA v):
  Calls xP 34 #[Zx h f,.int .u64 v] w (FwdPost w<|fwd h v):=by
 have HS:=Zf0 hs;have K:=Zf0 hh;have HW:=Z2z hh hv;clear hs hh;have KZ:=Zf0<|((Kp.mk (Zfg (xz<|xj w) w) (L:=[]) nofun).alloc #[.int .u64 h.base,.int .i64 h.cap,.int .i64 h.to,.bool h.M,.int .i64 h.Y,f 0,f 1,f 2,f 3,f 4] 27).alloc ZI 27 (n:=xz (xj w)+1) Z1;unfold Zx;go_enter E8,Try.ntmps34;obtain⟨hr,d⟩|⟨hr,a1,h1,d⟩|⟨hr,a1,h1,h2,d⟩|⟨hr,rfl,d⟩|⟨part,at_,hr,a1,h1,hf,rfl|rfl,d⟩|⟨j,at_,wd,hr,a1,h1,hf,O,u,b0,H⟩:=HW
 rotate_right
 have h5:j<5:=Z0;have hp:(j:Int)+1=3\/(j:Int)+1=4:=by clear H;omega
 have b4:=(ZeW.1 u).1;have e5:=QZ K.out j;obtain⟨m,hm⟩:∃m,I (Zu h j)-at_=m:=⟨_,rfl⟩;have e3:0<m:=Z0;have e4:(0:Int)< (m:Int):=Z0;have hz:at_+0=at_:=rfl;have e6:m<=1000000:=Z0;have e2:at_+m=I (Zu h j):=Z0;generalize b5:(j:Int)+1=part at hp hf;obtain⟨H,d⟩|⟨H,sz,pt,er,c0,g3,⟨Z,d⟩|⟨Z,t,d⟩|⟨Z,t,a8,d⟩|⟨Z,t,a8,d⟩⟩:=H;iterate 5 (obtain rfl|rfl:=hp;rotate_left 2)
 all_goals
  go_wp2_with (first
   |(go_at_call 56;obtain⟨g,hg⟩:=KP (N6.out.own.own j h5) rfl (by omega);have a0:=Z2u _ _ _ h _ N6.out K.out j at_ O g (q j) (by simp[We,hg]) b4;rw[b5,hm]at a0;refine a0.mono ?_;clear a0;rintro e w7 ⟨rfl,B⟩;have e1:=Z5Y (N6.out.own.own j h5) (by omega);obtain⟨qm,b6⟩:∃qm,q j-at_=qm:=⟨_,rfl⟩;rw[b6];have k7:=K6.out.below B;have n:=N6.out.below B;have b9:=B.size;simp at b9;have k:=k7.F;simp only[Kf,ZI]at k;obtain⟨⟨n7,m7⟩,⟨p7,_⟩,⟨c7,f7⟩,⟨y7,z7⟩,_⟩:=k;have d7:=yI (n.own.own j h5) hg u;have Q:=Zf0 n.own;have N7:=Zf0 n;have K7:=Zf0 k7;have l:=K7;clear k7 B n n6 m6 p6 c6 f6 y6 z6)
   |(go_at_call 38;have k7:=K7.out;refine(Sr b0 _).mono ?_;rintro e w8 ⟨rfl,C⟩;have k8:=k7.below C;have n:=N7.out.below C;have f0:=C.size;have k:=k8.F;simp only[Kf,ZI]at k;obtain⟨⟨n8,m8⟩,⟨p8,_⟩,⟨c8,f8⟩,⟨y8,z8⟩,_⟩:=k;have d8:=yI (n.own.own j h5) hg u;have Q:=Zf0 n.own;have N8:=Zf0 n;have K8:=Zf0 k8;have l:=K8;clear k7 k8 C n n7 m7 p7 c7 f7 y7 z7 d7)
   |(go_at_call 57;refine(Jt b0 _).mono ?_;rintro e w9 ⟨rfl,D⟩;rw[c0];dsimp only;have f1:=D.size;have k9:=(K8.out.below D).alloc #[.int .i64 (sz:Nat),.int .i64 pt] 36;have n:=(N8.out.below D).below<|(Zfg _ _).alloc (Zf3 _)<|.cells #[.int .i64 (sz:Nat),.int .i64 pt] 36;have k:=k9.F;simp only[Kf,ZI]at k;obtain⟨⟨s9,_⟩,⟨n9,m9⟩,⟨p9,_⟩,⟨c9,f9⟩,⟨y9,z9⟩,_⟩:=k;have d9:=yI (n.own.own j h5) hg u;have Q:=Zf0 n.own;have N9:=Zf0 n;have K9:=Zf0 k9;have l:=K9;clear k9 D n n8 m8 p8 c8 f8 y8 z8 d8)
   |(go_at_call 29;refine(LE (h:=h) (x:=f) (G:=G) (λc hc=>by have:=hG c hc;simp;omega) (λj O=>(HS.out j O).keep (λb z=>by have:=hG b z;rw[Zfa _ _ _ (by simp;omega),Zfa _ _ _ (by omega)])<|λ_ h=>h)).mono ?_;rintro e w1 ⟨rfl,W⟩;unfold Tk;have K1:=Zf0<|KZ.out.below W;have a9:=W.size;simp at a9;clear W)
   |(go_at_call 44;refine(Z7w K.out.bj _).mono ?_;rintro e w2 ⟨rfl,X⟩;rw[hr];have k2:=(K1.out.alloc _ _).below X;have b7:=X.size;simp at b7;have k:=k2.F;simp only[Kf,ZI]at k;obtain⟨⟨c2,f2⟩,⟨y2,z2⟩,⟨x2,_⟩,_⟩:=k;have K2:=Zf0 k2;have l:=K2;clear k2 X)
   |(go_at_call 38;refine(Sr hv _).mono ?_;rintro e w3 ⟨rfl,o⟩;have k3:=K2.out.below o;have e8:=o.size;have k:=k3.F;simp only[Kf,ZI]at k;obtain⟨⟨c3,f3⟩,⟨y3,z3⟩,⟨x3,_⟩,_⟩:=k;have K3:=Zf0 k3;have l:=K3;clear k3 o c2 f2 y2 z2 x2)
   |(go_at_call 55;refine(Z29 K.out.bj (Z0I hv) _).mono ?_;rintro e w4 ⟨rfl,Y⟩;(try (rw[hf];dsimp only));have e9:=Y.size;have k4:=K3.out.below Y;have k:=λcs T=>(k4.alloc cs T).F;simp only[Kf,ZI,forall_and]at k;obtain⟨_,⟨c4,f4⟩,⟨y4,z4⟩,⟨x4,_⟩,_⟩:=k;have K4:=Zf0 k4;have l:=Zf0<|k4.alloc #[.int .i64 (Y8 (Zv h) (adr v).1).1,.int .i64 (Y8 (Zv h) (adr v).1).2.1] 85;clear k4 Y c3 f3 y3 z3 x3)
   |(go_at_call 24;have kg:=K4;refine(DI _ G (λb z=>by have:=hG b z;simp;omega) h K.out f (λj O=>(HS.out j O).keep (λb z=>(K4.out.bp.alloc (by have:=K4.out.bp.size;omega) _).block b<|hG b z)<|λ_ h=>h)).mono ?_;rintro e w5 ⟨a,q,rfl,A,a7⟩;have k5:=(K4.out.alloc _ _).below A;have b8:=A.size;simp at b8;have hN:=Z5k a7 A.size;have k6:Kp w (w5.alloc<|Dh h<|We h a q) _:=k5.alloc _ _;unfold Zx;unfold Dh at k6 hN;dsimp only[We]at k6 hN⊢;have k:=k6.F;simp only[Kf,ZI]at k;obtain⟨⟨n6,m6⟩,⟨p6,_⟩,⟨c6,f6⟩,⟨y6,z6⟩,_⟩:=k;have Q:=Zf0 hN.own;have N6:=Zf0 hN;have K6:=Zf0 k6;have l:=K6;clear kg k5 k6 hN A a7 c4 f4 y4 z4 x4)
   |(go_at_call 24;refine(DI _ G (λb z=>by have:=hG b z;omega) h K.out f<|λj O=>(HS.out j O).keep (λb z=>K2.out.bp.block b<|hG b z) (λ_ h=>h)).mono ?_;rintro e w3 ⟨a,q,rfl,o,a6⟩;unfold Zx;dsimp only[We];have k3:=K2.out.below o;have k:=k3.F;simp only[Kf,ZI]at k;obtain⟨⟨c3,f3⟩,⟨y3,z3⟩,⟨x3,_⟩,_⟩:=k;have l:=Zf0 k3;have Q:=Zf0 a6;clear k3 o a6))
  try
   generalize f5:sz+1=sm at a8 t d;have g4:IntKind.i64.wrap ((sz:Int)+1)=(sm:Int):=by rw[ZB ((sz:Int)+1) Z0 Z0];omega
   have a9:(sm:Int)<=(qm:Int):=Z0;have e7:(0:Int)<=(sm:Int):=Z0;have HL:=Zf0 t;have S:=FwQ.of (k:=K9) (n:=N9) (m:=.tail _<|.tail _<|.tail _<|.head _) (m':=.head _) K9.out.drew N9.out.drew;clear s9 n9 m9 p9 c9 f9 y9 z9 d9 t
   go_region_held3 (FwQ K9 N9 (.tail _<|.tail _<|.tail _<|.head _)<|.head _) (first|exact S|assumption)
    (first|(go_at_call 58;refine(Z7z K.out.bj _).mono ?_;rintro e d5 ⟨rfl,M⟩;have S:=FwQ.of (k:=K9) (n:=N9) (m:=.tail _<|.tail _<|.tail _<|.head _) (m':=.head _) (S.2.2.1.below M)<|S.2.2.2.below M))
   obtain⟨-,-,a2,a4⟩:=S;rename_i R;clear R;have k:=a2.F;simp only[Kf,ZI]at k;obtain⟨⟨d0,_⟩,⟨b1,c1⟩,⟨yK,_⟩,⟨jB,b3⟩,⟨d6,e0⟩,_⟩:=k;have b2:=yI (a4.own.own j h5) hg u;have a5:=Zf0 a2;have l:=a5;have P:=Zf0 a4;clear a2 a4;go_wp2_with (first|(go_at_call 59;refine(Z1A d5 _ _ h _ P.out (by have:=ZV P.out.blk;have:=P.out.new;omega) K.out j at_ sm O Z0 Z0 Z0 g (q j) (by simp[We,hg]) (by have:=HL.out;omega) qm).mono ?_;rintro e g5 ⟨x',rfl,N,y⟩;obtain⟨a',q',y⟩:=y.lj;generalize Si h ((j:Int)+1) at_ sm=to at*;generalize Vr (Xd h ((j:Int)+1) at_ sm) ((j:Int)+1) ((zr (Zu h j) at_ sm).set at_ to)=h' at*;have a3:=a5.out.sub N (by have:=K1.out.bp.size;simp;omega) (c:=xz (xj w)+1) (r:=ZI) (T:=27) Z1 Ze4;have k:=a3.F;have n:=λj=>Zf6 _ _ j _ _ _ y.blk;simp only[Kf,ZI]at k;dsimp only[We]at n;have Q:=Zf0 y.own;have l:=Zf0 a3;clear a3 N y d0 b1 c1 yK jB b3 d6 e0 b2))
  have r:=Ul<|l.out.row (xz (xj w)+1,ZI,27) Z1;dsimp only at r;first
  |go_region
   all_goals
    go_wp2;try simp only[Exit.inBlock,Exit.then]
    refine ZfA ?_ rfl (Gs l.out Z0 Ze4 Q.out _ d).drew
  |have p:=Z9P l.out (rb:=xz (xj w)+1) (by omega) d
   refine ZfA ?_ rfl p
  |have p:=Gs l.out (rb:=xz (xj w)+1) (by omega) (by omega) Q.out _ d
   refine ZfA ?_ rfl p
  all_goals simp[results,Try.results34,go_sem,r,Zx,We,ZI,d]
end Vm
namespace Vm
open Go Go.Proofs Go.RowKit
def Tt{w G k n v}(r:Rd w G (.int k n) v):v=.int k n:=by cases r;rfl
def Cj{w G b v}(r:Rd w G (.bool b) v):v=.bool b:=by cases r;rfl
def zI{w G h v}(r:Rd w G (ZD h) v):∃f,v=Zx h f/\∀j,j<5->Rd w G (.sl<|(Zu h j).map vu) (f j):=by
 cases r with
 |agg _ vs t _ a=>
  refine⟨λj=>vs.getD (5+j) xy,?_,?_⟩;have g:=Tt<|a 0 _ rfl;have k:=Tt<|a 1 _ rfl;have l:=Tt<|a 2 _ rfl;have n:=Cj<|a 3 _ rfl;have o:=Tt<|a 4 _ rfl;have d:=t;unfold Zx;rw[<-g,<-k,<-l,<-n,<-o];congr 1;apply Zhq;simp[d];intro i u x;have p:i<10:=Z0
  match i,p with
  |0,_|1,_|2,_|3,_|4,_|5,_|6,_|7,_|8,_|9,_=>simp[Array.getD,d]
  intro j q
  match j,q with
  |0,_=>exact a 5 _ rfl
  |1,_=>exact a 6 _ rfl
  |2,_=>exact a 7 _ rfl
  |3,_=>exact a 8 _ rfl
  |4,_=>exact a 9 _ rfl
def RJ{w G h x}(d:∀j,j<5->Rd w G (.sl<|(Zu h j).map vu) (x j)):Rd w G (ZD h)<|Zx h x:=by
 refine .agg _ _ rfl Z1 ?_;intro i y a
 match i,a with
 |0,a=>cases a;exact .int _ _
 |1,a=>cases a;exact .int _ _
 |2,a=>cases a;exact .int _ _
 |3,a=>cases a;exact .bool _
 |4,a=>cases a;exact .int _ _
 |5,a=>cases a;exact d 0 Z0
 |6,a=>cases a;exact d 1 Z0
 |7,a=>cases a;exact d 2 Z0
 |8,a=>cases a;exact d 3 Z0
 |9,a=>cases a;exact d 4 Z0
end Vm
end
section
namespace Vm
open Go Go.Proofs Go.RowKit
def Rd.bo{w:Z3}{G:Z4}{l:List V}{v:Zc}(h:Rd w G (.sl l) v):∃a c,v=.slice a (I l) c:=by
 cases h with
 |nil a cap _=>exact⟨a,cap,rfl⟩
 |sl l b o cap k vs=>exact⟨_,cap,rfl⟩
def append_empty{P:Z6}{w:Z3}{t ty e:Zf}(u:P.underlying t=J (.slice e))(o:U8 P e=xk)(p a:Addr)(n c:Nat)(d:Zp)(r:I d=n*P.cellsOf e)(f:∀j v,d[j]?=J v->w.cell? (a.add j)=J v)(y:0<n)(h:n<=YJ):
  (Builtin.append_ #[t,t] ty #[.slice (J p) 0 0,.slice (J a) n c]).run P w=(Builtin.append_ #[t,t] ty #[.slice U 0 0,.slice (J a) n c]).run P w:=by
 obtain⟨i,z,q,x,C,D,l,k⟩:=Ry o;simp only[YJ]at h;have g:n*i.bytes<=140737488355328:=by
  have:n*i.bytes<=4294967296*32768:=Ziv h l;omega
 rw[run_append_nil (P:=P) w t ty e i z u q x a n c d (by rw[r,k]) f y Z0 Z0];have A:=run_append_grow (P:=P) w t ty e i z u q x p 0 0 [] Z1 (λj v B=>by simp at B) a n c d (by rw[r,k]) f Z0 Z0<|Zj1 Z0 (by simpa using g);simpa using A
def Z0M{w:Z3}(f:Option Addr){ty:Zf}{G:Z4}{l:Z9}{y:Zc}(hl:I l<=1000000)(Q:Rd w G (.sl<|l.map vu) y):
  ∃C h,(Builtin.append_ #[25,25] ty #[.slice f 0 0,y]).run xP w=.ok C h/\Below (xz<|xj w) w h/\Rd h (λc=>xz (xj w)<=c/\c<xz (xj h)) (.sl<|l.map vu) C:=by
 have F:=Sq;have g:∀(w:Z3),Rd w (λc=>xz (xj w)<=c/\c<xz (xj w)) (.sl ([]:List V))<|.slice f 0 0:=λw=>.nil _ _ Zej;by_cases t:l=[];subst t;obtain⟨i,z,hi,hz,a1,d,Z,a0⟩:=Ry (P:=xP) QB;have hv:∃a c,y=.slice a 0 c:=by
  obtain⟨a,c,e⟩:=Rd.bo Q;exact⟨a,c,by simpa using e⟩
 obtain⟨a,c,rfl⟩:=hv;refine⟨.slice f 0 0,w,?_,Zfg _ _,g w⟩;cases a<;>cases f<;>simp[Builtin.append_,ZfD F,Go.sizeOf,typeInfo,hi,Builtin.lenOf,Builtin.firstCells,loadCells,loadCellsFrom,storeCells]
 have W:0<I l:=ZgT.2 t;have key:(Builtin.append_ #[25,25] ty #[.slice f 0 0,y]).run xP w=(Builtin.append_ #[25,25] ty #[.slice U 0 0,y]).run xP w:=by
  obtain _|f:=f;rfl;have p:=Q;generalize A:l.map vu=L at p;cases p with
  |nil=>simp at A;exact absurd A t
  |sl _ b o cap kk vs d k X Y D R=>
   have T:I L=I l:=by rw[<-A,Zfu]
   have H:kk=1:=by
    obtain⟨x,hx⟩:=Zis l t;have:=(Y (vu x) (by rw[<-A];exact Zgz hx)).1;simpa using this.symm
   subst H;refine append_empty (P:=xP) F QB f ⟨b,o,U⟩ _ cap ((List.range<|I L).map vs) (by rw[Ux];simp) (λj u S=> ?_) Z0 (by simp only[YJ];omega);have M:j<I L:=by simpa using(ZeW.1 S).1
   have O:vs j=u:=by simpa[M]using S
   rw[ZgD,<-O];exact D j Z0
 obtain⟨C,h,q,N,d,k,X,_,D⟩:=Lj (P:=xP) (ty:=ty) (B:=xz<|xj w) (n:=0) (xs:=[]) F QB (Zgl w _ _ _) (Zf3 _) Q (by rw[Ux];exact qL _) (by simp only[YJ,Zfu];omega);rw[Ux]at d;have K:I q=I l:=by have:=d.1;simpa using this
 have R:=yn D K;rw[R]at d;simp only[Zfu,ZfL,ZfW]at d;refine⟨C,h,key.trans N,?_,S5 d λc d k=>⟨d,k⟩⟩;have hn:(Value.slice U 0 0).ownBlock=U:=rfl;rw[hn]at k;exact Below.grown (Zfg _ _) k (Zf3 _) (λr N=>by cases N)
def Z9H{w:Z3}{o:Oper}{a:Act}{K:Zq}{Q:Zh}(s x:Operand)
  (p:o.op=.call {callee:=.builtin .append,args:=#[s,x],argTypes:=#[25,25]}) {g:Option Addr} {y:Zc} (r:a.eval s=.slice g 0 0) (hx:a.eval x=y)
  {G:Z4} {l:Z9} (n:I l<=1000000) (t:Rd w G (.sl<|l.map vu) y)
  (h:∀f d,Below (xz<|xj w) w d->Rd d (λc=>xz (xj w)<=c/\c<xz (xj d)) (.sl<|l.map vu) f->K (a.put o.dst f) d):o.wp xP a w K Q:=by
 obtain⟨f,d,q,j,k⟩:=Z0M g (ty:=o.type) n t;unfold Oper.wp execOp;simp only[p,resolve,invoke,builtin,ZfJ,Zhu,ZfH,List.map_toArray,Zft,Zgq,r,hx,q];exact h f d j k
def P9{w:Z3}{ops:Zl}{rest:List Oper}{o:Oper}{a:Act}{Q:Zh}(g:o.guard=U)(s x:Operand)
  (r:o.op=.call {callee:=.builtin .append,args:=#[s,x],argTypes:=#[25,25]}) {j:Option Addr} {y:Zc} (t:a.eval s=.slice j 0 0) (hx:a.eval x=y)
  {G:Z4} {l:Z9} (q:I l<=1000000) (u:Rd w G (.sl<|l.map vu) y)
  (h:∀f d,Below (xz<|xj w) w d->Rd d (λc=>xz (xj w)<=c/\c<xz (xj d)) (.sl<|l.map vu) f->wpList xP ops Q rest (a.put o.dst f) d):wpList xP ops Q (o::rest) a w:=
 wpList_plain g λ_ p=>Z9H s x r t hx q u λf d k n=>p _ _<|h f d k n
def Ah(w:Z3){G:Z4}{l:Z9}{y:Zc}(j:I l<=1000000)(f:Rd w G (.sl<|l.map vu) y):
  Calls xP 43 #[y] w λe d=>∃v,e=.returned v/\Below (xz<|xj w) w d/\Rd d (λc=>xz (xj w)<=c/\c<xz (xj d)) (.sl<|l.map vu) v:=by
 obtain⟨a,c,rfl⟩:=Rd.bo f;go_enter Ed,Try.ntmps43;go_wp2_with (at_builtin;refine P9 rfl _ _ rfl rfl rfl j f ?_;intro g d h k)
 exact ZfA (v:=g) (by simp[results,Try.results43,go_sem]) rfl ⟨g,rfl,h,k⟩
def Z24(w:Z3)(n c:Nat):Sem.run xP (binOp .eql 25 (.slice U n c)<|.slice U 0 0) w=.ok (.bool xk) w:=ZeR
def Z25(w:Z3)(a:Addr)(n c:Nat):Sem.run xP (binOp .eql 25 (.slice (J a) n c)<|.slice U 0 0) w=.ok (.bool xw) w:=ZeR
def Py(w:Z3){G:Z4}(x:∀b,G b->b<xz (xj w)){l:Z9}{y:Zc}(A:I l<=1000000)(g:Rd w G (.sl<|l.map vu) y):
  Calls xP 54 #[y] w λe k=>∃v,e=.returned v/\Below (xz<|xj w) w k/\Rd k (λc=>xz (xj w)<=c/\c<xz (xj k)) (.sl<|l.map vu) v:=by
 obtain⟨a,c,rfl⟩:=Rd.bo g;cases a with
 |none=>
  have u:l=[]:=by
   generalize z:l.map vu=L at g;cases g with
   |nil=>simpa using z
  subst u;have q:=Z24 w 0 c;go_enter Ef,Try.ntmps54;simp only[Zgq,Zg2];go_wp2;exact ZfA (v:=.slice U 0 0) (by simp[results,Try.results54,go_sem]) rfl ⟨_,rfl,Zfg _ _,.nil _ _ Zej⟩
 |some p=>
  have q:=Z25 w p (I l) c;go_enter Ef,Try.ntmps54;have h:Rd (w.alloc<|.cells #[] 22) G (.sl<|l.map vu)<|.slice (J p) (I<|l.map vu) c:=g.keep (λb d=>Zfa _ _ _<|x b d) λ_ q=>q;have f:Below (xz<|xj w) w<|w.alloc<|.cells #[] 22:=(Zfg _ _).alloc (Zf3 _) _;have j:xz (xj<|w.alloc<|.cells #[] 22)=xz (xj w)+1:=Z1;have n:=Zf0<|And.intro f j;clear f j g;go_wp2_with (at_builtin;refine P9 rfl _ _ rfl rfl rfl A h ?_;intro t k d r;have o:=Zf0<|And.intro d r;clear d r h)
  refine ZfA (v:=t) (by simp[results,Try.results54,go_sem]) rfl ⟨t,rfl,n.out.1.trans<|o.out.1.mono (by rw[n.out.2];omega),o.out.2.mono λb d=>⟨by have:=n.out.2;omega,d.2⟩⟩
section
def QN(K:Zq)(Q:Zh):Exit->Act->World->Prop
 |.normal,a,w=>K a w
 |.ret,a,w=>Q .ret a w
 |.outgrown,a,w=>Q .outgrown a w
 |e,a,w=>Q e a w
section
variable {P:Z6}{ops:Zl}{Q:Zh}
def Z9E{i:Nat}{o:Oper}{K:Zq}{a:Act}{w:Z3}(k:ops[i]?=J o)(h:wpList P ops (QN K Q) [o] a w):wpOp P ops Q i K a w:=by
 unfold wpOp;rw[k];simp only;unfold wpList at h;split at h;rename_i f;rw[Zfc f];obtain h|⟨g,j⟩:=h;left;unfold Oper.wp at*;generalize (execOp a.eval o).run P w=r at*;cases r with
 |ok n l=>
  cases n<;>simp only[Oper.upon]at h⊢ <;>
   first
    |exact h
    |exact Zhc h (λe p d=>by cases e<;>exact d)
    |exact Rows.mono h (λ_ _ d=>d)
 |halt x l=>cases x<;>simp only[Oper.upon]at h⊢ <;>exact h
 exact .inr ⟨g,j⟩;rename_i f;rw[Zf7 f];exact h
def Z7l{id:Nat}{C:Act}{w0:Z3}(hm:P.follows .mixedOrders=xk)(y:∀(i:Nat) (o:Oper),ops[i]?=J o->∀e∈VS o,e<i)(I:(Nat->Bool)->Act->World->Prop)
  (S:I (λ_=>xw) C {w0 with drawn:=w0.drawn+1})
  (H:∀(L:Zs) (i:Nat) (o:Oper) (a:Act) (w:Z3),ops[i]?=J o->L i=xw->(∀j∈VS o,L j=xk)->I L a w->wpList P ops (QN (I<|add L i) Q) [o] a w)
  (M:∀(L:Zs) (a:Act) (w:Z3),(∀i,i<ops.size->L i=xk)->I L a w->Q .normal a w):(Code.region id ops xk).wp P Q C w0:=by
 have t:∀(listed:Array Bool) (i:Nat),listed.size=ops.size->i<ops.size->listed.getD i xk=listed.getD i xw:=by
  intro listed i l D;simp[Zf1,l,D]
 have h:∀(listed:Array Bool),listed.size=ops.size->Region.ready .any ops listed=[]->∀i,i<ops.size->listed.getD i xw=xk:=by
  intro listed f z i;induction i using Nat.strongRecOn with
  |_ i K=>
   intro q;cases Z:listed.getD i xw with
   |true=>rfl
   |false=>
    have:i∈Region.ready .any ops listed:=ZiN.2 ⟨by rw[t listed i f q];exact Z,ops[i],ZfM q,λe X W=>by
     have k:=y i ops[i] (ZfM q) e.on<|I3 X W;exact K e.on k Z0⟩
    rw[z]at this;simp at this
 refine wp_region_any hm ?_;have A:∀(d:Nat) (listed:Array Bool) (a:Act) (w:Z3),listed.size=ops.size->Lv ops.size (λi=>listed.getD i xw)<=d->I (λi=>listed.getD i xw) a w->wpAny P .any ops Q d listed a w:=by
  intro d;induction d with
  |zero=>
   intro listed a w f N B;have g:=Oz<|Nat.le_zero.1 N;refine⟨?_,M _ a w g B⟩;cases z:Region.ready .any ops listed with
   |nil=>rfl
   |cons i r=>
    have:i∈Region.ready .any ops listed:=by rw[z];simp
    obtain⟨l,o,x,_⟩:=ZiN.1 this;have q:i<ops.size:=(Zf2.1 x).1;rw[t listed i f q,g i q]at l;cases l
  |succ d K=>
   intro listed a w f N B;refine⟨λz=>M _ a w (h listed f z) B,λi q=> ?_⟩;obtain⟨l,o,x,g⟩:=ZiN.1 q;have k:i<ops.size:=(Zf2.1 x).1;rw[t listed i f k]at l;have p:(λj=>(listed.setIfInBounds i xk).getD j xw)=add (λi=>listed.getD i xw) i:=by
    funext j;simp only[add];by_cases u:j=i;subst u;have:j<listed.size:=Z0;simp[Zf1,this];have:(listed.setIfInBounds i xk).getD j xw=listed.getD j xw:=getD_set_ne xw<|ZgL u;rw[this];simp[u]
   have hs:=Z9E x (H _ i o a w x l (λj Y=>by
    obtain⟨R,D,T,rfl⟩:=Ft Y;exact g R D T) B)
   refine wpOp_mono (λO w' F=>K _ O w' Zek ?_ (by rw[p];exact F)) hs;rw[p];have:=Oy (n:=ops.size) (L:=λi=>listed.getD i xw) k l;omega
 have G:(λi=>(Array.replicate ops.size xw).getD i xw)=λ_=>xw:=by
  funext i;simp only[Zf1,Array.getElem?_replicate];split<;>rfl
 refine A _ _ C _ Z1 ?_ (by rw[G];exact S);exact Zfw (Zi4 _ _) Z1
end
def Q7(a:Act)(l:List<|Nat×Value):Act:= {a with tmps:=l.foldl (λt p=>t.setIfInBounds p.1 p.2) a.tmps}
def Br(ops:Zl):Bool:=(List.range ops.size).all λi=>match ops[i]? with|some o=>(VS o).all λe=>decide (e<i)|none=>xk
def Z5P{ops:Zl}(h:Br ops=xk):∀(i:Nat) (o:Oper),ops[i]?=J o->∀e∈VS o,e<i:=by
 intro i o a e d;unfold Br at h;rw[Zfb]at h;have:=h i (by simpa using(Zf2.1 a).1);rw[a]at this;simp only[Zfb,Zfp]at this;exact this e d
def UN(a:Act)(d:Zb)(v:Z5):Act:=Q7 a (d.map λs=>(s,v s))
def X2(v:Z5)(s:Nat)(x:Zc):Nat->Value:=λt=>if t=s then x else v t
def R6(v:Z5)(s:Nat)(x:Zc):X2 v s x s=x:=Zfc rfl
def Tw(v:Z5){s t:Nat}(x:Zc)(h:t≠s):X2 v s x t=v t:=Zf7 h
def Nm{P:Z6}{ops:Zl}{Q:Zh}{id:Nat}{d:Act}{w0:Z3}(g:Zb)(C:(Nat->Bool)->(Nat->Value)->World->Prop)
  (t:P.follows .mixedOrders=xk) (f:Br ops=xk) (l:∃v,d=UN d g v/\C (λ_=>xw) v {w0 with drawn:=w0.drawn+1})
  (k:∀(L:Zs) (i:Nat) (o:Oper) (v:Z5) (w:Z3),ops[i]?=J o->L i=xw->(∀j∈VS o,L j=xk)->C L v w->
   wpList P ops (QN (λa w=>∃v,a=UN d g v/\C (add L i) v w) Q) [o] (UN d g v) w)
  (p:∀(L:Zs) (v:Z5) (w:Z3),(∀i,i<ops.size->L i=xk)->C L v w->Q .normal (UN d g v) w):(Code.region id ops xk).wp P Q d w0:=by
 refine Z7l t (Z5P f) (λL a w=>∃v,a=UN d g v/\C L v w) l ?_ ?_;rintro L i o _ w u q r ⟨v,rfl,h⟩;exact k L i o v w u q r h;rintro L _ w n ⟨v,rfl,h⟩;exact p L v w n h
def LN(L:Zs)(i:Nat):add L i i=xk:=by simp[add]
def Wt{L:Zs}{i j:Nat}(h:j≠i):add L i j=L j:=by simp[add,h]
end
section
def Jq{v:Z5}{s:Nat}{x:Zc}(h:v s=x):X2 v s x=v:=by
 funext t;unfold X2;by_cases e:t=s;rw[Zfc e,e,h];rw[Zf7 e]
def Ua(h:Hp)(i:Nat):List Int:=if i=9 then h.H else if i=12 then h.aa else h.E
def VT(h:Hp)(y:Z5):Array Value:=#[.int .u64 h.base,.int .i64 h.cap,.int .i64<|1-h.to,.bool xw,.int .i64 0,.slice U 0 0,.slice U 0 0,y 9,y 12,y 15]
def UA(bh:Nat)(h:Hp)(src:Z5):Nat->Value
 |0=>.pointer<|J ⟨bh,0,U⟩
 |1=>.int .u64 h.base
 |2=>.pointer<|J ⟨bh,1,U⟩
 |3=>.int .i64 h.cap
 |4=>.pointer<|J ⟨bh,2,U⟩
 |5=>.int .i64 h.to
 |6=>.int .i64<|1-h.to
 |7=>.pointer<|J ⟨bh,5,U⟩
 |8=>src 0
 |10=>.pointer<|J ⟨bh,6,U⟩
 |11=>src 1
 |13=>.pointer<|J ⟨bh,9,U⟩
 |14=>src 4
 |_=>xy
def XH(i:Nat):Prop:=i<15/\i≠9/\i≠12
def Xi(i:Nat):Prop:=i=9\/i=12\/i=15
def WS(W0 W:Z3)(L:Zs)(v:Z5)(b:Nat):Prop:=xz (xj W0)<=b/\b<xz (xj W)/\(L 17=xk->v 4≠.pointer (J ⟨b,0,U⟩))
structure FlC (W0:World) (bh:Nat) (h:Hp) (src:Nat->Value) (L:Nat->Bool) (v:Nat->Value) (W:World):Prop where
 b:Below (xz<|xj W0) W0 W
 eq:∀i,XH i->L i=xk->v (16+i)=UA bh h src i
 rd:∀i,Xi i->L i=xk->Rd W (WS W0 W L v) (.sl<|(Ua h i).map vu) (v<|16+i)
 agg:L 16=xk->∃y,v 32=.agg (VT h y)/\∀i,Xi i->Rd W (WS W0 W L v) (.sl<|(Ua h i).map vu) (y i)
 new:L 17=xk->∃c,v 4=.pointer (J ⟨c,0,U⟩)/\xz (xj W0)<=c/\c<xz (xj W)/\(L 18=xw->W.heap[c]?=J (.cells ZI 27 (0,0)))
 put:L 18=xk->∃c y,v 4=.pointer (J ⟨c,0,U⟩)/\xz (xj W0)<=c/\W.heap[c]?=J (.cells (VT h y) 27 (0,0))/\∀i,Xi i->Rd W (WS W0 W L v) (.sl<|(Ua h i).map vu) (y i)
 c18:L 18=xk->L 17=xk
section
variable {W0 W W':Z3}{bh:Nat}{h:Hp}{src:Z5}{L:Zs}{v:Z5}
def FlC.step(C:FlC W0 bh h src L v W){i s:Nat}(O:i<17)(M:s=16+i){x:Zc}(q:Below (xz<|xj W) W W')(H:XH i->x=UA bh h src i)
  (K:Xi i->Rd W' (λb=>xz (xj W)<=b/\b<xz (xj W')) (.sl<|(Ua h i).map vu) x) (G:i=16->∃y,x=.agg (VT h y)/\∀j,Xi j->Rd W (WS W0 W L v) (.sl<|(Ua h j).map vu) (y j)):FlC W0 bh h src (add L i) (X2 v s x) W':=by
 subst M;have o:add L i 18=L 18:=Wt Z0;have k:add L i 17=L 17:=Wt Z0;have v4:X2 v (16+i) x 4=v 4:=Tw v x Z0;have B:∀b,WS W0 W L v b->b<xz (xj W)/\WS W0 W' (add L i) (X2 v (16+i) x) b:=λb d=>by
  obtain⟨D,A,F⟩:=d;refine⟨A,D,Zf4 A q.size,?_⟩;rw[k,v4];exact F
 have t:∀ {u:V} {z:Zc},Rd W (WS W0 W L v) u z->Rd W' (WS W0 W' (add L i)<|X2 v (16+i) x) u z:=λN=>N.keep (λb d=>q.block b (B b d).1) λb d=>(B b d).2;refine⟨C.b.trans<|q.mono C.b.size,λj f a=> ?_,λj f a=> ?_,λa=> ?_,λa=> ?_,λa=> ?_,λa=> ?_⟩;by_cases e:j=i;subst e;rw[R6];exact H f;rw[Wt e]at a;rw[Tw v x Z0];exact C.eq j f a;by_cases e:j=i;subst e;rw[R6];refine(K f).mono λb d=> ?_;refine⟨Zfw C.b.size d.1,d.2,λl=> ?_⟩;rw[k]at l;rw[v4];obtain⟨c,g,_,p,_⟩:=C.new l;rw[g];intro r;cases r;omega;rw[Wt e]at a;rw[Tw v x Z0];exact t<|C.rd j f a;by_cases e:i=16;subst e;obtain⟨y,g,n⟩:=G rfl;exact⟨y,by rw[<-g];exact R6 _ _ _,λj f=>t<|n j f⟩;rw[Wt<|ZgL e]at a;obtain⟨y,g,n⟩:=C.agg a;exact⟨y,by rw[Tw v x Z0];exact g,λj f=>t<|n j f⟩;rw[k]at a;obtain⟨c,g,n,p,r⟩:=C.new a;refine⟨c,by rw[v4];exact g,n,Zf4 p q.size,λw=> ?_⟩;rw[o]at w;exact(q.block c p).trans (r w);rw[o]at a;obtain⟨c,y,g,n,p,r⟩:=C.put a;exact⟨c,y,by rw[v4];exact g,n,(q.block c<|ZV p).trans p,λj f=>t<|r j f⟩;rw[o]at a;rw[k];exact C.c18 a
def FlC.pure(C:FlC W0 bh h src L v W){i s:Nat}(a:XH i)(g:s=16+i){x:Zc}(f:x=UA bh h src i):FlC W0 bh h src (add L i) (X2 v s x) W:=
 C.step (by unfold XH at a;omega) g (Zfg _ _) (λ_=>f) (λd=>by unfold XH at a;unfold Xi at d;omega) (λe=>by unfold XH at a;omega)
def FlC.call(C:FlC W0 bh h src L v W){i s:Nat}(a:Xi i)(j:s=16+i){x:Zc}(f:Below (xz<|xj W) W W')(g:Rd W' (λb=>xz (xj W)<=b/\b<xz (xj W')) (.sl<|(Ua h i).map vu) x):FlC W0 bh h src (add L i) (X2 v s x) W':=
 C.step (by unfold Xi at a;omega) j f (λd=>by unfold XH at d;unfold Xi at a;omega) (λ_=>g) (λe=>by unfold Xi at a;omega)
def FlC.built(C:FlC W0 bh h src L v W)(k:L 9=xk)(f:L 12=xk)(g:L 15=xk):FlC W0 bh h src (add L 16) (X2 v 32<|.agg (VT h λi=>v<|16+i)) W:=
 C.step Z0 rfl (Zfg _ _) (λa=>by unfold XH at a;omega) (λa=>by unfold Xi at a;omega) λ_=>⟨_,rfl,λj d=>C.rd j d (by unfold Xi at d;obtain rfl|rfl|rfl:=d<;>assumption)⟩
def FlC.alloc(C:FlC W0 bh h src L v W)(g:L 17=xw):FlC W0 bh h src (add L 17) (X2 v 4<|.pointer<|J ⟨xz<|xj W,0,U⟩)<|W.alloc<|.cells ZI 27:=by
 have k:L 18=xw:=by
  cases e:L 18 with
  |false=>rfl
  |true=>have:=C.c18 e;rw[g]at this;cases this
 have o:Below (xz<|xj W) W<|W.alloc<|.cells ZI 27:=(Zfg _ _).alloc (Zf3 _) _;have p:xz (xj<|W.alloc<|.cells ZI 27)=xz (xj W)+1:=Z1;have n:∀b,WS W0 W L v b->b<xz (xj W)/\WS W0 (W.alloc<|.cells ZI 27) (add L 17) (X2 v 4<|.pointer<|J ⟨xz<|xj W,0,U⟩) b:=λb d=>by
  obtain⟨w,x,A⟩:=d;refine⟨x,w,Z0,λ_=> ?_⟩;rw[R6];intro e;cases e;omega
 have q:∀ {u:V} {z:Zc},Rd W (WS W0 W L v) u z->Rd (W.alloc<|.cells ZI 27) (WS W0 (W.alloc<|.cells ZI 27) (add L 17)<|X2 v 4<|.pointer<|J ⟨xz<|xj W,0,U⟩) u z:=λp=>p.keep (λb d=>o.block b (n b d).1) λb d=>(n b d).2;refine⟨C.b.trans<|o.mono C.b.size,λj f a=> ?_,λj f a=> ?_,λa=> ?_,λa=> ?_,λa=> ?_,λa=> ?_⟩;have l:j<15:=f.1;rw[Wt Z0]at a;rw[Tw _ _ Z0];exact C.eq j f a;have l:j<17:=by unfold Xi at f;omega
 rw[Wt Z0]at a;rw[Tw _ _ Z0];exact q<|C.rd j f a;rw[Wt Z0]at a;obtain⟨y,r,t⟩:=C.agg a;exact⟨y,by rw[Tw _ _ Z0];exact r,λj f=>q<|t j f⟩;exact⟨xz<|xj W,R6 _ _ _,C.b.size,Z0,λ_=>Zfq W _⟩;rw[Wt Z0,k]at a;cases a;exact LN _ _
def FlC.store(C:FlC W0 bh h src L v W){c:Nat}(hc:v 4=.pointer (J ⟨c,0,U⟩)){y:Z5}(N:v 32=.agg (VT h y))(g:L 17=xk)(h16:L 16=xk)(R:L 18=xw)(B:W.heap[c]?=J (.cells ZI 27 (0,0)))
  (H:∀b,b≠c->W'.heap[b]?=W.heap[b]?) (S:xz (xj W')=xz (xj W)) (M:W'.heap[c]?=J (.cells (VT h y) 27 (0,0))) (K:Below (xz<|xj W0) W W'):FlC W0 bh h src (add L 18) v W':=by
 have k:add L 18 17=L 17:=Wt Z0;have x:∀b,WS W0 W L v b->b≠c/\WS W0 W' (add L 18) v b:=λb a=>by
  obtain⟨G,Q,w⟩:=a;refine⟨λe=> ?_,G,Z0,by rw[k];exact w⟩;subst e;exact w g hc
 have q:∀ {u:V} {z:Zc},Rd W (WS W0 W L v) u z->Rd W' (WS W0 W' (add L 18) v) u z:=λB=>B.keep (λb a=>H b (x b a).1) λb a=>(x b a).2;obtain⟨O,l,n,P,_⟩:=C.new g;rw[hc]at l;cases l;refine⟨C.b.trans K,λj d f=> ?_,λj d f=> ?_,λf=> ?_,λf=> ?_,λf=> ?_,λf=>by rw[k];exact g⟩;have o:j<15:=d.1;rw[Wt Z0]at f;exact C.eq j d f;have o:j<17:=by unfold Xi at d;omega
 rw[Wt Z0]at f;exact q<|C.rd j d f;obtain⟨y,l,n⟩:=C.agg h16;exact⟨y,l,λj d=>q<|n j d⟩;refine⟨c,hc,n,Z0,λt=> ?_⟩;rw[LN]at t;cases t;obtain⟨D,r,F⟩:=C.agg h16;rw[N]at r;have p:∀i,Xi i->D i=y i:=λi A=>by
  have e:VT h y=VT h D:=by injection r
  unfold VT at e;unfold Xi at A;simp at e;obtain rfl|rfl|rfl:=A;exact e.1.symm;exact e.2.1.symm;exact e.2.2.symm
 exact⟨c,y,hc,n,M,λj d=>by rw[<-p j d];exact q<|F j d⟩
end
end
end Vm
end
section
namespace Vm
open Go Go.Proofs
def IU:Fn:=⟨5,[0,1,2,3,4],pQ [pR [(1,pS 0 10),pV 2 pF],pC [pK 5 18 [.mm 1 0 10]] [pV 3<|.ext (.s 5) 0,pV 4<|.ext (.s 5) 1]]<|px [pV 2<|.s 4],[(2,.v)]⟩
def c10:xQ [.fz] Try.f10=J IU:=Z2
def IV:Fn:=⟨6,[0,1,2,3,4,11],pQ [pR [(1,pS 0 10),pV 2<|pI 0],pC [pK 6 18 [.mm 1 0 10]] [pV 3<|.ext (.s 6) 0,pV 4<|.ext (.s 6) 1],pi 5 (.un .not<|.s 4)<|px [pV 2<|pI 0],pC [pK 7 20 [.s 3]] [pV 2<|.s 7]] .ret,[(2,.v)]⟩
def Rr:xQ [.fz] Try.f12=J IV:=Z2
def IY:Fn:=⟨12,[0,1,2,3,13,4,16,15,17,6,14,24],pQ [pR [(1,pS 0 10),pV 2<|.c<|.lu 0,pV 3 pF],.ax ⟨[pK 12 29 [.mm 1 0 10]],[([],.ag [.ae (.mm 1 0 10) 0,.ae (.mm 1 0 10) 1,.ae (.mm 1 0 10) 2,.ae (.mm 1 0 10) 3,.ae (.mm 1 0 10) 4,.ae (.mm 1 0 10) 5,.ae (.mm 1 0 10) 6,.ae (.mm 1 0 10) 7,.ae (.mm 1 0 10) 8,.ae (.mm 1 0 10) 9,.ae (.sz (.s 12) 7) 0,.ae (.sz (.s 12) 7) 1,.ae (.sz (.s 12) 7) 2,.ae (.sz (.s 12) 7) 3,.ae (.sz (.s 12) 7) 4,.ae (.sz (.s 12) 7) 5,.ae (.sz (.s 12) 7) 6,pN,pN,pN,pN,.c<|.mp 0 [] [],.c<|.mp 0 [] []])],[(5,.m [.ae (.mm 1 0 10) 0,.ae (.mm 1 0 10) 1,.ae (.mm 1 0 10) 2,.ae (.mm 1 0 10) 3,.ae (.mm 1 0 10) 4,.ae (.mm 1 0 10) 5,.ae (.mm 1 0 10) 6,.ae (.mm 1 0 10) 7,.ae (.mm 1 0 10) 8,.ae (.mm 1 0 10) 9,.ae (.sz (.s 12) 7) 0,.ae (.sz (.s 12) 7) 1,.ae (.sz (.s 12) 7) 2,.ae (.sz (.s 12) 7) 3,.ae (.sz (.s 12) 7) 4,.ae (.sz (.s 12) 7) 5,.ae (.sz (.s 12) 7) 6,pN,pN,pN,pN,.c<|.mp 0 [] [],.c<|.mp 0 [] []])]⟩,pQ [pC [pK 10 31 []] [pV 6<|pI 0,pV 7<|.len<|.s 10]]<|po [0,1,2,3,5,6,7,10] 8 (pl (.s 6)<|.s 7) (pQ [pR [(9,.m [.ae (.bc (.bv (.s 10) (.s 6) 1) 0 1) 0])],pC [.cm 13 [] (.e<|.m 9 0) [.mem [.fz,.fz,.fz,.fz,.fz,.fz,.fz,.fz,.fz,.fz,.fz,.fz,.fz,.fz,.fz,.fz,.fz,.fz,.fz,.fz,.fz,.own 87,.own 88]] [.ag [.m 5 0,.m 5 1,.m 5 2,.m 5 3,.m 5 4,.m 5 5,.m 5 6,.m 5 7,.m 5 8,.m 5 9,.m 5 10,.m 5 11,.m 5 12,.m 5 13,.m 5 14,.m 5 15,.m 5 16,.m 5 17,.m 5 18,.m 5 19,.m 5 20,.m 5 21,.m 5 22]]] [(5,pM (.ext (.s 13) 1) 23),pV 11<|.un .not<|.ext (.s 13) 0]]<|pw (.s 11)<|px [pV 2<|.c<|.lu 0,pV 3 pF])<|pc 6]<|px [pV 2<|.pt U [.m 5 0,.m 5 1,.m 5 2,.m 5 3,.m 5 4,.m 5 5,.m 5 6,.m 5 7,.m 5 8,.m 5 9,.m 5 10,.m 5 11,.m 5 12,.m 5 13,.m 5 14,.m 5 15,.m 5 16,.m 5 17,.m 5 18,.m 5 19,.m 5 20,.m 5 21,.m 5 22],pV 3 pT,(5,.no)],[(2,.v),(3,.v)]⟩
def c18:xQ [.fz] Try.f18=J IY:=Z2
def IZ:Fn:=⟨11,[0,2,3,4,8,19,18,20,6,17,25],pQ [pR [pV 1<|pI 0],pR [pV 2<|pI 0],pQ [pR [pV 3<|pI 3]]<|.block 0<|.loop [0,1,2,3]<|pQ [pu 4 (pL (.s 3)<|pI 4) .skip<|.exit 0,.block 1<|pQ [pR [pV 5<|pI 0,pV 6<|.len<|.ae (.ai (.bc (.aq<|.s 0) 17 4) (pb (.s 3)<|pI 1) 4 1 xk) 0,pV 9<|.ae (.ai (.bc (.aq<|.s 0) 17 4) (pb (.s 3)<|pI 1) 4 1 xk) 0]]<|.block 2<|.loop [0,1,2,3,4,5,6,9]<|pQ [pR [pV 7<|pl (.s 5)<|.s 6],.cond (.s 7) .skip<|.exit 2,.block 3<|pQ [pR [(8,pM (.bc (.bv (.s 9) (.s 5) 5) 0 5) 5)]]<|pi 10 (.un .not<|.m 8 3)<|pR [pV 2<|pa (.s 2)<|pa (pI 1)<|.m 8 1]]<|pc 5]<|pc 3]<|px [pV 1<|.s 2],[(1,.v)]⟩
def c20:xQ [.fz] Try.f20=J IZ:=Z2
def M6:Fn:=⟨1,[0],pQ [pR [pV 0 pN]]<|px [pV 0<|.lit [.ag [.c<|.fn 46],.ag [.c<|.fn 47],.ag [.c<|.fn 48],.ag [.c<|.fn 49],.ag [.c<|.fn 50],.ag [.c<|.fn 51],.ag [.c<|.fn 52],.ag [.c<|.fn 53]]],[(0,.v)]⟩
def c31:xQ [] Try.f31=J M6:=Z2
def Md:Fn:=⟨2,[0,2],pQ [pR [pV 1 pF],.ax ⟨[pK 2 44 [.bc (.aq<|.s 0) 10 7],.lt 3 []<|.s 2,.lt 4 []<|.ite (.s 3) (pL (.len<|.ae (.aq<|.s 0) 9)<|pI 16) pF,.lt 5 []<|.ite (.s 4) (pg (.ae (.aq<|.s 0) 4)<|pI 0) pF],[([(3,xk)],pL (.len<|.ae (.aq<|.s 0) 9)<|pI 16),([(4,xk)],pg (.ae (.aq<|.s 0) 4)<|pI 0),([(5,xk)],pL (.ae (.aq<|.s 0) 4)<|.len<|.ae (.aq<|.s 0) 5)],[pV 1<|.ite (.s 5) (pL (.ae (.aq<|.s 0) 4)<|.len<|.ae (.aq<|.s 0) 5) pF]⟩] .ret,[(1,.v)]⟩
def c46:xQ [.fz] Try.f46=J Md:=Z2
def KS:Fn:=⟨3,[0,2,7],pQ [pR [pV 1 pF],pi 2 (.ae (.aq<|.s 0) 3)<|px [pV 1<|pl (.ae (.aq<|.s 0) 4)<|.len<|.ae (.aq<|.s 0) 5],.ax ⟨[.lt 3 []<|pe (.len<|.ae (.aq<|.s 0) 7)<|pI 0,.lt 4 []<|.ite (.s 3) (pe (.len<|.ae (.aq<|.s 0) 8)<|pI 0) pF],[([(3,xk)],pe (.len<|.ae (.aq<|.s 0) 8)<|pI 0),([(4,xk)],pe (.ae (.aq<|.s 0) 4)<|.len<|.ae (.aq<|.s 0) 5)],[pV 1<|.ite (.s 4) (pe (.ae (.aq<|.s 0) 4)<|.len<|.ae (.aq<|.s 0) 5) pF]⟩] .ret,[(1,.v)]⟩
def c47:xQ [.fz] Try.f47=J KS:=Z2
def Me:Fn:=⟨11,[0,2,3,8,9,4,5,6,7,18,39],pQ [pR [pV 1 pF],pR [pV 2 pT],.skip,pQ [pR [pV 3<|pI 0]]<|po [0,1,2,3] 4 (pl (.s 3)<|pI 4) (pQ [pR [pV 5<|.s 3],pR [pV 6<|pa (.s 5)<|pI 1],pR [pV 7 pN],pR [pV 8<|pI 0],pQ [.ax ⟨[.lt 11 []<|pe (.s 6)<|pI 1],[([(11,xw)],pe (.s 6)<|pI 2)],[pV 9<|.ite (.s 11) pT<|pe (.s 6)<|pI 2]⟩]<|.cond (.s 9) (pC [pK 12 67 [.pt U [.m 0 0,.m 0 1,.m 0 2,.m 0 3,.m 0 4,.m 0 5,.m 0 6,.m 0 7,.m 0 8,.m 0 9,.m 0 10,.m 0 11,.m 0 12,.m 0 13,.m 0 14,.m 0 15,.m 0 16,.m 0 17,.m 0 18,.m 0 19,.m 0 20,.m 0 21,.m 0 22],.s 6],.call 13 [] (.id 66) xk xw [.s 12]] [pV 7<|.ext (.s 13) 0,pV 8<|.ext (.s 13) 1])<|pC [pK 14 67 [.pt U [.m 0 0,.m 0 1,.m 0 2,.m 0 3,.m 0 4,.m 0 5,.m 0 6,.m 0 7,.m 0 8,.m 0 9,.m 0 10,.m 0 11,.m 0 12,.m 0 13,.m 0 14,.m 0 15,.m 0 16,.m 0 17,.m 0 18,.m 0 19,.m 0 20,.m 0 21,.m 0 22],.s 6],pK 15 67 [.pt U [.m 0 0,.m 0 1,.m 0 2,.m 0 3,.m 0 4,.m 0 5,.m 0 6,.m 0 7,.m 0 8,.m 0 9,.m 0 10,.m 0 11,.m 0 12,.m 0 13,.m 0 14,.m 0 15,.m 0 16,.m 0 17,.m 0 18,.m 0 19,.m 0 20,.m 0 21,.m 0 22],.s 6],pK 16 69 [.pt U [.m 0 0,.m 0 1,.m 0 2,.m 0 3,.m 0 4,.m 0 5,.m 0 6,.m 0 7,.m 0 8,.m 0 9,.m 0 10,.m 0 11,.m 0 12,.m 0 13,.m 0 14,.m 0 15,.m 0 16,.m 0 17,.m 0 18,.m 0 19,.m 0 20,.m 0 21,.m 0 22],.s 15],.call 17 [] (.id 68) xk xw [.s 14,.s 16]] [pV 7<|.ext (.s 17) 0,pV 8<|.ext (.s 17) 1],pi 10 (pn (.s 8)<|pI 0)<|pQ [pR [pV 2 pF]]<|.exit 0]<|pC [.cm 18 [] (.id 70) [.mem [.fz,.fz,.fz,.fz,.fz,.fz,.fz,.fz,.fz,.fz,.fz,.fz,.fz,.fz,.fz,.fz,.fz,.fz,.fz,.fz,.fz,.own 87,.own 88],.fz,.fz] [.ag [.m 0 0,.m 0 1,.m 0 2,.m 0 3,.m 0 4,.m 0 5,.m 0 6,.m 0 7,.m 0 8,.m 0 9,.m 0 10,.m 0 11,.m 0 12,.m 0 13,.m 0 14,.m 0 15,.m 0 16,.m 0 17,.m 0 18,.m 0 19,.m 0 20,.m 0 21,.m 0 22],.s 6,.s 7]] [(0,pM (.ext (.s 18) 1) 23)])<|pc 3]<|px [pV 1<|.s 2],[(1,.v)]⟩
def c48:WB xP fresh sig [(.mem [.fz,.fz,.fz,.fz,.fz,.fz,.fz,.fz,.fz,.fz,.fz,.fz,.fz,.fz,.fz,.fz,.fz,.fz,.fz,.fz,.fz,(.own 87),(.own 88)])] [(0,(.mem [.fz,.fz,.fz,.fz,.fz,.fz,.fz,.fz,.fz,.fz,.fz,.fz,.fz,.fz,.fz,.fz,.fz,.fz,.fz,.fz,.fz,(.own 87),(.own 88)]))] Try.f48=J Me:=Z2
def BG:Fn:=⟨13,[0,2,12,3,4,15,26,25,27,6,24,32,46],pQ [pR [pV 1 pF],pi 2 (.un .not<|.ae (.aq<|.s 0) 3)<|px [pV 1 pT],pR [pV 3<|.c<|.mp 0 [] []],pQ [pR [pV 4<|pI 3]]<|.block 0<|.loop [0,1,2,3,4]<|pQ [pu 5 (pL (.s 4)<|pI 4) .skip<|.exit 0,.block 1<|pQ [pR [pV 6<|pI 0,pV 7<|.len<|.ae (.ai (.bc (.aq<|.s 0) 17 4) (pb (.s 4)<|pI 1) 4 1 xk) 0,pV 10<|.ae (.ai (.bc (.aq<|.s 0) 17 4) (pb (.s 4)<|pI 1) 4 1 xk) 0]]<|.block 2<|.loop [0,1,2,3,4,5,6,7,10]<|pQ [pR [pV 8<|pl (.s 6)<|.s 7],.cond (.s 8) .skip<|.exit 2,.block 3<|pQ [pR [(9,pM (.bc (.bv (.s 10) (.s 6) 5) 0 5) 5)],pi 11 (.un .not<|.m 9 3)<|.exit 3,pQ [.ax ⟨[.lt 13 []<|pn (.lk (.i .u64) (.ae (.aq<|.s 0) 21) (.m 9 4) (.int .i64 0) xw)<|pI 1],[([(13,xw)],.fl<|.lk (.i .u64) (.s 3) (.m 9 4) (.bool xw) xw)],[pV 12<|.ite (.s 13) pT<|.fl<|.lk (.i .u64) (.s 3) (.m 9 4) (.bool xw) xw]⟩]<|pw (.s 12)<|px [pV 1 pF]]<|pR [pV 3<|.dc (.i .u64) (.s 3) (.m 9 4) pT]]<|pc 6]<|pc 4]<|px [pV 1<|pe (.dw<|.s 3)<|.len<|.ae (.ai (.bc (.aq<|.s 0) 17 4) (pI 0) 4 1 xk) 0],[(1,.v)]⟩
def c49:xQ [.fz] Try.f49=J BG:=Z2
def Mf:Fn:=⟨9,[0,1,2,11,10,12,4,9,18],pQ [pR [(1,.m [.one<|.s 0]),pV 2 pF],pQ [pR [pV 3<|pI 0,pV 4<|.len<|.ae (.aq<|.m 1 0) 9,pV 7<|.ae (.aq<|.m 1 0) 9]]<|po [0,1,2,3,4,7] 5 (pl (.s 3)<|.s 4) (pQ [pR [pV 6<|.ae (.bv (.s 7) (.s 3) 1) 0],pC [pK 9 71 [.m 1 0,.s 6,pI 1,pI 2]] [pV 8<|.un .not<|.s 9]]<|pw (.s 8)<|px [pV 2 pF])<|pc 3,pC [.call 10 [] (.id 72) xw xk [.m 1 0,pI 2,.pt (J 73) [.pt U [.m 1 0]]],.lt 11 []<|.s 10,.call 12 [(11,xk)] (.id 72) xw xk [.m 1 0,pI 1,.pt (J 74) [.pt U [.m 1 0]]]] [pV 2<|.ite (.s 11) (.s 12) pF]] .ret,[(2,.v)]⟩
def c50:xQ [.fz] Try.f50=J Mf:=Z2
def Mg:Fn:=⟨3,[0,1,2],pQ [pR [(1,.m [.one<|.s 0]),pV 2 pF],pC [.call 3 [] (.id 72) xw xk [.m 1 0,pI 1,.pt (J 75) [.pt U [.m 1 0]]]] [pV 2<|.s 3]] .ret,[(2,.v)]⟩
def c51:xQ [.fz] Try.f51=J Mg:=Z2
def Mh:Fn:=⟨4,[0,1,2,3],pQ [pR [(1,.m [.one<|.s 0]),pV 2 pF],pR [(3,.no)],pC [.call 4 [] (.id 72) xw xk [.m 1 0,pI 3,.pt (J 76) [.pt U [.m 1 0]]],.lt 5 []<|.s 4,.call 6 [(5,xk)] (.id 72) xw xk [.m 1 0,pI 4,.pt (J 76) [.pt U [.m 1 0]]]] [pV 2<|.ite (.s 5) (.s 6) pF,(3,.no)]] .ret,[(2,.v)]⟩
def c52:xQ [.fz] Try.f52=J Mh:=Z2
def Mi:Fn:=⟨2,[0,2],pQ [pR [pV 1 pF],pC [pK 2 20 [.s 0]] [pV 1<|pL (pa (pa (.len<|.ae (.aq<|.s 0) 5)<|.len<|.ae (.aq<|.s 0) 6)<|.s 2)<|.ae (.aq<|.s 0) 1]] .ret,[(1,.v)]⟩
def c53:xQ [.fz] Try.f53=J Mi:=Z2
def Mm:Fn:=⟨8,[0,1,2,4,5,6,7,22],pQ [pR [(2,pS 0 10),pV 3 pN,pV 4<|pI 0],pC [pK 8 18 [.mm 2 0 10]] [pV 5<|.ext (.s 8) 0,pV 6<|.ext (.s 8) 1],pQ [.ax ⟨[.lt 9 []<|.un .not<|.s 6,.lt 10 []<|.ite (.s 9) pT<|pl (.s 1)<|pI 1],[([(9,xw)],pl (.s 1)<|pI 1),([(10,xw)],pj (.s 1)<|pI 4)],[pV 7<|.ite (.s 10) pT<|pj (.s 1)<|pI 4]⟩]<|pw (.s 7)<|px [pV 4<|pI 1]]<|px [pV 3<|.ae (.ai (.bc (.aq<|.s 5) 17 4) (pb (.s 1)<|pI 1) 4 1 xk) 0,pV 4<|pI 0],[(3,.v),(4,.v)]⟩
def c61:xQ [.fz,.fz] Try.f61=J Mm:=Z2
def Mp:Fn:=⟨3,[0,1,4],pQ [pR [pV 2 pN]]<|px [pV 2<|.ai (.ag [.ae (.aq<|.s 0) 5,.ae (.aq<|.s 0) 6,.ae (.aq<|.s 0) 7,.ae (.aq<|.s 0) 8]) (pb (.s 1)<|pI 1) 4 1 xw],[(2,.v)]⟩
def c67:xQ [.fz,.fz] Try.f67=J Mp:=Z2
def Mq:Fn:=⟨14,[0,1,4,5,6,15,7,8,9,25,10,11,36,52],pQ [pR [pV 2 pN],pR [pV 3 pN],pQ [pR [pV 4<|pI 0]]<|.block 0<|.loop [0,1,2,3,4]<|pQ [pu 5 (pl (.s 4)<|.len<|.s 1) .skip<|.exit 0]<|.block 1<|pQ [pR [(6,.m [pI 0,pI 0])],pQ [pC [pK 14 38 [.ae (.bv (.s 1) (.s 4) 1) 0]] [pV 7<|.ext (.s 14) 0,pV 8<|.ext (.s 14) 1]]<|pu 9 (pe (.s 8)<|pI 0) (pQ [pR [(10,pM (.sz (.ext (.lk (.i .u64) (.ae (.aq<|.s 0) 22) (.s 7) (.agg [.int .i64 0,.int .i64 0]) xk) 0) 2) 2),pV 11<|.ext (.lk (.i .u64) (.ae (.aq<|.s 0) 22) (.s 7) (.agg [.int .i64 0,.int .i64 0]) xk) 1],pi 12 (.un .not<|.s 11)<|px [pV 2<|.s 3,(3,.no)],pR [(6,pM (.mm 10 0 2) 2)]]<|pR [pV 3<|.app (.s 3) (.lit [.mm 6 0 2]) 2])<|pQ [pC [pK 15 57 [.ae (.bv (.s 1) (.s 4) 1) 0]] [(6,pM (.sz (.ext (.s 15) 0) 2) 2),pV 8<|.ext (.s 15) 1]]<|pi 13 (pn (.s 8)<|pI 0)<|px [pV 2<|.s 3,(3,.no)]]<|pR [pV 4<|pa (.s 4)<|pa (pI 1)<|.m 6 0]]<|px [pV 2<|.s 3,(3,.no)],[(2,.v)]⟩
def c69:xQ [.fz,.fz] Try.f69=J Mq:=Z2
def KU:Fn:=⟨11,[0,1,2,19,18,20,7,17,8,9,42],pQ [.ax ⟨[],[([],.ai (.c<|.agg [(.bool xk),(.bool xk),(.bool xk),(.bool xk)]) (pb (.s 1)<|pI 1) 4 1 xw)],[(0,.m [.m 0 0,.m 0 1,.m 0 2,.m 0 3,.m 0 4,.m 0 5,.m 0 6,.m 0 7,.m 0 8,.m 0 9,.m 0 10,.m 0 11,.m 0 12,.m 0 13,.m 0 14,.m 0 15,.m 0 16,.ae (.dj (.mm 0 17 4) (pb (.s 1)<|pI 1) 4 1<|.one<|.s 2) 0,.ae (.dj (.mm 0 17 4) (pb (.s 1)<|pI 1) 4 1<|.one<|.s 2) 1,.ae (.dj (.mm 0 17 4) (pb (.s 1)<|pI 1) 4 1<|.one<|.s 2) 2,.ae (.dj (.mm 0 17 4) (pb (.s 1)<|pI 1) 4 1<|.one<|.s 2) 3,.m 0 21,.m 0 22])]⟩,pR [pV 3<|pI 0,pV 4<|.len<|.s 2,pV 7<|.s 2]]<|po [0,1,2,3,4,7] 5 (pl (.s 3)<|.s 4) (pQ [pR [(6,pM (.bc (.bv (.s 7) (.s 3) 5) 0 5) 5)],pC [pK 11 28 [.mm 0 10 7,.ag [.one<|.s 1,.m 6 0]]] [pV 8<|.ext (.s 11) 0,pV 9<|.ext (.s 11) 1],pR [(0,.m [.m 0 0,.m 0 1,.m 0 2,.m 0 3,.m 0 4,.m 0 5,.m 0 6,.m 0 7,.m 0 8,.m 0 9,.m 0 10,.m 0 11,.m 0 12,.m 0 13,.m 0 14,.m 0 15,.m 0 16,.m 0 17,.m 0 18,.m 0 19,.m 0 20,.dc (.i .u64) (.m 0 21) (.s 8)<|.s 1,.m 0 22])]]<|pi 10 (pe (.s 1)<|pI 1)<|pR [(0,.m [.m 0 0,.m 0 1,.m 0 2,.m 0 3,.m 0 4,.m 0 5,.m 0 6,.m 0 7,.m 0 8,.m 0 9,.m 0 10,.m 0 11,.m 0 12,.m 0 13,.m 0 14,.m 0 15,.m 0 16,.m 0 17,.m 0 18,.m 0 19,.m 0 20,.m 0 21,.dc (.i .u64) (.m 0 22) (.s 8)<|.mm 6 1 2])])<|pc 3,[]⟩
def c70:WB xP fresh sig [(.mem [.fz,.fz,.fz,.fz,.fz,.fz,.fz,.fz,.fz,.fz,.fz,.fz,.fz,.fz,.fz,.fz,.fz,.fz,.fz,.fz,.fz,(.own 87),(.own 88)]),.fz,.fz] [(0,(.mem [.fz,.fz,.fz,.fz,.fz,.fz,.fz,.fz,.fz,.fz,.fz,.fz,.fz,.fz,.fz,.fz,.fz,.fz,.fz,.fz,.fz,(.own 87),(.own 88)]))] Try.f70=J KU:=Z2
def BH:Fn:=⟨11,[0,1,2,3,8,14,9,10,21,11,12],pQ [pR [pV 4 pF],pi 5 (pe (.s 1)<|pU 0)<|px [pV 4 pT],pC [pK 11 38 [.s 1]] [pV 6<|.ext (.s 11) 0,pV 7<|.ext (.s 11) 1],pi 8 (pn (.s 7)<|pI 0)<|px [pV 4 pF],pR [pV 9<|.ext (.lk (.i .u64) (.ae (.aq<|.s 0) 21) (.s 6) (.int .i64 0) xk) 0,pV 10<|.ext (.lk (.i .u64) (.ae (.aq<|.s 0) 21) (.s 6) (.int .i64 0) xk) 1],.ax ⟨[.lt 12 []<|.s 10,.lt 13 []<|.ite (.s 12) (pg (.s 9)<|.s 2) pF],[([(12,xk)],pg (.s 9)<|.s 2),([(13,xk)],pL (.s 9)<|.s 3)],[pV 4<|.ite (.s 13) (pL (.s 9)<|.s 3) pF]⟩] .ret,[(4,.v)]⟩
def c71:xQ [.fz,.fz,.fz,.fz] Try.f71=J BH:=Z2
def Mr:Fn:=⟨17,[0,1,2,6,7,23,22,24,9,21,28,32,31,33,10,11,47],pQ [pR [pV 3 pF],pC [pK 17 67 [.s 0,.s 1]] [pV 4<|.s 17],pQ [pR [pV 5<|pI 0,pV 6<|.len<|.ae (.ai (.bc (.aq<|.s 0) 17 4) (pb (.s 1)<|pI 1) 4 1 xk) 0,pV 9<|.ae (.ai (.bc (.aq<|.s 0) 17 4) (pb (.s 1)<|pI 1) 4 1 xk) 0]]<|po [0,1,2,3,4,5,6,9] 7 (pl (.s 5)<|.s 6) (pQ [pR [(8,pM (.bc (.bv (.s 9) (.s 5) 5) 0 5) 5)],pi 10 (.m 8 3)<|.exit 1,pR [pV 11<|pI 0,pV 12<|.m 8 2]]<|.block 2<|.loop [0,1,2,3,4,5,6,7,8,9,10,11,12]<|pQ [pR [pV 13<|pl (.s 11)<|.s 12],.cond (.s 13) .skip<|.exit 2,.block 3<|pQ [pR [pV 14<|.s 11],pR [pV 15<|pa (pa (.m 8 0)<|pI 1)<|.s 14],pC [.call 18 [] (.e<|.s 2) xw xw [.s 15,.ae (.bv (.s 4) (.s 15) 1) 0]] [pV 16<|.un .not<|.s 18]]<|pw (.s 16)<|px [pV 3 pF]]<|pc 11)<|pc 5]<|px [pV 3 pT],[(3,.v)]⟩
def c72:xQ [.fz,.fz,.fz] Try.f72=J Mr:=Z2
def Ms:Fn:=⟨4,[0,1,2,5],pQ [pR [pV 3 pF],pC [pK 4 71 [.ae (.aq<|.s 2) 0,.s 1,pI 1,pI 2]] [pV 3<|.s 4]] .ret,[(3,.v)]⟩
def c73:xQ [.fz,.fz,.fz] Try.f73=J Ms:=Z2
def BI:Fn:=⟨4,[0,1,2,5],pQ [pR [pV 3 pF],pC [.lt 4 []<|pg (.s 0)<|.ae (.aq<|.ae (.aq<|.s 2) 0) 4,.call 5 [(4,xw)] (.id 71) xw xw [.ae (.aq<|.s 2) 0,.s 1,pI 1,pI 2]] [pV 3<|.ite (.s 4) pT<|.s 5]] .ret,[(3,.v)]⟩
def c74:xQ [.fz,.fz,.fz] Try.f74=J BI:=Z2
def BJ:Fn:=⟨4,[0,1,2,5],pQ [pR [pV 3 pF],pC [.lt 4 []<|pl (.s 0)<|.ae (.aq<|.ae (.aq<|.s 2) 0) 4,.call 5 [(4,xw)] (.id 71) xw xw [.ae (.aq<|.s 2) 0,.s 1,pI 1,pI 4]] [pV 3<|.ite (.s 4) pT<|.s 5]] .ret,[(3,.v)]⟩
def c75:xQ [.fz,.fz,.fz] Try.f75=J BJ:=Z2
def Mt:Fn:=⟨4,[0,1,2,5],pQ [pR [pV 3 pF],pC [pK 4 71 [.ae (.aq<|.s 2) 0,.s 1,pI 3,pI 4]] [pV 3<|.s 4]] .ret,[(3,.v)]⟩
def c76:xQ [.fz,.fz,.fz] Try.f76=J Mt:=Z2
end Vm
end
section
namespace Vm
open Go Go.Proofs
def XE{α:Type}(l:List<|Int×α)(k:Int)(v:α):List<|Int×α:=match l.findIdx? (·.1==k)with
 |some i=>l.set i (k,v)
 |none=>l++[(k,v)]
def ZT{α:Type}(l:List<|Int×α)(k:Int):Option α:=(l.find? (·.1==k)).map (·.2)
def Y5{α:Type}(f:α->V)(l:List<|Int×α):V:=.mp 0 (l.map λx=>vu x.1) (l.map λx=>f x.2)
def A6{α:Type}{k}:∀ {l:List (Int×α)},Td (vu k) (l.map λx=>vu x.1)=J (l.findIdx? (·.1==k))
 | []=>rfl
 |y::l=>by
  simp only[Zft,Td,Kr,ZhK];by_cases h:k=y.1;simp[h];have a:(k==y.1)=xw:=ZeO;have d:(y.1==k)=xw:=by simpa using ZgL h
  simp[a,d,A6]
def K0{α:Type}{p}:∀ {l:List α},l.find? p=(l.findIdx? p).bind λi=>l[i]?
 | []=>rfl
 |x::l=>by
  rw[List.find?_cons,ZhK];cases h:p x;simp;rw[K0 (l:=l)];cases l.findIdx? p<;>simp;simp
theorem RW{α f}{l:List (Int×α)}{k z ok}:Uf (.i .u64) (Y5 f l) (vu k) z ok=match ZT l k with
  |some x=>J (if ok then .ak [f x,.bool xk]else f x)
  |none=>J (if ok then .ak [z,.bool xw]else z):=by
 unfold Uf Y5 ZT;simp[V6,A6,K0];grind [List.findIdx?_eq_some_iff_getElem]
def Kw{α f l k}{x:α}:UJ (.i .u64) (Y5 f l) (vu k) (f x)=J (Y5 f<|XE l k x):=by
 unfold UJ Y5 XE;simp[V6,A6];cases h:l.findIdx? (·.1==k)with
 |none=>simp
 |some i=>
  let⟨d,g,_⟩:=ZfO.1 h;have a:(l[i]).1=k:=by simpa using g
  simp only[ZeV,V.mp.injEq,true_and];constructor;rw[Zjd];apply Zgr;intro j;rw[List.getElem?_set];split;rename_i e;subst e;simp[d,a];rfl;rw[Zjd]
@[simp]theorem ZcI{α}f(l:List<|Int×α):YN (Y5 f l)=J (Y5 f l):=rfl
@[simp]theorem ZaX{α}f(l:List<|Int×α):(Y5 f l).cells=[Y5 f l]:=rfl
@[simp]theorem ZcT{α}f(l:List<|Int×α):(Y5 f l).one=xk:=rfl
@[simp]theorem Zcy{α}f(l:List<|Int×α):SM (Y5 f l)=J (vi<|I l):=by simp[Y5]
def QM{α l k j}{x:α}:ZT (XE l k x) j=if k=j then J x else ZT l j:=by
 unfold ZT XE;cases h:l.findIdx? (·.1==k)with
 |none=>
  grind
 |some i=>
  let⟨d,o,a⟩:=ZfO.1 h;by_cases e:k=j;subst e;rw[Zfc rfl,K0];grind [List.findIdx?_eq_some_iff_getElem,List.getElem_set_ne];rw[Zf7 e,K0,K0];have:(l.set i (k,x)).findIdx? (·.1==j)=l.findIdx? (·.1==j):=by
   apply Option.ext;intro q;rw[ZfO,ZfO];constructor;grind;grind
  rw[this];cases f:l.findIdx? (·.1==j)with
  |none=>rfl
  |some q=>
   let⟨g,n,_⟩:=ZfO.1 f;grind
structure Ck where
 h:Hp
 o1:List Ob
 o2:List Ob
 o3:List Ob
 o4:List Ob
 pm:List<|Int×Int
 lm:List<|Int×(Int×Int)
def Ck.dp(s:Ck)(k:Int):List Ob:=if k=1 then s.o1 else if k=2 then s.o2 else if k=3 then s.o3 else s.o4
def ZR(s:Ck):List V:=[vu s.h.base,vi s.h.cap,vi s.h.to,.bool s.h.M,vi s.h.Y,.sl<|s.h.H.map vu,.sl<|s.h.aa.map vu,.sl<|s.h.an.map vu,.sl<|s.h.am.map vu,.sl<|s.h.E.map vu,
 vu s.h.base,vi s.h.cap,vi s.h.to,vi<|I s.h.H,vi<|I s.h.aa,vi<|I s.h.an,vi<|I s.h.am,
 .sl (s.o1.map ZL),.sl<|s.o2.map ZL,.sl<|s.o3.map ZL,.sl<|s.o4.map ZL,Y5 vi s.pm,Y5 XM s.lm]
def YV(s:Ck):V:=.ptr<|ZR s
def Rb:IntKind.i64.wrap 0=0:=Zeh
def UV:IntKind.i64.wrap 1=1:=Zeh
def VO:IntKind.i64.wrap 2=2:=Zeh
def U6:IntKind.i64.wrap 3=3:=Zeh
def P5{s:Ck}{k:Int}(a:1<=k/\k<=4):VC xP 67 xw [YV s,vi k]<|.sl<|(Zy s.h k).map vu:=by
 refine Y4 Z0o follows Z2 c67 rfl ?_;have:k=1\/k=2\/k=3\/k=4:=Z0;obtain rfl|rfl|rfl|rfl:=this<;>simp[Mp,YV,ZR,Zy,Y7,Rb,UV,VO,U6]
def YG(s:Ck)(w first last:Int):Bool:=decide (w=0)||(decide ((adr w).2=0)&&match ZT s.pm (adr w).1 with
 |some k=>decide (first<=k)&&decide (k<=last)
 |none=>xw)
def L2{s:Ck}{w first last:Int}(f:ZA w):VC xP 71 xw [YV s,vu w,vi first,vi last]<|.bool<|YG s w first last:=by
 refine Y4 Z0s follows Z2 c71 rfl ?_;unfold YG;by_cases a:w=0;simp[BH,a];simp[BH,a,YV,ZR];refine ZC (JI f) Z1 ?_;by_cases d:(adr w).2=0;case neg=>simp[d]
 simp[d,RW];cases g:ZT s.pm (adr w).1 with
 |none=>simp
 |some k=>
  simp_all
def Wo(h:Hp)(k:Int):List (Int×Int)->List Ob->List (Int×Int)
 |m,[]=>m
 |m,o::l=>Wo h k (XE m (Yr (Zv h) k o.Z).1 k) l
def Xm(h:Hp)(k:Int):List (Int×(Int×Int))->List Ob->List (Int×(Int×Int))
 |m,[]=>m
 |m,o::l=>Xm h k (if k=1 then XE m (Yr (Zv h) k o.Z).1 (o.size,o.ac)else m) l
def Ck.put(s:Ck)(k:Int)(l:List Ob):Ck:=if k=1 then {s with o1:=l}else if k=2 then {s with o2:=l}else if k=3 then {s with o3:=l}else {s with o4:=l}
def XD(s:Ck)(k:Int)(l:List Ob):Ck:= {s.put k l with pm:=Wo s.h k s.pm l,lm:=Xm s.h k s.lm l}
def KH{h k}:∀ {l:List Ob} {i:Nat} {o:Ob} {m:List (Int×Int)},l[i]?=J o->Wo h k m (l.take<|i+1)=XE (Wo h k m<|l.take i) (Yr (Zv h) k o.Z).1 k
 | [],_,_,_,h=>ZeD
 |x::l,0,o,m,h=>by simp_all[Wo]
 |x::l,i+1,o,m,h=>by
  simp_all[Zii,Wo,KH]
def KF{h k}:∀ {l:List Ob} {i:Nat} {o:Ob} {m:List (Int×(Int×Int))},l[i]?=J o->Xm h k m (l.take<|i+1)=if k=1 then XE (Xm h k m<|l.take i) (Yr (Zv h) k o.Z).1 (o.size,o.ac)else Xm h k m (l.take i)
 | [],_,_,_,h=>ZeD
 |x::l,0,o,m,h=>by simp_all[Xm]
 |x::l,i+1,o,m,h=>by
  simp_all[Zii,Xm,KF]
abbrev z5:List CK:=[.fz,.fz,.fz,.fz,.fz,.fz,.fz,.fz,.fz,.fz,.fz,.fz,.fz,.fz,.fz,.fz,.fz,.fz,.fz,.fz,.fz,.own 87,.own 88]
@[simp]theorem Z6S(s:Ck)k l:(s.put k l).h=s.h:=by
 unfold Ck.put;split;rfl;split;rfl;split<;>rfl
def yl{l k x}:UJ (.i .u64) (Y5 vi l) (vu k) (vi x)=J (Y5 vi<|XE l k x):=Kw
def ym{l k a b}:UJ (.i .u64) (Y5 XM l) (vu k) (.agg [vi a,vi b])=J (Y5 XM<|XE l k (a,b)):=Kw (f:=XM) (x:=(a,b))
def yu{s:Ck}(r:s.h.ok){k:Int}(w:1<=k/\k<=4){l:List Ob}(x:I l<=1000000):Vd xP 70 [.mem z5,.fz,.fz] [.agg<|ZR s,vi k,.sl<|l.map ZL]<|.ak [.ak [],.agg<|ZR<|XD s k l]:=by
 refine Jv Z0r follows Z2 c70 Z2 ?_;have t:k=1\/k=2\/k=3\/k=4:=Z0;have q:I l<=YJ:=by unfold YJ;omega
 have u:∀k,({s.put k l with pm:=s.pm,lm:=s.lm}:Ck)=s.put k l:=by
  intro k;unfold Ck.put;split;rfl;split;rfl;split<;>rfl
 have o:=λ(k at_:Int)=>Eu r.bj (part:=k) (at_:=at_);unfold Zv Xk at o;obtain rfl|rfl|rfl|rfl:=t
 .simp[KU,ZR,Y7,Rp,Rb,UV,VO,U6,setCells];refine Tz 3 (I l) (λi=>[(0,.m<|ZR {s.put 1 l with pm:=Wo s.h 1 s.pm<|l.take i,lm:=Xm s.h 1 s.lm (l.take i)}),(3,.v<|vi i)]) (λ_=>True) (by simp[ZR,Ck.put,Wo,Xm]) Z1 trivial ?_;intro i p _;have d:=ZB ((i:Int)+1) Z0 Z0;by_cases a:i<I l
  .have f:l[i]?=J l[i]:=ZeX a;have g:=KH (h:=s.h) (k:=1) (m:=s.pm) f;have j:=KF (h:=s.h) (k:=1) (m:=s.lm) f;have n:=o 1 (l[i]).Z;simp[a,f,d,ZR,YW];refine ZC n Z1 ?_;simp[yl,ym,g,j,d,a];first|done|rfl|exact⟨rfl,rfl⟩
  have:i=I l:=Z0;subst this;simp[ZR,XD,Zgn]
 .simp[KU,ZR,Y7,Rp,Rb,UV,VO,U6,setCells];refine Tz 3 (I l) (λi=>[(0,.m<|ZR {s.put 2 l with pm:=Wo s.h 2 s.pm<|l.take i,lm:=Xm s.h 2 s.lm (l.take i)}),(3,.v<|vi i)]) (λ_=>True) (by simp[ZR,Ck.put,Wo,Xm]) Z1 trivial ?_;intro i p _;have d:=ZB ((i:Int)+1) Z0 Z0;by_cases a:i<I l
  .have f:l[i]?=J l[i]:=ZeX a;have g:=KH (h:=s.h) (k:=2) (m:=s.pm) f;have j:=KF (h:=s.h) (k:=2) (m:=s.lm) f;have n:=o 2 (l[i]).Z;simp[a,f,d,ZR,YW];refine ZC n Z1 ?_;simp[yl,ym,g,j,d,a];first|done|rfl|exact⟨rfl,rfl⟩
  have:i=I l:=Z0;subst this;simp[ZR,XD,Zgn]
 .simp[KU,ZR,Y7,Rp,Rb,UV,VO,U6,setCells];refine Tz 3 (I l) (λi=>[(0,.m<|ZR {s.put 3 l with pm:=Wo s.h 3 s.pm<|l.take i,lm:=Xm s.h 3 s.lm (l.take i)}),(3,.v<|vi i)]) (λ_=>True) (by simp[ZR,Ck.put,Wo,Xm]) Z1 trivial ?_;intro i p _;have d:=ZB ((i:Int)+1) Z0 Z0;by_cases a:i<I l
  .have f:l[i]?=J l[i]:=ZeX a;have g:=KH (h:=s.h) (k:=3) (m:=s.pm) f;have j:=KF (h:=s.h) (k:=3) (m:=s.lm) f;have n:=o 3 (l[i]).Z;simp[a,f,d,ZR,YW];refine ZC n Z1 ?_;simp[yl,ym,g,j,d,a];first|done|rfl|exact⟨rfl,rfl⟩
  have:i=I l:=Z0;subst this;simp[ZR,XD,Zgn]
 .simp[KU,ZR,Y7,Rp,Rb,UV,VO,U6,setCells];refine Tz 3 (I l) (λi=>[(0,.m<|ZR {s.put 4 l with pm:=Wo s.h 4 s.pm<|l.take i,lm:=Xm s.h 4 s.lm (l.take i)}),(3,.v<|vi i)]) (λ_=>True) (by simp[ZR,Ck.put,Wo,Xm]) Z1 trivial ?_;intro i p _;have d:=ZB ((i:Int)+1) Z0 Z0;by_cases a:i<I l
  .have f:l[i]?=J l[i]:=ZeX a;have g:=KH (h:=s.h) (k:=4) (m:=s.pm) f;have j:=KF (h:=s.h) (k:=4) (m:=s.lm) f;have n:=o 4 (l[i]).Z;simp[a,f,d,ZR,YW];refine ZC n Z1 ?_;simp[yl,ym,g,j,d,a];first|done|rfl|exact⟨rfl,rfl⟩
  have:i=I l:=Z0;subst this;simp[ZR,XD,Zgn]
end Vm
namespace Vm
open Go Go.Proofs
def V1(s:Ck):V:=.ptr [YV s]
def Z8m{s:Ck}{a w:Int}(d:ZA w):VC xP 73 xw [vi a,vu w,V1 s]<|.bool<|YG s w 1 2:=by
 refine Y4 Z0u follows Z2 c73 rfl ?_;have k:=L2 (s:=s) (first:=1) (last:=2) d;unfold V1 YV at*;simp[Ms,YN,V.one];refine ZC k Z1 ?_;simp
def Z8n{s:Ck}{a w:Int}(d:ZA w):VC xP 74 xw [vi a,vu w,V1 s]<|.bool<|decide (s.h.Y<=a)||YG s w 1 2:=by
 refine Y4 Z0v follows Z2 c74 rfl ?_;have k:=L2 (s:=s) (first:=1) (last:=2) d;unfold V1 YV at*;by_cases h:s.h.Y<=a;simp[BI,YN,V.one,ZR,h];simp[BI,YN,V.one,ZR,h];refine ZC k (by simp[ZR]) ?_;simp[h]
def Z9f{s:Ck}{a w:Int}(d:ZA w):VC xP 75 xw [vi a,vu w,V1 s]<|.bool<|decide (a<s.h.Y)||YG s w 1 4:=by
 refine Y4 Z0w follows Z2 c75 rfl ?_;have k:=L2 (s:=s) (first:=1) (last:=4) d;unfold V1 YV at*;by_cases h:a<s.h.Y;simp[BJ,YN,V.one,ZR,h];simp[BJ,YN,V.one,ZR,h];refine ZC k (by simp[ZR]) ?_;simp[h]
def Hl{s:Ck}{a w:Int}(d:ZA w):VC xP 76 xw [vi a,vu w,V1 s]<|.bool<|YG s w 3 4:=by
 refine Y4 Z0x follows Z2 c76 rfl ?_;have k:=L2 (s:=s) (first:=3) (last:=4) d;unfold V1 YV at*;simp[Mt,YN,V.one];refine ZC k Z1 ?_;simp
structure Ck.ok (s:Ck):Prop where
 h:s.h.ok
 ob:∀k,∀o∈s.dp k,JF (I<|Zy s.h k) o/\ZA o.target
 len:∀k,I (s.dp k)<=1000000
def VP(ws:List Int)(k:Nat):Int:=(ws[k]?).getD 0
def obQ(s:Ck)(k:Int)(q:Int->Int->Bool)(o:Ob):Bool:=o.gone||(List.range o.ac.toNat).all λj=>q ((o.Z.toNat+1+j:Nat):Int)<|VP (Zy s.h k)<|o.Z.toNat+1+j
def WI(s:Ck)(k:Int)(q:Int->Int->Bool):Bool:=(s.dp k).all<|obQ s k q
def L1{s:Ck}(u:s.ok){k:Int}(W:1<=k/\k<=4){f:FuncId}{cs:List V}{q:Int->Int->Bool}(hq:∀a w,ZA w->VC xP f xw ([vi a,vu w]++cs) (.bool<|q a w)):
  VC xP 72 xw [YV s,vi k,.cp f cs] (.bool<|WI s k q):=by
 refine Y4 Z0t follows Z2 c72 rfl ?_;simp[-List.all_eq_true,-List.all_eq_false,Mr];refine ZC (P5 W) Z1 ?_;have Z:Y1 (.agg [.sl<|s.o1.map ZL,.sl<|s.o2.map ZL,.sl<|s.o3.map ZL,.sl<|s.o4.map ZL]) 0=J (.sl<|s.o1.map ZL):=rfl;have Q:=u.len k;have D:=u.ob k;have hw:=(Xy u.h k).1;have Y:=(Xy u.h k).2;have x:Y7 (.agg [.sl<|s.o1.map ZL,.sl<|s.o2.map ZL,.sl<|s.o3.map ZL,.sl<|s.o4.map ZL]) (.int .i64<|IntKind.i64.wrap<|k-1) 4 1 xk=J (.agg [.sl<|(s.dp k).map ZL]):=by
  have:k=1\/k=2\/k=3\/k=4:=Z0;obtain rfl|rfl|rfl|rfl:=this<;>simp[Y7,Ck.dp,Rb,UV,VO,U6]
 unfold WI;generalize hL:s.dp k=L at*;generalize S:Zy s.h k=r at*;simp[-List.all_eq_true,-List.all_eq_false,YV,ZR,x];refine qY 5 (I L) (λi=>(L.take i).all (obQ s k q)=xk) Z1 Z1 Z1 ?_;intro i hi O;have a0:=ZB ((i:Int)+1) Z0 Z0;by_cases l:i<I L;have M:L[i]?=J L[i]:=ZeX l;obtain⟨⟨⟨a,N,P⟩,F⟩,_⟩:=D _<|Zfr l;generalize L[i]=o at*;obtain⟨s1,s2,s3,s4⟩:=YH.1 F;obtain⟨m,R⟩:=Zfd s3;have G:=ZB ((a:Int)+1) Z0 Z0;have C:obQ s k q o=xk->(L.take<|i+1).all (obQ s k q)=xk:=λh=>by simp_all[EA]
 have y:obQ s k q o=xw->L.all (obQ s k q)=xw:=λg=>Ez M g;cases z:o.gone;have t:obQ s k q o=(List.range m).all λj=>q ((a+1+j:Nat):Int)<|VP r<|a+1+j:=by
  unfold obQ;rw[R,N,S,z];rfl
 simp[-List.all_eq_true,-List.all_eq_false,l,M,Vf M,YW,z,N,R];refine qY 11 m (λj=>((List.range j).all λj=>q ((a+1+j:Nat):Int)<|VP r<|a+1+j)=xk) Z1 Z1 Z1 ?_;intro j hj T;have a1:=ZB ((j:Int)+1) Z0 Z0;by_cases A:j<m;obtain⟨w,d,hu⟩:∃w,r[a+1+j]?=J w/\ZA w:=⟨_,ZeX Z0,hw _<|Zfr _⟩;have K:VP r (a+1+j)=w:=by unfold VP;rw[d];rfl
 have p:((List.range<|j+1).all λj=>q ((a+1+j:Nat):Int)<|VP r<|a+1+j)=(((List.range j).all λj=>q ((a+1+j:Nat):Int)<|VP r<|a+1+j)&&q ((a+1+j:Nat):Int) w):=by
  rw[Zig,List.all_append];simp[K]
 have g:q ((a+1+j:Nat):Int) w=xw->L.all (obQ s k q)=xw:=λg=>y (by
  grind)
 obtain⟨n,X⟩:∃n,a+1+j=n:=⟨_,rfl⟩;have B:(a:Int)+1+(j:Int)=(n:Int):=Z0;have H:=ZB (n:Int) Z0 Z0;rw[X]at d p g;have kq:=hq (n:Int) w hu;simp[-List.all_eq_true,-List.all_eq_false,A,G,B,H,d,Vf d,YW];refine ZC kq Z1 ?_;simp_all;have:j=m:=Z0;simp_all;have t:obQ s k q o=xk:=by unfold obQ;rw[z];rfl
 simp_all;have:i=I L:=Z0;simp_all
@[simp]theorem Zd1 l:(V.ptr l).one=xk:=rfl
@[simp]theorem ZcQ l:YN (.ptr l)=J (.ptr l):=rfl
@[simp]theorem ZcX f l:(V.cp f l).one=xk:=rfl
@[simp]theorem ZcM f l:YN (.cp f l)=J (.cp f l):=rfl
@[simp]theorem ZcL s:YN (YV s)=J (YV s):=rfl
@[simp]theorem ZcW s:(YV s).one=xk:=rfl
@[simp]theorem Zdr s:UT (YV s)=J (.agg<|ZR s):=rfl
@[simp]theorem Zbe s:(ZR s)[4]?=J (vi s.h.Y):=rfl
@[simp]theorem Zb7 s:(ZR s)[3]?=J (.bool s.h.M):=rfl
@[simp]theorem Zbd s:(ZR s)[9]?=J (.sl<|s.h.E.map vu):=rfl
@[simp]theorem Zbb s:(ZR s)[5]?=J (.sl<|s.h.H.map vu):=rfl
@[simp]theorem Zb9 s:(ZR s)[6]?=J (.sl<|s.h.aa.map vu):=rfl
@[simp]theorem Zbc s:(ZR s)[7]?=J (.sl<|s.h.an.map vu):=rfl
@[simp]theorem Zb8 s:(ZR s)[8]?=J (.sl<|s.h.am.map vu):=rfl
@[simp]theorem Zb6 s:(ZR s)[1]?=J (vi s.h.cap):=rfl
def Qd(s:Ck):Bool:=s.h.E.all (λw=>YG s w 1 2)&&(WI s 2 (λ_ w=>YG s w 1 2)&&WI s 1 (λa w=>decide (s.h.Y<=a)||YG s w 1 2))
def Z8o{s:Ck}(n:s.ok):VC xP 50 xw [YV s]<|.bool<|Qd s:=by
 refine Y4 Z0e follows Z2 c50 rfl ?_;have k1:=L1 n (k:=2) Z0 (f:=73) (cs:=[V1 s]) (q:=λ_ w=>YG s w 1 2) (λa w l=>Z8m l);have y:=L1 n (k:=1) Z0 (f:=74) (cs:=[V1 s]) (q:=λa w=>decide (s.h.Y<=a)||YG s w 1 2) (λa w l=>Z8n l);have C:=λw (l:ZA w)=>L2 (s:=s) (first:=1) (last:=2) l;have A:=n.h.E;have t:=n.h.db;unfold Qd;unfold V1 at k1 y;generalize WI s 2 (λ_ w=>YG s w 1 2)=z at*;generalize WI s 1 (λa w=>decide (s.h.Y<=a)||YG s w 1 2)=D at*;simp[-List.all_eq_true,-List.all_eq_false,Mf];refine qY 3 (I s.h.E) (λi=>(s.h.E.take i).all (λw=>YG s w 1 2)=xk) Z1 Z1 Z1 ?_;intro i F g;have u:=ZB ((i:Int)+1) Z0 Z0;by_cases j:i<I s.h.E;have o:s.h.E[i]?=J s.h.E[i]:=ZeX j;have B:=t _<|Zfr j;generalize s.h.E[i]=w at*;have p:YG s w 1 2=xw->s.h.E.all (λw=>YG s w 1 2)=xw:=λr=>Ez o r;have d:=EA (q:=λw=>YG s w 1 2) o;rw[g]at d;simp[-List.all_eq_true,-List.all_eq_false,j,o,Vf o,YW];refine ZC (C w B) Z1 ?_;cases x:YG s w 1 2;simp[-List.all_eq_true,-List.all_eq_false,p x];rw[x]at d;simp[-List.all_eq_true,-List.all_eq_false,u,j,d];have:i=I s.h.E:=Z0;subst this;rw[ZgZ]at g;simp[-List.all_eq_true,-List.all_eq_false,g];refine ZC k1 (by simp[Wl,V.bb]) ?_;cases z;simp;simp;refine ZC y (by simp[Wl,V.bb]) ?_;simp
def Qj(s:Ck):Bool:=WI s 1 (λa w=>decide (a<s.h.Y)||YG s w 1 4)
def Z9g{s:Ck}(d:s.ok):VC xP 51 xw [YV s]<|.bool<|Qj s:=by
 refine Y4 Z0f follows Z2 c51 rfl ?_;have k1:=L1 d (k:=1) Z0 (f:=75) (cs:=[V1 s]) (q:=λa w=>decide (a<s.h.Y)||YG s w 1 4) (λa w g=>Z9f g);unfold Qj;unfold V1 at k1;simp[Mg];refine ZC k1 (by simp[Wl,V.bb]) ?_;simp
def RT(s:Ck):Bool:=WI s 3 (λ_ w=>YG s w 3 4)&&WI s 4 (λ_ w=>YG s w 3 4)
def Z4h{s:Ck}(g:s.ok):VC xP 52 xw [YV s]<|.bool<|RT s:=by
 refine Y4 Z0g follows Z2 c52 rfl ?_;have k1:=L1 g (k:=3) Z0 (f:=76) (cs:=[V1 s]) (q:=λ_ w=>YG s w 3 4) (λa w d=>Hl d);have h:=L1 g (k:=4) Z0 (f:=76) (cs:=[V1 s]) (q:=λ_ w=>YG s w 3 4) (λa w d=>Hl d);unfold RT;unfold V1 at k1 h;generalize WI s 3 (λ_ w=>YG s w 3 4)=j at*;generalize WI s 4 (λ_ w=>YG s w 3 4)=l at*;simp[Mh];refine ZC k1 (by simp[Wl,V.bb]) ?_;cases j;simp;simp;refine ZC h (by simp[Wl,V.bb]) ?_;simp
end Vm
namespace Vm
open Go Go.Proofs
def Sx(s:Ck):Bool:=ZQ (Zv s.h)&&(decide (I s.h.E<=16)&&(decide (0<=s.h.Y)&&decide (s.h.Y<=I s.h.H)))
def Z1l{s:Ck}(f:s.h.ok):VC xP 46 xw [YV s]<|.bool<|Sx s:=by
 refine Y4 Z09 follows Z2 c46 rfl ?_;have k:=Li f.bj;unfold Sx;unfold Zv Xk at k;simp[Md];simp[ZR];refine ZC k Z1 ?_;have e:ZQ {base:=s.h.base,cap:=s.h.cap,to:=s.h.to,H:=(I s.h.H:Int),aa:=(I s.h.aa:Int),an:=(I s.h.an:Int),am:=(I s.h.am:Int)}=ZQ (Zv s.h):=rfl;rw[e];cases ZQ (Zv s.h);simp;by_cases d:I s.h.E<=16;have a:(I s.h.E:Int)<=16:=Z0;simp_all;have a:¬(I s.h.E:Int)<=16:=Z0;simp[d,a]
def Qa(s:Ck):Bool:=if s.h.M then decide (s.h.Y<I s.h.H)else decide (I s.h.an=0)&&(decide (I s.h.am=0)&&decide (s.h.Y=I s.h.H))
def Z7u{s:Ck}:VC xP 47 xw [YV s]<|.bool<|Qa s:=by
 refine Y4 Z0a follows Z2 c47 rfl ?_;unfold Qa;cases f:s.h.M;by_cases g:I s.h.an=0;have a:s.h.an=[]:=Zhi.1 g;by_cases j:I s.h.am=0;have d:s.h.am=[]:=Zhi.1 j;simp[KS,f,a,d];have d:¬s.h.am=[]:=λe=>j (by simp[e]);simp[KS,f,a,j,d];have a:¬s.h.an=[]:=λe=>g (by simp[e]);simp[KS,f,g,a];simp[KS,f]
def Sl(s:Ck):Nat:=Y6 s.o3+Y6 s.o4
@[simp]theorem ZcC s:((ZR s).drop 17).take 4=[.sl<|s.o1.map ZL,.sl<|s.o2.map ZL,.sl<|s.o3.map ZL,.sl<|s.o4.map ZL]:=rfl
@[simp]theorem Zba s:I (ZR s)=23:=rfl
def ON{s:Ck}(t:s.ok):VC xP 20 xw [YV s]<|vi<|Sl s:=by
 refine Y4 Z01 follows Z2 c20 rfl ?_;have p:∀k,∀o∈s.dp k,Yq o.size o.ac=xk:=λk o n=>(t.ob k o n).1.2;have K:I s.o3<=1000000:=t.len 3;have L:I s.o4<=1000000:=t.len 4;have a:∀o∈s.o3,Yq o.size o.ac=xk:=p 3;have d:∀o∈s.o4,Yq o.size o.ac=xk:=p 4;have F:=Jy a;have G:=Jy d;have A:Y7 (.agg [.sl<|s.o1.map ZL,.sl<|s.o2.map ZL,.sl<|s.o3.map ZL,.sl<|s.o4.map ZL]) (.int .i64 2) 4 1 xk=J (.agg [.sl<|s.o3.map ZL]):=by simp[Y7]
 have B:Y7 (.agg [.sl<|s.o1.map ZL,.sl<|s.o2.map ZL,.sl<|s.o3.map ZL,.sl<|s.o4.map ZL]) (.int .i64 3) 4 1 xk=J (.agg [.sl<|s.o4.map ZL]):=by simp[Y7]
 simp[IZ];refine Rf (λ(i:Nat)=>[(2,.v<|vi ((if 0<i then Y6 s.o3 else 0)+(if 1<i then Y6 s.o4 else 0):Nat)),(3,.v<|vi ((i+3:Nat):Int))]) (λi=>i<=2) (XB 3 5) 0 Z1 Z1 ?_;rintro i M;have q:i=0\/i=1\/i=2:=Z0;obtain rfl|rfl|rfl:=q;simp[VO,A];refine Tz 5 (I s.o3) (λj=>[(2,.v<|vi<|Y6<|s.o3.take j),(5,.v<|vi j)]) (λ_=>True) (by simp[Y6]) (λi=>Z1) trivial ?_;rintro j H-;have w:=ZB ((j:Int)+1) Z0 Z0;by_cases h:j<I s.o3;have x:s.o3[j]?=J s.o3[j]:=ZeX h;have f:=a _<|Zfr h;have u:=Pd x;generalize s.o3[j]=o at*;have r:Y6 (s.o3.take j)<=256*I s.o3:=by
  refine Zfw (Jy λo n=>a o<|Zga n) ?_;simp;omega
 obtain⟨g1,g2,C,D⟩:=YH.1 f;obtain⟨z,y⟩:=Zfd g1;have w1:=ZB (1+(z:Int)) Z0 Z0;have w2:=ZB ((Y6 (s.o3.take j):Int)+(1+z)) Z0 Z0;cases l:o.gone;have g:Wg o=1+z:=by simp[Wg,l,y]
 simp_all;have g:Wg o=0:=by simp[Wg,l]
 simp_all;have:j=I s.o3:=Z0;subst this;rw[ZgZ];simp[YW,ZB];exact⟨1,Z0,Z1,by simp[XB]⟩;simp[U6,B];refine Tz 5 (I s.o4) (λj=>[(2,.v<|vi (Y6 s.o3+Y6 (s.o4.take j):Nat)),(5,.v<|vi j)]) (λ_=>True) (by simp[Y6]) (λi=>Z1) trivial ?_;rintro j H-;have w:=ZB ((j:Int)+1) Z0 Z0;by_cases h:j<I s.o4;have x:s.o4[j]?=J s.o4[j]:=ZeX h;have f:=d _<|Zfr h;have u:=Pd x;generalize s.o4[j]=o at*;have r:Y6 (s.o4.take j)<=256*I s.o4:=by
  refine Zfw (Jy λo n=>d o<|Zga n) ?_;simp;omega
 obtain⟨g1,g2,C,D⟩:=YH.1 f;obtain⟨z,y⟩:=Zfd g1;have w1:=ZB (1+(z:Int)) Z0 Z0;have w2:=ZB ((Y6 s.o3:Int)+Y6 (s.o4.take j)+(1+z)) Z0 Z0;cases l:o.gone;have g:Wg o=1+z:=by simp[Wg,l,y]
 simp_all;omega;have g:Wg o=0:=by simp[Wg,l]
 simp_all;have:j=I s.o4:=Z0;subst this;rw[ZgZ];simp[YW,ZB];exact⟨2,Z0,Z1,by simp[XB]⟩;simp[Sl]
def Qb(s:Ck):Bool:=decide ((I s.h.H:Int)+I s.h.aa+Sl s<=s.h.cap)
def Z9n{s}(a:s.ok):Sl s<=512*1000000:=by
 have f:=Jy (l:=s.o3) λo d=>(a.ob 3 o d).1.2;have g:=Jy (l:=s.o4) λo d=>(a.ob 4 o d).1.2;have h:I s.o3<=1000000:=a.len 3;have j:I s.o4<=1000000:=a.len 4;grind [Sl]
def Z7C{s:Ck}(a:s.ok):VC xP 53 xw [YV s]<|.bool<|Qb s:=by
 refine Y4 Z0h follows Z2 c53 rfl ?_;have d:=Z9n a;have f:=a.h.H;have g:=a.h.aa;have w1:=ZB ((I s.h.H:Int)+I s.h.aa) Z0 Z0;have w2:=ZB ((I s.h.H:Int)+I s.h.aa+Sl s) Z0 Z0;simp[Mi];refine ZC (ON a) Z1 ?_;simp[w1,w2,Qb]
end Vm
namespace Vm
open Go Go.Proofs
def Wz(lm:List<|Int×(Int×Int))(ws:List Int):Nat->Nat->List (Int×Int)->List (Int×Int)
 |0,_,a=>a
 |f+1,i,a=>
  match ws[i]? with
  |none=>a
  |some w=>if(adr w).2=0 then(match ZT lm (adr w).1 with|none=>a|some sh=>Wz lm ws f (i+1+sh.1.toNat)<|a++[sh])
   else if(ZN w).2.2=0 then Wz lm ws f (i+1+(ZN w).1.toNat) a else a
def VN(lm:List<|Int×(Int×Int))(ws:List Int):List<|Int×Int:=Wz lm ws (I ws+1) 0 []
def Gj{α l k}{x:α}(h:ZT l k=J x):(k,x)∈l:=by
 obtain⟨y,a,rfl⟩:=ZeY.1 h;grind
def Z8p{s:Ck}(D:∀x∈s.lm,Yq x.2.1 x.2.2=xk){ws:List Int}(M:I ws<=1000000)(L:∀w∈ws,ZA w):
  VC xP 69 xw [YV s,.sl<|ws.map vu] (.sl<|(VN s.lm ws).map XM):=by
 refine Y4 Z0q follows Z2 c69 rfl ?_;have C:∀k,Uf (.i .u64) (Y5 XM s.lm) (vu k) (.agg [vi 0,vi 0]) xk=match ZT s.lm k with
  |some x=>J<|.ak [XM x,.bool xk]
  |none=>J<|.ak [.agg [vi 0,vi 0],.bool xw]:=λk=>by grind [RW,ZT]
 have B:(ZR s)[22]?=J (Y5 XM s.lm):=rfl;simp[Mq]
 refine Rf (λ(p:Nat×List (Int×Int))=>[(3,.v<|.sl<|p.2.map XM),(4,.v<|vi p.1)])
  (λp=>p.1<=I ws+256/\I p.2<=p.1/\∃f,I ws<f+p.1/\0<f/\VN s.lm ws=Wz s.lm ws f p.1 p.2) (XB 4<|I ws) (0,[]) Z1 ⟨Z1,Z1,I ws+1,Z1,Z0,rfl⟩ ?_
 rintro⟨i,g⟩ ⟨K,r,f,G,H,a⟩;simp only at K r G a;cases f with
 |zero=>omega
 |succ f=>
 by_cases d:i<I ws;have y:ws[i]?=J ws[i]:=ZeX d;have F:=L _<|Zfr d;generalize ws[i]=w at*;simp only[Wz,y]at a;have u:I g+1<=YJ:=by simp[YJ];omega
 simp[d,y,Vf y,YW];refine ZC (JI F) Z1 ?_;by_cases A:(adr w).2=0;rw[Zfc A]at a;simp[A,B,C];cases t:ZT s.lm (adr w).1 with
 |none=>
  simp_all
 |some q=>
  rw[t]at a;simp only at a;have h:0<=q.1/\q.1<=255/\0<=q.2/\q.2<=q.1:=YH.1<|D _<|Gj t;obtain⟨z,o⟩:=Zfd h.1;have l:=ZB (1+(z:Int)) Z0 Z0;have n:=ZB ((i:Int)+(1+z)) Z0 Z0;rw[o,Zfl]at a;simp[u,o,l,n];refine⟨i+1+z,g++[q],⟨Z0,Ze4,f,Z0,?_,a⟩,⟨by simp[XM,o],Z0⟩,ZeQ⟩;omega
 rw[Zf7 A]at a;simp[A,y,Vf y,d,YW];refine ZC (OC F) Z1 ?_;by_cases j:(ZN w).2.2=0;rw[Zfc j]at a;have h:=YH.1<|D6 j;obtain⟨z,o⟩:=Zfd h.1;have l:=ZB (1+(z:Int)) Z0 Z0;have n:=ZB ((i:Int)+(1+z)) Z0 Z0;rw[o,Zfl]at a;simp[j,o,l,n];refine⟨i+1+z,g,⟨Z0,Z0,f,Z0,?_,a⟩,⟨rfl,Z0⟩,ZeQ⟩;omega;simp_all;simp_all[ZfP,Wz]
end Vm
namespace Vm
open Go Go.Proofs
def Wj(pm:List<|Int×Int):List Ob->List (Int×Bool)->Option (List<|Int×Bool)
 | [],m=>J m
 |o::l,m=>if o.gone=xk then(if(ZT pm o.target).getD 0=1/\(ZT m o.target).getD xw=xw then Wj pm l (XE m o.target xk)else U)else Wj pm l m
def Rx(s:Ck):Bool:= !s.h.M||match(Wj s.pm s.o3 []).bind (Wj s.pm s.o4)with
 |none=>xw
 |some m=>decide (I m=I s.o1)
def Ic{l k x}:UJ (.i .u64) (Y5 .bool l) (vu k) (.bool x)=J (Y5 .bool<|XE l k x):=Kw
def QX{l k}:Uf (.i .u64) (Y5 .bool l) (vu k) (.bool xw) xw=J (.bool<|(ZT l k).getD xw):=by
 grind [RW]
def QY{l k}:Uf (.i .u64) (Y5 vi l) (vu k) (vi 0) xw=J (vi<|(ZT l k).getD 0):=by
 grind [RW]
def Z4Z{α}(f:α->V):Y5 f []=.mp 0 [] []:=rfl
def Z1P{s:Ck}(t:s.ok):VC xP 49 xw [YV s]<|.bool<|Rx s:=by
 refine Y4 Z0c follows Z2 c49 rfl ?_;have K:I s.o3<=1000000:=t.len 3;have L:I s.o4<=1000000:=t.len 4;have A:∀o∈s.o3,ZA o.target:=λo z=>(t.ob 3 o z).2;have B:∀o∈s.o4,ZA o.target:=λo z=>(t.ob 4 o z).2;have G:Y7 (.agg [.sl<|s.o1.map ZL,.sl<|s.o2.map ZL,.sl<|s.o3.map ZL,.sl<|s.o4.map ZL]) (.int .i64 2) 4 1 xk=J (.agg [.sl<|s.o3.map ZL]):=by simp[Y7]
 have H:Y7 (.agg [.sl<|s.o1.map ZL,.sl<|s.o2.map ZL,.sl<|s.o3.map ZL,.sl<|s.o4.map ZL]) (.int .i64 3) 4 1 xk=J (.agg [.sl<|s.o4.map ZL]):=by simp[Y7]
 have F:Y7 (.agg [.sl<|s.o1.map ZL,.sl<|s.o2.map ZL,.sl<|s.o3.map ZL,.sl<|s.o4.map ZL]) (.int .i64 0) 4 1 xk=J (.agg [.sl<|s.o1.map ZL]):=by simp[Y7]
 have k:(ZR s)[21]?=J (Y5 vi s.pm):=rfl;have y:=(Z4Z V.bool).symm;unfold Rx;cases D:s.h.M;simp[BG,D];simp[BG,D,y]
 refine Rf (λ(p:Nat×List (Int×Bool))=>[(3,.v<|Y5 .bool p.2),(4,.v<|vi ((p.1+3:Nat):Int))])
  (λp=>(p.1=0/\p.2=[])\/(p.1=1/\Wj s.pm s.o3 []=J p.2)\/(p.1=2/\(Wj s.pm s.o3 []).bind (Wj s.pm s.o4)=J p.2)) (XB 4 5) (0,[]) Z1 Z1 ?_
 rintro⟨i,m⟩ (⟨rfl,rfl⟩|⟨rfl,x⟩|⟨rfl,x⟩);simp[VO,G];refine Rf (λ(p:Nat×List (Int×Bool))=>[(3,.v<|Y5 .bool p.2),(6,.v<|vi p.1)]) (λp=>p.1<=I s.o3/\Wj s.pm s.o3 []=Wj s.pm (s.o3.drop p.1) p.2) (XB 6<|I s.o3) (0,[]) Z1 Z1 ?_;rintro⟨j,r⟩ ⟨w,a⟩;simp only at w a;have d:=ZB ((j:Int)+1) Z0 Z0;by_cases g:j<I s.o3;have f:s.o3[j]?=J s.o3[j]:=ZeX g;have u:=Zg4 g;have C:=A _<|Zfr g;generalize s.o3[j]=o at*;rw[u,Wj]at a;cases l:o.gone;rw[l]at a;rw[Zf7 Z1]at a;simp[YW,g,f,Vf f,l,d];exact⟨j+1,r,⟨Z0,a⟩,⟨rfl,Z0⟩,ZeQ⟩;rw[l]at a;rw[Zfc rfl]at a;by_cases n:(ZT s.pm o.target).getD 0=1;cases q:(ZT r o.target).getD xw;rw[Zfc ⟨n,q⟩]at a;simp[YW,g,f,Vf f,l,d,k,QY,QX,Wl,V.bb,n,q,Ic];exact⟨j+1,XE r o.target xk,⟨Z0,a⟩,⟨rfl,Z0⟩,ZeQ⟩;rw[Zf7 (by simp[q])]at a;simp[YW,g,f,Vf f,l,d,k,QY,QX,Wl,V.bb,n,q,a];rw[Zf7 (by simp[n])]at a;simp[YW,g,f,Vf f,l,d,k,QY,QX,Wl,V.bb,n,a];have:j=I s.o3:=Z0;subst this;rw[List.drop_length,Wj]at a;simp[ZB];exact⟨1,r,by simp[a],Z1,by simp[XB]⟩;simp[U6,H];refine Rf (λ(p:Nat×List (Int×Bool))=>[(3,.v<|Y5 .bool p.2),(6,.v<|vi p.1)]) (λp=>p.1<=I s.o4/\Wj s.pm s.o4 m=Wj s.pm (s.o4.drop p.1) p.2) (XB 6<|I s.o4) (0,m) Z1 Z1 ?_;rintro⟨j,r⟩ ⟨w,a⟩;simp only at w a;have d:=ZB ((j:Int)+1) Z0 Z0;by_cases g:j<I s.o4;have f:s.o4[j]?=J s.o4[j]:=ZeX g;have u:=Zg4 g;have C:=B _<|Zfr g;generalize s.o4[j]=o at*;rw[u,Wj]at a;cases l:o.gone;rw[l]at a;rw[Zf7 Z1]at a;simp[YW,g,f,Vf f,l,d];exact⟨j+1,r,⟨Z0,a⟩,⟨rfl,Z0⟩,ZeQ⟩;rw[l]at a;rw[Zfc rfl]at a;by_cases n:(ZT s.pm o.target).getD 0=1;cases q:(ZT r o.target).getD xw;rw[Zfc ⟨n,q⟩]at a;simp[YW,g,f,Vf f,l,d,k,QY,QX,Wl,V.bb,n,q,Ic];exact⟨j+1,XE r o.target xk,⟨Z0,a⟩,⟨rfl,Z0⟩,ZeQ⟩;rw[Zf7 (by simp[q])]at a;simp[YW,g,f,Vf f,l,d,k,QY,QX,Wl,V.bb,n,q,x,a];rw[Zf7 (by simp[n])]at a;simp[YW,g,f,Vf f,l,d,k,QY,QX,Wl,V.bb,n,x,a];have:j=I s.o4:=Z0;subst this;rw[List.drop_length,Wj]at a;simp[ZB];exact⟨2,r,Ze2,Z1,by simp[XB]⟩;simp[Rb,VO,F];grind
end Vm
namespace Vm
open Go Go.Proofs
def Rm:Prop:=∀a:List Int,I a<=1000000->(∀w∈a,ZA w)->VC xP 66 xk [.sl<|a.map vu] (.ak [.sl<|(ZM a [] xw).1.map ZL,vi (ZM a [] xw).2])
def Rn:Prop:=∀(d:List Int) (a:List<|Int×Int),I d<=1000000->I a<=1000000->(∀w∈d,ZA w)->(∀x∈a,Yq x.1 x.2=xk)->
 VC xP 68 xk [.sl<|d.map vu,.sl<|a.map XM] (.ak [.sl<|(ZM d a xk).1.map ZL,vi (ZM d a xk).2])
def Xc(s:Ck)(k:Int):List Ob×Int:=if k<=2 then ZM (Zy s.h k) [] xw else ZM (Zy s.h k) (VN s.lm<|Zy s.h k) xk
def WQ:List Int->Ck->Bool×Ck
 | [],s=>(xk,s)
 |k::l,s=>if(Xc s k).2=0 then WQ l (XD s k (Xc s k).1)else(xw,s)
def XN(s:Ck):Bool×Ck:=WQ [1,2,3,4] s
def Q3 s k l:(XD s k l).h=s.h:=Z6S s k l
def Z6P{α l k x}{y:Int×α}(h:y∈XE l k x):y=(k,x)\/y∈l:=by
 grind [XE]
def J4{h k}:∀ {l} {m:List (Int×(Int×Int))},(∀o∈l,Yq o.size o.ac=xk)->(∀x∈m,Yq x.2.1 x.2.2=xk)->∀x∈Xm h k m l,Yq x.2.1 x.2.2=xk
 | [],m,_,a=>a
 |o::l,m,f,a=>by
  rw[Xm];refine J4 Ze3 ?_;split;intro x d;obtain rfl|d:=Z6P d;simp_all;grind;exact a
def Lw{s}(a:s.h.ok){k}:(∀o∈(Xc s k).1,JF (I<|Zy s.h k) o/\ZA o.target)/\(Xc s k).1.length<=I (Zy s.h k):=by
 unfold Xc;split;exact⟨OW (Xy a k).1,OX⟩;exact⟨OW (Xy a k).1,OX⟩
def CG{lm ws}:∀ {f i} {a:List (Int×Int)},I a<=i->I a<=I ws->I (Wz lm ws f i a)<=I ws
 |0,i,a,_,h=>h
 |f+1,i,a,j,h=>by
  rw[Wz];cases g:ws[i]? with
  |none=>exact h
  |some w=>
   have d:=(ZeW.1 g).1;simp only;split;split;exact h;exact CG Ze4 Ze4;split;exact CG Z0 h;exact h
def O2{lm ws}:I (VN lm ws)<=I ws:=CG Z1 Z1
def qC{lm ws}(d:∀x∈lm,Yq x.2.1 x.2.2=xk):∀ {f i} {a:List (Int×Int)},(∀x∈a,Yq x.1 x.2=xk)->∀x∈Wz lm ws f i a,Yq x.1 x.2=xk
 |0,i,a,h=>h
 |f+1,i,a,h=>by
  rw[Wz];cases g:ws[i]? with
  |none=>exact h
  |some w=>
   simp only;split;split;exact h;rename_i k j;refine qC d ?_;intro x g;obtain g|g:=Zfs.1 g;grind;simp at g;subst g;exact d _<|Gj j;split;exact qC d h;exact h
def qV:IntKind.i64.wrap 4=4:=Zeh
def Z9t(F:Rm)(B:Rn){s:Ck}(G:s.h.ok)(D:∀x∈s.lm,Yq x.2.1 x.2.2=xk):Vd xP 48 [.mem z5] [.agg<|ZR s]<|.ak [.bool (XN s).1,.agg<|ZR (XN s).2]:=by
 refine Jv Z0b follows Z2 c48 Z2 ?_;simp[Me];refine Rf (λ(p:Nat×Ck)=>[(0,.m<|ZR p.2),(3,.v<|vi p.1)]) (λp=>p.1<=4/\p.2.h=s.h/\(∀x∈p.2.lm,Yq x.2.1 x.2.2=xk)/\XN s=WQ ([1,2,3,4].drop p.1) p.2) (XB 3 4) (0,s) Z1 ⟨Z1,rfl,D,rfl⟩ ?_;rintro⟨i,q⟩ ⟨H,A,n,f⟩;simp only at H A n f;have d:q.h.ok:=A▸G;have C:i=0\/i=1\/i=2\/i=3\/i=4:=Z0;have j:=λk K=>P5 (s:=q) (k:=k) K;have w:=λk=>Z8p (s:=q) n (Xy d k).2 (Xy d k).1;obtain rfl|rfl|rfl|rfl|rfl:=C;replace j:=j 1 Z0;have st:=Lw d (k:=1);have t:=yu (s:=q) d (k:=1) Z0 (l:=(Xc q 1).1)<|Zfw st.2 (Xy d 1).2;have k1:=F _ (Xy d 1).2 (Xy d 1).1;have g:=J4 (h:=q.h) (k:=1) (l:=(Xc q 1).1) (m:=q.lm) (λo y=>(st.1 o y).1.2) n;replace f:XN s=WQ (1:: [2,3,4]) q:=f;rw[WQ]at f;have r:Xc q 1=ZM (Zy q.h 1) [] xw:=rfl;rw[<-r]at k1;generalize Xc q 1=z at*;obtain⟨l,e⟩:=z;simp only at k1 t f g st;unfold YV ZR at j;unfold ZR at t;simp[ZR,UV,VO,U6,qV];refine ZC j Z1 ?_;simp;refine ZC k1 Z1 ?_;simp;by_cases u:e=0;rw[Zfc u]at f;simp[u];refine VR t ?_;simp[ZB];exact⟨1,XD q 1 l,⟨Z0,by rw[Q3,A],λa b c h=>g (a,b,c) h,f⟩,⟨Z1,rfl⟩,by simp[XB]⟩;simp_all;replace j:=j 2 Z0;have st:=Lw d (k:=2);have t:=yu (s:=q) d (k:=2) Z0 (l:=(Xc q 2).1)<|Zfw st.2 (Xy d 2).2;have k1:=F _ (Xy d 2).2 (Xy d 2).1;have g:=J4 (h:=q.h) (k:=2) (l:=(Xc q 2).1) (m:=q.lm) (λo y=>(st.1 o y).1.2) n;replace f:XN s=WQ (2:: [3,4]) q:=f;rw[WQ]at f;have r:Xc q 2=ZM (Zy q.h 2) [] xw:=rfl;rw[<-r]at k1;generalize Xc q 2=z at*;obtain⟨l,e⟩:=z;simp only at k1 t f g st;unfold YV ZR at j;unfold ZR at t;simp[ZR,UV,VO,U6,qV];refine ZC j Z1 ?_;simp;refine ZC k1 Z1 ?_;simp;by_cases u:e=0;rw[Zfc u]at f;simp[u];refine VR t ?_;simp[ZB];exact⟨2,XD q 2 l,⟨Z0,by rw[Q3,A],λa b c h=>g (a,b,c) h,f⟩,⟨Z1,rfl⟩,by simp[XB]⟩;simp_all;replace j:=j 3 Z0;have st:=Lw d (k:=3);have t:=yu (s:=q) d (k:=3) Z0 (l:=(Xc q 3).1)<|Zfw st.2 (Xy d 3).2;have k1:=B _ (VN q.lm<|Zy q.h 3) (Xy d 3).2 (Zfw O2 (Xy d 3).2) (Xy d 3).1<|qC n Z1;replace w:=w 3;have g:=J4 (h:=q.h) (k:=3) (l:=(Xc q 3).1) (m:=q.lm) (λo y=>(st.1 o y).1.2) n;replace f:XN s=WQ (3:: [4]) q:=f;rw[WQ]at f;have r:Xc q 3=ZM (Zy q.h 3) (VN q.lm<|Zy q.h 3) xk:=rfl;rw[<-r]at k1;generalize Xc q 3=z at*;obtain⟨l,e⟩:=z;simp only at k1 t f g st;unfold YV ZR at j w;unfold ZR at t;simp[ZR,UV,VO,U6,qV];refine ZC j Z1 ?_;simp;refine ZC j Z1 ?_;simp;refine ZC w Z1 ?_;simp;refine ZC k1 Z1 ?_;simp;by_cases u:e=0;rw[Zfc u]at f;simp[u];refine VR t ?_;simp[ZB];exact⟨3,XD q 3 l,⟨Z0,by rw[Q3,A],λa b c h=>g (a,b,c) h,f⟩,⟨Z1,rfl⟩,by simp[XB]⟩;simp_all;replace j:=j 4 Z0;have st:=Lw d (k:=4);have t:=yu (s:=q) d (k:=4) Z0 (l:=(Xc q 4).1)<|Zfw st.2 (Xy d 4).2;have k1:=B _ (VN q.lm<|Zy q.h 4) (Xy d 4).2 (Zfw O2 (Xy d 4).2) (Xy d 4).1<|qC n Z1;replace w:=w 4;have g:=J4 (h:=q.h) (k:=4) (l:=(Xc q 4).1) (m:=q.lm) (λo y=>(st.1 o y).1.2) n;replace f:XN s=WQ (4:: []) q:=f;rw[WQ]at f;have r:Xc q 4=ZM (Zy q.h 4) (VN q.lm<|Zy q.h 4) xk:=rfl;rw[<-r]at k1;generalize Xc q 4=z at*;obtain⟨l,e⟩:=z;simp only at k1 t f g st;unfold YV ZR at j w;unfold ZR at t;simp[ZR,UV,VO,U6,qV];refine ZC j Z1 ?_;simp;refine ZC j Z1 ?_;simp;refine ZC w Z1 ?_;simp;refine ZC k1 Z1 ?_;simp;by_cases u:e=0;rw[Zfc u]at f;simp[u];refine VR t ?_;simp[ZB];exact⟨4,XD q 4 l,⟨Z0,by rw[Q3,A],λa b c h=>g (a,b,c) h,f⟩,⟨Z1,rfl⟩,by simp[XB]⟩;simp_all;replace f:XN s=(xk,q):=f;simp[f,ZR]
end Vm
namespace Vm
open Go Go.Proofs
def Z9l{P f ks cs r}(hv:VC P f xw [.ptr cs] r)(G:r.bb=xk)(l:I cs=I ks)(u:cs.all V.one=xk)(D:ks.all (λk=> !(k==.fq))=xk):
  Vd P f [.mem ks] [.agg cs] (.ak [r,.agg cs]):=by
 let⟨Q,R⟩:=hv;refine⟨Q,λB w h vs a S=> ?_⟩;let⟨a3,a2,C⟩:=S;let⟨tk,j,z⟩:=C 0 _ _ rfl rfl;simp only[XX]at j;rw[Zfc l]at j;simp at j;subst j;let⟨b,O,T,q,M,hh,o⟩:=z;have n:∀(ks:List CK) cs,I cs=I ks->Ys [] (((ks.zip cs).map λy=>(y.1,E.c y.2)).map (·.2))=J cs:=by
  intro ks;induction ks with
  |nil=>simp
  |cons k ks ih=>
   intro cs hl;obtain _|⟨c,cs⟩:=cs;simp at hl;simp_all
 have hz:eval [] (.pt U (((ks.zip cs).map λy=>(y.1,E.c y.2)).map (·.2)))=J (.ptr cs):=by
  simp only[eval,n ks cs l,Zf8,L3,u,ZfT]
 have Y:Wi ((ks.zip cs).map λy=>(y.1,E.c y.2))=xw:=by
  rw[Wi,ZhX];intro x N;obtain⟨y,A,rfl⟩:=Zfh.1 N;have:=Zfb.1 D y.1 (List.of_mem_zip A).1;simpa using this
 have a1:=Ku (G':=λb=>h.F b\/∃t i,h.bl t i=J b) q hh o Y hz (λb d=>.inl d) λi b d=>.inr ⟨0,i,d⟩;refine Zhc (R w (λb=>h.F b\/∃t i,h.bl t i=J b) vs (λb d=> ?_) Z0 λi x N=> ?_) λe w' Z=> ?_;obtain d|⟨t,i,d⟩:=d;exact a.bf b d;exact(a.ao t i b d).2.1;grind;obtain⟨v,rfl,g,L⟩:=Z;have p:=g.size;have X:=λb d=>g.block b<|a.bf b d;have W:=λt i b d=>g.block b (a.ao t i b d).2.1;have K:O.size=I cs:=by
  have:=o.1;simp at this;omega
 refine⟨v,r,[.agg cs],h,rfl,g.mono a.base,λb d=>g.block b<|a.co b d,⟨Zfw a.base p,λb d=>Zf4 (a.bf b d) p,a.cq,a.fe,λt i b d=> ?_,a.inj,λb d=>Zf4 (a.co b d) p,a.ci,a.ff⟩,rfl,L.gg G,⟨rfl,λi k y H a0 A=> ?_⟩,rfl⟩;let⟨q1,q2,q3⟩:=a.ao t i b d;grind;cases i with
 |zero=>
  simp at H A;subst H;subst A;refine⟨.mem _,by rw[XX,Zfc l],b,O,T,q,M,?_,o.keep X Z1 Z1 λi b d=>W 0 _ b d⟩;grind
 |succ i=>simp at H
end Vm
namespace Vm
open Go Go.Proofs
def UQ:List FuncId:=[46,47,48,49,50,51,52,53]
def Ag(f:FuncId):V:=.agg [.fn f]
def Z7I:VC xP 31 xw []<|.sl<|UQ.map Ag:=by
 refine Y4 Z03 follows Z2 c31 rfl ?_;simp[M6,UQ,Ag]
def Se(f:FuncId)(s:Ck):Bool×Ck:=
 if f=46 then(Sx s,s)else if f=47 then(Qa s,s)else if f=48 then XN s
 else if f=49 then(Rx s,s)else if f=50 then(Qd s,s)else if f=51 then(Qj s,s)else if f=52 then(RT s,s)else(Qb s,s)
structure Ck.okk (s:Ck):Prop where
 ok:s.ok
 lm:∀x∈s.lm,Yq x.2.1 x.2.2=xk
def Ck.lw(s:Ck)k l(a:1<=k/\k<=4)j:(s.put k l).dp j=if j=k\/(k=4/\¬(j=1\/j=2\/j=3))then l else s.dp j:=by
 have:k=1\/k=2\/k=3\/k=4:=Z0;obtain rfl|rfl|rfl|rfl:=this<;>simp[Ck.put,Ck.dp]<;>(split<;>simp_all)<;>(grind)<;>(grind)
def Z5j{s}(d:s.okk){k}(g:1<=k/\k<=4):(XD s k (Xc s k).1).okk:=by
 have st:=Lw d.ok.h (k:=k);have l:=(Xy d.ok.h k).2;have a:∀j,(XD s k (Xc s k).1).dp j=((s.put k (Xc s k).1).dp j):=λj=>rfl;refine⟨⟨by rw[Q3];exact d.ok.h,λj o f=> ?_,λj=> ?_⟩,J4 (λo f=>(st.1 o f).1.2) d.lm⟩;rw[Q3];rw[a,Ck.lw _ _ _ g]at f;split at f;rename_i h;have:Zy s.h j=Zy s.h k:=by
  obtain rfl|⟨rfl,h⟩:=h;rfl;simp_all[Zjh,Zy]
 simp_all;exact d.ok.ob j o f;rw[a,Ck.lw _ _ _ g];split;omega;exact d.ok.len j
def OZ:∀ {l} {s:Ck},(∀k∈l,1<=k/\k<=4)->s.okk->(WQ l s).2.okk/\(WQ l s).2.h=s.h
 | [],s,_,a=>⟨a,rfl⟩
 |k::l,s,d,a=>by
  rw[WQ];split;simp_all[OZ,Z5j,Q3];simp_all
def Z9r{s}(a:s.okk):(XN s).2.okk/\(XN s).2.h=s.h:=OZ Z1 a
def NA{s}(a:s.okk){f}:(Se f s).2.okk/\(Se f s).2.h=s.h:=by
 unfold Se;repeat' split
 all_goals first|exact⟨a,rfl⟩|exact Z9r a
def Z7H(j:Rm)(d:Rn){s}(a:s.okk){f}(g:f∈UQ):Vd xP f [.mem z5] [.agg<|ZR s]<|.ak [.bool (Se f s).1,.agg<|ZR (Se f s).2]:=by
 have go:∀ {f b},VC xP f xw [YV s] _->Vd xP f [.mem z5] [.agg _] (.ak [.bool b,.agg _]):=λh=>Z9l h rfl rfl rfl rfl;simp[UQ,ZhA]at g;obtain rfl|rfl|rfl|rfl|rfl|rfl|rfl|rfl:=g;exact go<|Z1l a.ok.h;exact go Z7u;exact Z9t j d a.ok.h a.lm;exact go<|Z1P a.ok;exact go<|Z8o a.ok;exact go<|Z9g a.ok;exact go<|Z4h a.ok;exact go<|Z7C a.ok
def RX:List FuncId->Ck->Option Ck
 | [],s=>J s
 |f::l,s=>if(Se f s).1=xk then RX l (Se f s).2 else U
def Xj(h:Hp):Ck:= {h:=h,o1:=[],o2:=[],o3:=[],o4:=[],pm:=[],lm:=[]}
def Vl(h:Hp):Option Ck:=RX UQ<|Xj h
def H9{h}(a:h.ok):(Xj h).okk:=by
 have f:∀k,(Xj h).dp k=[]:=λk=>by simp[Xj,Ck.dp]
 refine⟨⟨a,λk o g=> ?_,λk=> ?_⟩,λx d=>(by simp[Xj]at d)⟩;simp_all;simp_all
def B1(w:Rm)(k:Rn){h:Hp}(y:h.ok):VC xP 18 xw [ZD h]<|.ak [match Vl h with|some s=>YV s|none=>.lu 0,.bool (Vl h).isSome]:=by
 refine Y4 u9 follows Z2 c18 rfl ?_;have k1:=DE (h:=h);have B:=Z7I;have a:I UQ=8:=rfl;unfold ZD at k1;simp[IY];refine ZC k1 Z1 ?_;simp[Xk,Zv];refine ZC B Z1 ?_;simp;refine Rf (λ(p:Nat×Ck)=>[(5,.m<|ZR p.2),(6,.v<|vi p.1)]) (λp=>p.1<=8/\p.2.okk/\Vl h=RX (UQ.drop p.1) p.2) (XB 6 8) (0,Xj h) ZeR ⟨Z1,H9 y,rfl⟩ ?_;rintro⟨i,q⟩ ⟨z,n,g⟩;simp only at z n g;have o:=ZB ((i:Int)+1) Z0 Z0;by_cases d:i<I UQ;have t:UQ[i]?=J UQ[i]:=ZeX d;have x:=Zg4 d;have A:=Zfr d;generalize UQ[i]=f at*;rw[x,RX]at g;have u:=Z7H w k n A;have l:=(NA n (f:=f)).1;rw[a]at d;have j:(i:Int)<8:=Z0;simp[YW,d,j,t,Vf t,a,Ag,ZR];unfold ZR at u;refine VR u ?_;cases r:(Se f q).1;rw[Zf7 (by simp[r])]at g;simp[g];rw[Zfc r]at g;simp[o];exact⟨i+1,(Se f q).2,⟨Z0,l,g⟩,⟨Z1,Z0⟩,ZeQ⟩;have:i=8:=Z0;subst this;replace g:Vl h=J q:=g;simp[a,g,ZR,YV]
def Ht:∀ {l} {s q:Ck},s.okk->RX l s=J q->q.okk/\q.h=s.h
 | [],s,q,a,h=>by simp[RX]at h;subst h;exact⟨a,rfl⟩
 |f::l,s,q,a,h=>by
  rw[RX]at h;split at h;have d:=NA a (f:=f);have g:=Ht d.1 h;exact⟨g.1,Ze3⟩;cases h
def Z4m{h}(a:h.ok){q}(d:Vl h=J q):q.okk/\q.h=h:=Ht (H9 a) d
def Ps(d:Rm)(a:Rn){h:Hp}(f:h.ok):VC xP 10 xw [ZD h]<|.bool (Vl h).isSome:=by
 refine Y4 DU follows Z2 c10 rfl ?_;simp[IU];refine ZC (B1 d a f) Z1 ?_;simp
def KK(h:Hp)(k:Int):List Ob×Int:=match Vl h with
 |some s=>if 1<=k/\k<=4 then(s.dp k,0)else([],1)
 |none=>([],1)
def Pq(l:Rm)(f:Rn){h:Hp}(n:h.ok){k:Int}:VC xP 61 xw [ZD h,vi k]<|.ak [.sl<|(KK h k).1.map ZL,vi (KK h k).2]:=by
 refine Y4 El follows Z2 c61 rfl ?_;simp[Mm];refine ZC (B1 l f n) Z1 ?_;unfold KK;cases o:Vl h with
 |none=>simp
 |some s=>
  by_cases g:1<=k;by_cases j:k<=4;have:k=1\/k=2\/k=3\/k=4:=Z0;obtain rfl|rfl|rfl|rfl:=this<;>simp[Y7,Rb,UV,VO,U6,Ck.dp];have a:¬k<1:=Z0;have d:4<k:=Z0;simp[g,j,a,d];have a:k<1:=Z0;simp[g,a]
def qW(h:Hp):Nat:=match Vl h with
 |some s=>Sl s
 |none=>0
def Pu(f:Rm)(a:Rn){h:Hp}(d:h.ok):VC xP 12 xw [ZD h]<|vi<|qW h:=by
 refine Y4 t9 follows Z2 Rr rfl ?_;simp[IV];refine ZC (B1 f a d) Z1 ?_;unfold qW;cases g:Vl h with
 |none=>simp
 |some s=>
  simp;refine ZC (ON (Z4m d g).1.ok) Z1 ?_;simp
end Vm
end
section
namespace Vm
open Go Go.Proofs
structure Stands (ws:List Int) (old:Bool) (o:Ob):Prop where
 ie:0<=o.Z
 shape:Yq o.size o.ac=xk
 ay:o.Z+1+o.size<=I ws
 fk:Xf ((ws.drop<|o.Z.toNat+1).take o.size.toNat) o.gone o.ac 0=xk
 word:∃w,ws[o.Z.toNat]?=J w/\(if o.gone then old=xk/\(adr w).2=0/\o.target=(adr w).1 else(old=xk->¬(adr w).2=0)/\ZN w=(o.size,o.ac,0)/\o.target=0)
def Tiles(ws:List Int)(old:Bool):Nat->List Ob->Prop
 |a,[]=>I ws<=a
 |a,o::l=>o.Z=a/\Stands ws old o/\Tiles ws old (a+1+o.size.toNat) l
def Z5o{ws shs old a g t w o}(k:ws[a]?=J w)(f:XR shs old a g w=J (o,t))(h:¬(I ws:Int)<a+1+o.size)
  (j:¬Xf ((ws.drop<|a+1).take o.size.toNat) o.gone o.ac 0=xw):o.Z=a/\Stands ws old o:=by
 have d:=yw f;refine⟨d.2,?_,d.1,?_,?_,w,?_,?_⟩;omega;omega;simp_all;simp_all;unfold XR at f;grind
def OU{ws shs old}:∀f a j d l,Xb ws shs old f a j d=(l,0)->∃r,l=d++r/\Tiles ws old a r
 |0,_,_,_,_,h=>by simp[Xb]at h
 |f+1,a,j,d,l,h=>by
  unfold Xb at h;split at h;rename_i p;split at h;grind;simp[and_true]at h;subst h;exact⟨[],Z1,Zh8.1 p⟩;rename_i w x;split at h;grind;rename_i o t q;split at h;grind;rename_i k;split at h;grind;rename_i n;obtain⟨r,rfl,u⟩:=OU f _ _ _ _ h;have g:=Z5o x q k n;exact⟨o::r,Z1,g.1,g.2,u⟩
def Sn{ws shs old l}(h:ZM ws shs old=(l,0)):Tiles ws old 0 l:=by
 let⟨r,a,d⟩:=OU _ _ _ _ _ h;simp_all
def Tiles.az{ws old}:∀ {a} {l:List Ob},Tiles ws old a l->∀o∈l,Stands ws old o/\a<=o.Z
 |_,[],_,_,h=>ZeD
 |a,o::l,h,x,d=>by
  obtain rfl|d:=Zfi.1 d;exact⟨h.2.1,by rw[h.1];omega⟩;have:=Tiles.az h.2.2 x d;grind
def Tiles.apart{ws old}:∀ {a} {l:List Ob},Tiles ws old a l->∀o∈l,∀q∈l,o=q\/o.Z+1+o.size<=q.Z\/q.Z+1+q.size<=o.Z
 |_,[],_,_,h,_,_=>ZeD
 |a,x::l,h,o,f,q,d=>by
  have e:=h.1;obtain rfl|f:=Zfi.1 f;obtain rfl|d:=Zfi.1 d;simp;have:=(Tiles.az h.2.2 q d).2;omega;obtain d|d:=Zfi.1 d;have:=(Tiles.az h.2.2 o f).2;grind;exact Tiles.apart h.2.2 o f q d
structure RightH (h:Hp) (p:Pts):Prop where
 gp:Xz h=J p
 num:TY h=xk
 ok:R1 h p=xk
 H:Tiles h.H xw 0 p.H
 aa:Tiles h.aa xw 0 p.aa
 an:Tiles h.an xk 0 p.an
 am:Tiles h.am xk 0 p.am
def Z7v{h}(k:Yg h=xk):∃p,RightH h p:=by
 let⟨p,a,g,j⟩:=Z7y k;refine⟨p,a,j,g,?_,?_,?_,?_⟩;all_goals
  unfold Xz at a;dsimp only at a;split at a;cases a;split at a;cases a;rename_i c2;cases a;have c3:(ZM h.H [] xw).2=0/\(ZM h.aa [] xw).2=0:=by
   refine⟨Z0,Z0⟩
  have c4:∀x:Int,¬x≠0->x=0:=Z0;have f:=c4 _ (λd=>c2<|.inr<|.inr<|.inr d);first|exact Sn (Zhy rfl c3.1)|exact Sn (Zhy rfl c3.2)|exact Sn (Zhy rfl<|c4 _ (λd=>c2<|.inr<|.inr<|.inl d))|exact Sn<|Zhy rfl f
def RightH.al{h p}(r:RightH h p){k}(a:1<=k/\k<=4):Tiles (Zy h k) (decide (2<k)) 0<|p.at k:=by
 have:k=1\/k=2\/k=3\/k=4:=Z0;obtain rfl|rfl|rfl|rfl:=this;exact r.H;exact r.aa;exact r.an;exact r.am
def RightH.bj{h p}(r:RightH h p):ZQ (Zv h)=xk:=by
 have:=r.num;simp_all[TY,ZeZ]
def ZJ(l:Ly)(k a:Int):Int:=2*(fstL l k+a)+1
theorem Ss{l}(d:ZQ l=xk){k a}(f:0<=a):adr (ZJ l k a)=(fstL l k+a,0):=by
 have:=Vy d k;unfold adr ZJ;grind
theorem Qr{l}(g:ZQ l=xk){k a}(f:1<=k/\k<=4)(d:0<=a/\a<X7 l k):Yr l k a=(fstL l k+a,0):=by
 simp_all[Yr,Zf7]
theorem QF{l}(g:ZQ l=xk){k a}(j:1<=k/\k<=4)(d:0<=a/\a<X7 l k):Y8 l (fstL l k+a)=(k,a,0):=by
 have h:=XL.1 g;have n:=D4 g;unfold Y8 YR;have f:k=1\/k=2\/k=3\/k=4:=Z0;obtain rfl|rfl|rfl|rfl:=f;grind;simp[fstL,X7]at d⊢;grind;simp[fstL,X7]at d⊢;grind;simp[fstL,X7]at d⊢;grind
end Vm
namespace Vm
open Go Go.Proofs
def Gg{g}(a:ZQ (Zv g)=xk):fwd g 0=(0,g,0):=by simp[fwd,a]
def qe{l}(f:ZQ l=xk){k a}(d:0<=a):¬ZJ l k a=0:=by
 grind [ZJ]
def fwd_here{g}(h:ZQ (Zv g)=xk){k a:Int}(f:1<=k/\k<=2)(d:0<=a/\a< I (Zy g k)):fwd g (ZJ (Zv g) k a)=(ZJ (Zv g) k a,g,0):=by
 grind [Ss,QF,US,fwd]
def fwd_gone{g}(d:ZQ (Zv g)=xk){k}{a:Nat}(p:3<=k/\k<=4){u}(o:(Zy g k)[a]?=J u)(f:(adr u).2=0):fwd g (ZJ (Zv g) k a)=(u,g,0):=by
 have q:a< I (Zy g k):=Ze2;have h:=qe d (k:=k) (a:=a) Z0;have j:=Ss d (k:=k) (a:=a) Z0;have l:=QF d (k:=k) (a:=a) Z0 (by rw[US Z0];omega);have n:(Zy g k).getD a 0=u:=by simp[o]
 unfold fwd;simp[-List.getD_eq_getElem?_getD,d,h,j,l,show ¬k<3 by omega,n,f]
def Yc(g:Hp)(k:Int)(a n:Nat):Hp:=Vr (Xd g k a n) k<|(zr (Zy g k) a n).set a<|ZJ (Zv g) 1<|I g.H
def J0{g k a n}(d:a+n<=I (Zy g k)):Zv (Xd g k a n)= {Zv g with H:=(I g.H+n:Nat)}:=by
 simp_all[Zv,Xd,Ly.mk.injEq,true_and,and_true]
theorem Ia{g}(f:ZQ (Zv g)=xk){k a n}(d:a+n<=I (Zy g k))(j:n<=XG (Zv g)):ZQ (Zv<|Xd g k a n)=xk:=by
 rw[J0 d];have e:XG (Zv g)=(Zv g).cap- (Zv g).H- (Zv g).aa:=by unfold XG;rw[f];rfl
 have h:(Zv g).H=I g.H:=rfl;grind [XL]
def Bf{g k}(f:3<=k/\k<=4){a n}(d:a+n<=I (Zy g k)):Zv (Yc g k a n)= {Zv g with H:=(I g.H+n:Nat)}:=by
 rw[<-J0 d];apply Z9u;rw[Zgx,jb];have:k=3\/k=4:=Z0;obtain rfl|rfl:=this<;>rfl
def Z4W{g}(j:ZQ (Zv g)=xk){k}(f:3<=k/\k<=4){a n}(d:a+n<=I (Zy g k))(h:n<=XG (Zv g)):ZQ (Zv<|Yc g k a n)=xk:=by
 rw[Bf f d,<-J0 d];grind [Ia]
def Z7h{g k}(d:3<=k/\k<=4){a n}(f:a+n<=I (Zy g k))j b:ZJ (Zv<|Yc g k a n) j b=ZJ (Zv g) j b:=by
 rw[Bf d f];rfl
def fwd_wait{g}(h:ZQ (Zv g)=xk){k a}(C:3<=k/\k<=4){u}(B:(Zy g k)[a]?=J u)(q:¬(adr u).2=0){n:Nat}{pt}(p:ZN u=((n:Int),pt,0))
  (j:a+(n+1)<=I (Zy g k)) (A:((n+1:Nat):Int)<=XG (Zv g)):fwd g (ZJ (Zv g) k a)=(ZJ (Zv g) 1<|I g.H,Yc g k a<|n+1,0):=by
 have r:=qe h (k:=k) (a:=a) Z0;have t:=Ss h (k:=k) (a:=a) Z0;have w:=QF h (k:=k) (a:=a) Z0 (by grind [US]);have x:(Zy g k).getD a 0=u:=by simp[List.getD,B]
 have f:=Ia h j A;have y:Yr (Zv<|Xd g k a<|n+1) 1 (I g.H)=(fstL (Zv g) 1+I g.H,0):=by
  have:=Qr f (k:=1) (a:=(I g.H:Int)) Z0 (by rw[J0 j];simp[X7,ZfT];omega);rw[this,J0 j];rfl
 have d:=Vy f 1;rw[J0 j]at d;simp only[X7,ZfT]at d;have l:fstL {Zv g with H:=(I g.H+(n+1):Nat)} 1=fstL (Zv g) 1:=rfl;rw[l]at d;have z:V9 (fstL (Zv g) 1+I g.H)=(ZJ (Zv g) 1<|I g.H,0):=by
  unfold V9 ZJ;rw[Zf7 Z0]
 unfold fwd;have o:¬k<3:=Z0;simp only[h,r,t,w,Zf7 o,Zil,ZfV,Zjb,Ziy,Zfl,x,q,p];unfold SI;rw[Zf7 Z0,Zf7 Z0];simp[y,z];rfl
theorem Ds{ws a}:∀n j,j<a\/a+n<=j->(zr ws a n)[j]?=ws[j]?
 |0,_,_=>rfl
 |n+1,j,h=>by
  unfold zr;rw[ZfX Z0];exact Ds n j Z0
def Bh{g k}(o:3<=k/\k<=4){a n}(p:0<n){j}(l:3<=j/\j<=4){b}(h:j≠k\/b<a\/a+n<=b):(Zy (Yc g k a n) j)[b]?=(Zy g j)[b]? :=by
 have f:k=3\/k=4:=Z0;have d:j=3\/j=4:=Z0;obtain rfl|rfl:=f<;>obtain rfl|rfl:=d<;>simp[Yc,Xd,BN]
 grind [Ds];grind [Ds]
def Bg{g k}(l:3<=k/\k<=4){a n j}(h:3<=j/\j<=4):I (Zy (Yc g k a n) j)=I (Zy g j):=by
 have f:k=3\/k=4:=Z0;have d:j=3\/j=4:=Z0;obtain rfl|rfl:=f<;>obtain rfl|rfl:=d<;>simp[Yc,Xd]
def Z4V{g k}(h:3<=k/\k<=4){a n}(f:a+n<=I (Zy g k)):(Yc g k a n).H.length=I g.H+n/\(Yc g k a n).aa=g.aa:=by
 have d:k=3\/k=4:=Z0;obtain rfl|rfl:=d<;>simp[BN]at f<;>simp[Yc,Xd]<;>omega
end Vm
namespace Vm
open Go Go.Proofs
def CI{h ws low}:∀f i d l,WX h ws low f i d=J l->∃r,l=d++r
 |0,_,_,_,a=>by simp[WX]at a
 |f+1,i,d,l,a=>by
  unfold WX at a;split at a;cases a;exact⟨[],Z1⟩;split at a;split at a;cases a;let⟨r,g⟩:=CI f _ _ _ a;exact⟨_,by rw[g,Zg1]⟩;split at a;exact CI f _ _ _ a;cases a
def qE{h ws low}:∀f i d k,WX h ws low f i d=J k->∀p g l,Xb ws k xk p i (I d) g=(l,0)->
  ∃r,l=g++r/\∀o∈r,o.gone=xk->∃q,YD h 1 low o.target=J q/\q.size=o.size/\q.ac=o.ac
 |0,_,_,_,j=>by simp[WX]at j
 |f+1,i,d,k,j=>by
  intro p g l a;cases p with
  |zero=>simp[Xb]at a
  |succ p=>
   unfold WX at j;unfold Xb at a;cases x:ws[i]? with
   |none=>
    simp_all
   |some w=>
    simp[x]at j a;by_cases t:(adr w).2=0;simp[t,ZfT]at j;cases B:YD h 1 low (adr w).1 with
    |none=>simp_all
    |some q=>
     simp[B]at j;let⟨r,C⟩:=CI _ _ _ _ j;have D:k[I d]?=J (q.size,q.ac):=by rw[C];simp
     unfold XR at a;rw[Zfc ⟨rfl,t⟩]at a;simp[D]at a;by_cases u:Yq q.size q.ac=xk;rw[Zfc u]at a;simp only at a;split at a;simp at a;split at a;simp at a;have n:I d+1=I (d++[(q.size,q.ac)]):=Z1;rw[n]at a;let⟨F,z,A⟩:=qE f _ _ _ j _ _ _ a;grind;simp_all
    simp[t,ZfV]at j;by_cases y:(ZN w).2.2=0;simp[y,ZfT]at j;unfold XR at a;rw[Zf7 Z0,Zfc y]at a;simp only at a;split at a;simp at a;split at a;simp at a;let⟨F,z,A⟩:=qE f _ _ _ j _ _ _ a;simp_all;simp_all
def RightH.nn{h p}(r:RightH h p){k}(D:3<=k/\k<=4){o}(d:o∈p.at k)(A:o.gone=xk):∃q∈p.H,YU h 1 q.Z=o.target/\q.size=o.size/\q.ac=o.ac:=by
 have a:=r.gp;unfold Xz at a;dsimp only at a;split at a;cases a;split at a;cases a
 have f:∀g x,x=Vo h g (ZM h.H [] xw).1->¬x=U->(ZM g (x.getD []) xk).2=0->o∈(ZM g (x.getD []) xk).1->
   ∃q∈(ZM h.H [] xw).1,YU h 1 q.Z=o.target/\q.size=o.size/\q.ac=o.ac:=by
  intro g x C F n d;obtain _|j:=x;simp_all;simp[Zfv]at n d;let⟨H,l,t⟩:=qE _ _ _ _ C.symm _ [] (ZM g j xk).1<|Zhy rfl n;simp[ZfW]at l;rw[l]at d;let⟨q,B,G⟩:=t o d A;have:=Zif B;grind [EU]
 have u:¬Vo h h.an (ZM h.H [] xw).1=U:=Ze3;have w:¬Vo h h.am (ZM h.H [] xw).1=U:=Ze3;have y:(ZM h.an ((Vo h h.an (ZM h.H [] xw).1).getD []) xk).2=0:=Z0;have z:(ZM h.am ((Vo h h.am (ZM h.H [] xw).1).getD []) xk).2=0:=Z0;cases a;have:k=3\/k=4:=Z0;obtain rfl|rfl:=this;exact f _ _ rfl u y Zeg;exact f _ _ rfl w z Zeg
def Pc{l o}(h:o∈l):Wg o<=Y6 l:=by
 unfold Y6;induction l with
 |nil=>simp at h
 |cons x l a=>
  grind
def Z9o{p k}(a:3<=k/\k<=4){o}(h:o∈p.at k):Wg o<=Yh p:=by
 have:k=3\/k=4:=Z0;unfold Yh;obtain rfl|rfl:=this;have:=Pc (l:=p.an) h;omega;have:=Pc (l:=p.am) h;omega
def Z7g{l}(d:ZQ l=xk){k j a b}(o:1<=k/\k<=4)(n:1<=j/\j<=4)(f:0<=a/\a<X7 l k)(g:0<=b/\b<X7 l j)(h:ZJ l k a=ZJ l j b):k=j/\a=b:=by
 have p:=QF d o f;have q:=QF d n g;have:fstL l k+a=fstL l j+b:=by unfold ZJ at h;omega
 simp_all
def P3{u a}(d:(adr u).2=0)(h:(adr u).1=a):u=2*a+1:=by
 unfold adr at d h;grind
def Z0J{u}(h:(ZN u).2.2=0):¬(adr u).2=0:=by
 unfold ZN at h;split at h;rename_i a;unfold adr;grind;grind
end Vm
namespace Vm
open Go Go.Proofs
end Vm
end
section
namespace Vm
open Go Go.Proofs
def Tiles.order{ws old}:∀ {a} {l:List Ob},Tiles ws old a l->l.Pairwise λx y=>x.Z<y.Z
 |_,[],_=>.nil
 |a,o::l,h=>by
  refine .cons (λx d=> ?_)<|Tiles.order h.2.2;have:=(Tiles.az h.2.2 x d).2;have:=h.1;omega
def CT{h}(f:ZQ (Zv h)=xk){k}(d:1<=k/\k<=4){old o}(a:Stands (Zy h k) old o):YU h k o.Z=fstL (Zv h) k+o.Z:=by
 have:=YH.1 a.shape;have:=a.ay;have:=a.ie;grind [YU,Qr,US]
def Z8Q{h}(f:ZQ (Zv h)=xk){k}(d:1<=k/\k<=4){old o}(a:Stands (Zy h k) old o):Y8 (Zv h) (YU h k o.Z)=(k,o.Z,0):=by
 have:=YH.1 a.shape;have:=a.ay;have:=a.ie;rw[CT f d a];grind [QF,US]
def Tiles.ni{h}(f:ZQ (Zv h)=xk){k}(d:1<=k/\k<=4){old l}(a:Tiles (Zy h k) old 0 l):l.Pairwise λx y=>YU h k x.Z≠YU h k y.Z:=by
 refine List.Pairwise.imp_of_mem ?_ a.order;intro x y j n g;rw[CT f d (a.az x j).1,CT f d (a.az y n).1];omega
def Im{h a}:∀ {l} {m:List (Int×(Int×Int))},(l.Pairwise λx y=>YU h 1 x.Z≠YU h 1 y.Z)->ZT (Xm h 1 m l) a=match YD h 1 l a with
  |some o=>J (o.size,o.ac)
  |none=>ZT m a
 | [],m,_=>rfl
 |o::l,m,f=>by
  let⟨g,d⟩:=Zio.1 f;rw[Xm,Im d];unfold YD;cases j:l.find? (λo=>YU h 1 o.Z==a)with
  |some q=>
   grind
  |none=>
   simp[QM];grind [YU,Zv]
def Bp{h k}(a:¬k=1):∀ {l} {m:List (Int×(Int×Int))},Xm h k m l=m
 | [],m=>rfl
 |o::l,m=>by simp_all[Xm,Bp]
def KG{h k a}:∀ {l} {m:List (Int×Int)},ZT (Wo h k m l) a=if(YD h k l a).isSome=xk then J k else ZT m a
 | [],m=>rfl
 |o::l,m=>by
  rw[Wo,KG];unfold YD;rw[QM];by_cases f:YU h k o.Z=a;have d:(Yr _ k o.Z).1=a:=f;have:(YU h k o.Z==a)=xk:=Zek;simp[this,d];have d:¬(Yr _ k o.Z).1=a:=f;have:(YU h k o.Z==a)=xw:=Zek;simp[this,d]
def CH{lm ws}:∀f i a,∃r,Wz lm ws f i a=a++r
 |0,_,a=>⟨[],by simp[Wz]⟩
 |f+1,i,a=>by
  rw[Wz];cases ws[i]? with
  |none=>simp
  |some w=>
   simp only;split;split;simp;obtain⟨r,d⟩:=CH (lm:=lm) (ws:=ws) f _ _;exact⟨_,by rw[d,Zg1]⟩;split;exact CH f _ _;simp
def qA{lm h low}(j:∀a,ZT lm a=(YD h 1 low a).map λo=>(o.size,o.ac)){ws}:∀f i g k,WX h ws low f i g=J k->Wz lm ws f i g=k
 |0,_,_,_,d=>by simp[WX]at d
 |f+1,i,g,k,d=>by
  rw[WX]at d;rw[Wz];cases q:ws[i]? with
  |none=>rw[q]at d;simpa using d
  |some w=>
   rw[q]at d;simp only at d⊢;by_cases l:(adr w).2=0;rw[Zfc l]at d⊢;rw[j];cases n:YD h 1 low (adr w).1 with
   |none=>rw[n]at d;cases d
   |some o=>rw[n]at d;exact qA j _ _ _ _ d
   rw[Zf7 l]at d⊢;by_cases p:(ZN w).2.2=0;rw[Zfc p]at d⊢;exact qA j _ _ _ _ d;rw[Zf7 p]at d;cases d
def qB{lm h low}(k:∀a,ZT lm a=(YD h 1 low a).map λo=>(o.size,o.ac)){ws}:∀f i d,0<f->I ws<f+i->WX h ws low f i d=U->
  ∀l j,(Xb ws (Wz lm ws f i d) xk l i (I d) j).2≠0
 |0,_,_,u,_,_=>Z0
 |f+1,i,d,u,D,g=>by
  intro l j;cases l with
  |zero=>simp[Xb]
  |succ l=>
   rw[WX]at g;rw[Wz,Xb];cases t:ws[i]? with
   |none=>simp_all
   |some w=>
    have x:=(ZeW.1 t).1;rw[t]at g;simp only at g⊢;by_cases p:(adr w).2=0;rw[Zfc p]at g⊢;rw[k];cases y:YD h 1 low (adr w).1 with
    |none=>
     simp[Option.map_none];have:XR d xk i (I d) w=U:=by
      unfold XR;rw[Zfc ⟨rfl,p⟩];simp
     rw[this];simp
    |some o=>
     rw[y]at g;simp[Zfm]at g⊢;let⟨r,z⟩:=CH (lm:=lm) (ws:=ws) f (i+1+o.size.toNat)<|d++[(o.size,o.ac)];have C:=qB k f _ _ Z0 Z0 g l;generalize Wz lm ws f _ _=n at*;have A:n[I d]?=J (o.size,o.ac):=by rw[z];simp
     unfold XR;rw[Zfc ⟨rfl,p⟩,A];simp only;by_cases q:Yq o.size o.ac=xk;rw[Zfc q];simp only;split;simp;split;simp;simp_all;simp_all
    rw[Zf7 p]at g⊢;by_cases B:(ZN w).2.2=0;rw[Zfc B]at g⊢;have C:=qB k f _ d Z0 Z0 g l;generalize Wz lm ws f _ d=n at*;unfold XR;grind;simp_all[XR]
structure Found (h:Hp) (s:Ck) (p:Pts):Prop where
 hp:s.h=h
 o1:s.o1=p.H
 o2:s.o2=p.aa
 o3:s.o3=p.an
 o4:s.o4=p.am
 pm:s.pm=Wo h 4 (Wo h 3 (Wo h 2 (Wo h 1 [] p.H) p.aa) p.an) p.am
def Z9s{h}(C:ZQ (Zv h)=xk):match Xz h with
  |some p=>(XN<|Xj h).1=xk/\Found h (XN<|Xj h).2 p
  |none=>(XN<|Xj h).1=xw:=by
 unfold XN Xz;dsimp only;have D:Xc (Xj h) 1=ZM h.H [] xw:=rfl;rw[WQ,D];by_cases z:(ZM h.H [] xw).2=0;case neg=>simp_all
 rw[Zfc z];have B:Tiles h.H xw 0 (ZM h.H [] xw).1:=Sn (ws:=h.H) (shs:=[]) Ze2;generalize (ZM h.H [] xw).1=d at*;have F:Xc (XD (Xj h) 1 d) 2=ZM h.aa [] xw:=rfl;rw[WQ,F];by_cases A:(ZM h.aa [] xw).2=0;case neg=>simp_all
 rw[Zfc A,Zf7 Z0];generalize (ZM h.aa [] xw).1=n at*;have f:∀a,ZT (Xm h 1 [] d) a=(YD h 1 d a).map λo=>(o.size,o.ac):=by
  intro a;rw[Im<|Tiles.ni C (k:=1) Z0 (by simpa using B)];cases YD h 1 d a<;>rfl
 have g:(XD (XD (Xj h) 1 d) 2 n).lm=Xm h 1 [] d:=Bp Z0;have G:Xc (XD (XD (Xj h) 1 d) 2 n) 3=ZM h.an (VN (Xm h 1 [] d) h.an) xk:=by
  rw[<-g];rfl
 rw[WQ,G];cases w:Vo h h.an d with
 |none=>
  have:=qB f _ 0 [] Z0 Z0 w (I h.an+1) [];have q:¬(ZM h.an (VN _ h.an) xk).2=0:=this;rw[Zf7 q,Zfc Z1]
 |some shs=>
 have t:VN _ h.an=shs:=qA f _ _ _ _ w;rw[t];simp[Zfv];by_cases q:(ZM h.an shs xk).2=0;case neg=>simp_all
 rw[Zfc q];generalize (ZM h.an shs xk).1=y at*;have l:(XD (XD (XD (Xj h) 1 d) 2 n) 3 y).lm=Xm h 1 [] d:=by
  rw[<-g];exact Bp Z0
 have H:Xc (XD (XD (XD (Xj h) 1 d) 2 n) 3 y) 4=ZM h.am (VN (Xm h 1 [] d) h.am) xk:=by
  rw[<-l];rfl
 rw[WQ,H];cases x:Vo h h.am d with
 |none=>
  have:=qB f _ 0 [] Z0 Z0 x (I h.am+1) [];have r:¬(ZM h.am (VN _ h.am) xk).2=0:=this;rw[Zf7 r,Zfc Z1]
 |some j=>
 have u:VN _ h.am=j:=qA f _ _ _ _ x;rw[u];simp[Zfv];by_cases r:(ZM h.am j xk).2=0;case neg=>simp_all
 rw[Zfc r,Zf7 Ze2];exact⟨rfl,rfl,rfl,rfl,rfl,rfl,rfl⟩
end Vm
namespace Vm
open Go Go.Proofs
def BO{h p}(a:Xz h=J p){k}(g:1<=k/\k<=4):Tiles (Zy h k) (decide (2<k)) 0<|p.at k:=by
 have:k=1\/k=2\/k=3\/k=4:=Z0;unfold Xz at a;dsimp only at a;split at a;cases a;split at a;cases a;rename_i c2;cases a;have c3:(ZM h.H [] xw).2=0/\(ZM h.aa [] xw).2=0:=by
  refine⟨Z0,Z0⟩
 have c4:∀x:Int,¬x≠0->x=0:=Z0;have f:=c4 _ (λd=>c2<|.inr<|.inr<|.inr d);obtain rfl|rfl|rfl|rfl:=this;exact Sn<|Zhy rfl c3.1;exact Sn<|Zhy rfl c3.2;exact Sn<|Zhy rfl<|c4 _ (λd=>c2<|.inr<|.inr<|.inl d);exact Sn<|Zhy rfl f
def Z68{h p}(a:Xz h=J p){k}(C:3<=k/\k<=4){o}(d:o∈p.at k)(z:o.gone=xk):∃q∈p.H,YU h 1 q.Z=o.target/\q.size=o.size/\q.ac=o.ac:=by
 unfold Xz at a;dsimp only at a;split at a;cases a;split at a;cases a
 have f:∀g x,x=Vo h g (ZM h.H [] xw).1->¬x=U->(ZM g (x.getD []) xk).2=0->o∈(ZM g (x.getD []) xk).1->
   ∃q∈(ZM h.H [] xw).1,YU h 1 q.Z=o.target/\q.size=o.size/\q.ac=o.ac:=by
  intro g x B D n d;obtain _|j:=x;simp_all;simp[Zfv]at n d;let⟨G,l,r⟩:=qE _ _ _ _ B.symm _ [] (ZM g j xk).1<|Zhy rfl n;simp[ZfW]at l;rw[l]at d;let⟨q,A,F⟩:=r o d z;have:=Zif A;grind [EU]
 have t:¬Vo h h.an (ZM h.H [] xw).1=U:=Ze3;have u:¬Vo h h.am (ZM h.H [] xw).1=U:=Ze3;have w:(ZM h.an ((Vo h h.an (ZM h.H [] xw).1).getD []) xk).2=0:=Z0;have y:(ZM h.am ((Vo h h.am (ZM h.H [] xw).1).getD []) xk).2=0:=Z0;cases a;have:k=3\/k=4:=Z0;obtain rfl|rfl:=this;exact f _ _ rfl t w Zeg;exact f _ _ rfl u y Zeg
theorem Z11{h}(n:ZQ (Zv h)=xk){p}(l:Xz h=J p){k}(d:1<=k/\k<=4){a}(j:(YD h k (p.at k) a).isSome=xk):∃b,Y8 (Zv h) a=(k,b,0):=by
 let⟨o,f⟩:=ZfU.1 j;have g:YU h k o.Z=a:=by have:=Zif f;simpa using this
 rw[<-g];exact⟨_,Z8Q n d ((BO l d).az o<|ZhC f).1⟩
def EV{h}(o:ZQ (Zv h)=xk){p}(n:Xz h=J p){k j}(g:1<=k/\k<=4)(f:1<=j/\j<=4)(l:k≠j){a}(d:(YD h k (p.at k) a).isSome=xk):(YD h j (p.at j) a).isSome=xw:=by
 grind [Z11]
section
variable {h:Hp}{s:Ck}{p:Pts}
def Found.dp(a:Found h s p){k}:s.dp k=p.at k:=by
 unfold Ck.dp Pts.at;rw[a.o1,a.o2,a.o3,a.o4]
def Found.ov(d:Found h s p)a:ZT s.pm a=if(YD h 4 (p.at 4) a).isSome=xk then J 4 else if(YD h 3 (p.at 3) a).isSome=xk then J 3 else if(YD h 2 (p.at 2) a).isSome=xk then J 2 else if(YD h 1 (p.at 1) a).isSome=xk then J 1 else U:=by
 rw[d.pm,KG,KG,KG,KG];rfl
def Found.rk(q:Found h s p)(y:ZQ (Zv h)=xk)(x:Xz h=J p)w:YG s w 1 2=Ww h p w 1 2/\YG s w 3 4=Ww h p w 3 4/\YG s w 1 4=(Ww h p w 1 2||Ww h p w 3 4):=by
 unfold YG Ww;by_cases n:w=0;simp[n];by_cases D:(adr w).2=0;case neg=>grind
 rw[q.ov];generalize (adr w).1=a;have o:=λk j t r u=>EV (k:=k) (j:=j) y x t r u (a:=a);have C:=o 4 2 Z0 Z0 Z0;have B:=o 4 1 Z0 Z0 Z0;have A:=o 3 2 Z0 Z0 Z0;have z:=o 3 1 Z0 Z0 Z0;clear o;generalize (YD h 1 _ a).isSome=d at*;generalize (YD h 2 _ a).isSome=f at*;generalize (YD h 3 _ a).isSome=g at*;generalize (YD h 4 _ a).isSome=l at*;cases d<;>cases f<;>cases g<;>cases l<;>simp_all
end
end Vm
namespace Vm
open Go Go.Proofs
def Xq(l:List Ob):List Int:=(l.filter (·.gone)).map (·.target)
def Z6Q{α l k}{x:α}(h:ZT l k=U):I (XE l k x)=I l+1:=by
 grind [ZT,Option.map_eq_none_iff,XE]
def zc{pm}:∀ {l} {m:List (Int×Bool)} {K:List Int},K.Nodup->(∀a,ZT m a=if a∈K then J xk else U)->I m=I K->
  match Wj pm l m with
  |some q=>(∀t∈Xq l,(ZT pm t).getD 0=1)/\(K++Xq l).Nodup/\I q=I (K++Xq l)/\∀a,ZT q a=if a∈K++Xq l then J xk else U
  |none=>¬((∀t∈Xq l,(ZT pm t).getD 0=1)/\(K++Xq l).Nodup)
 | [],m,K,k,d,n=>by simp only[Xq,List.filter_nil,Zgq,Zhv];exact⟨Z1,k,n,d⟩
 |o::l,m,K,k,d,n=>by
  rw[Wj];cases w:o.gone with
  |false=>
   have:Xq (o::l)=Xq l:=by simp[Xq,w]
   rw[this];exact zc k d n
  |true=>
   rw[Zfc rfl];have h:Xq (o::l)=o.target::Xq l:=by simp[Xq,w]
   rw[h];by_cases p:(ZT pm o.target).getD 0=1;by_cases j:o.target∈K;rw[Zf7 (by rw[d,Zfc j];simp)];rintro⟨_,z⟩;exact(ZhY.1 z).2.2 _ j _ Z1 rfl;have g:ZT m o.target=U:=by rw[d,Zf7 j]
   rw[Zfc ⟨p,by rw[g];rfl⟩]
   have f:=zc (pm:=pm) (l:=l) (m:=XE m o.target xk) (K:=K++[o.target]) (by
     rw[ZhY];refine⟨k,Z1,λa y b r=> ?_⟩;simp at r;subst r;intro e;subst e;exact j y) (λa=>by
     rw[QM,d];by_cases e:o.target=a;simp[e];have x:¬a=o.target:=Z0;simp[e,x]) (by rw[Z6Q g,n];simp)
   rw[Zg1]at f;cases u:Wj pm l _ with
   |none=>
    rw[u]at f;rintro⟨A,B⟩;exact f ⟨Ze3,B⟩
   |some q=>
    rw[u]at f;refine⟨λt h=> ?_,f.2⟩;obtain rfl|h:=Zfi.1 h;exact p;exact f.1 t h
   rw[Zf7 Z0];rintro⟨A,_⟩;exact p Ze3
def Oo{l a}:WY l a=(Xq l).count a:=by
 unfold WY Xq;induction l with
 |nil=>rfl
 |cons o l d=>
  grind
def Z5C{T S:List Int}(j:S.Nodup)(f:T⊆S):(T.Nodup/\I T=I S)↔ ∀a∈S,T.count a=1:=by
 constructor;rintro⟨d,n⟩ a k;by_cases o:a∈T;grind;have g:T⊆S.erase a:=Ze2;have l:=d.length_le_of_subset g;grind;intro h;have d:T.Nodup:=Ze2;refine⟨d,Nat.le_antisymm (d.length_le_of_subset f)<|j.length_le_of_subset λa k=> ?_⟩;grind
section
variable {h:Hp}{s:Ck}{p:Pts}
def Found.rh(f:Found h s p)(C:ZQ (Zv h)=xk)(y:Xz h=J p):Rx s=(!h.M||p.H.all (Qi h p)):=by
 have G:=BO y (k:=1) Z0;have F:(p.H.map λo=>YU h 1 o.Z).Nodup:=by
  have:=Tiles.ni C (k:=1) Z0 G;rw[List.nodup_iff_pairwise_ne,List.pairwise_map];exact this
 have n:∀t∈Xq s.o3++Xq s.o4,t∈p.H.map λo=>YU h 1 o.Z:=by
  intro t d;have:∃k,(3<=k/\k<=4)/\t∈Xq (p.at k):=by
   obtain d|d:=Zfs.1 d;exact⟨3,Z0,by rw[f.o3]at d;exact d⟩;exact⟨4,Z0,by rw[f.o4]at d;exact d⟩
  let⟨k,x,d⟩:=this;simp[Xq,Zfh,Zhd]at d;obtain⟨o,⟨r,L⟩,rfl⟩:=d;let⟨q,z,B,_⟩:=Z68 y x r L;exact Zfh.2 ⟨q,z,B⟩
 have N:∀t∈Xq s.o3++Xq s.o4,(ZT s.pm t).getD 0=1:=by
  intro t d;let⟨q,z,B⟩:=Zfh.1<|n t d;have u:(YD h 1 (p.at 1) t).isSome=xk:=by
   unfold YD;rw[List.find?_isSome];exact⟨q,z,Ze2⟩
  have o:=λk x M=>EV (k:=1) (j:=k) C y Z0 x M u;rw[f.ov,o 4 Z0 Z0,o 3 Z0 Z0,o 2 Z0 Z0,u];rfl
 unfold Rx;rw[f.hp];cases S:h.M;rfl;simp[Zi9,Ziz];have key:=Z5C F (T:=Xq s.o3++Xq s.o4) n;have g:p.H.all (Qi h p)=xk↔ ∀a∈(p.H.map λo=>YU h 1 o.Z),(Xq s.o3++Xq s.o4).count a=1:=by
  rw[Zfb];constructor;intro A a H;obtain⟨o,r,rfl⟩:=Zfh.1 H;have:=A o r;simp[Qi,Zfp,UU,Oo]at this;rw[List.count_append,f.o3,f.o4];exact this;intro A o r;have:=A _<|Zfh.2 ⟨o,r,rfl⟩;rw[List.count_append,f.o3,f.o4]at this;simp_all[Qi,UU,Oo]
 rw[Zfu]at key;have w:=zc (pm:=s.pm) (l:=s.o3) (m:=[]) (K:=[]) Z1 (by simp[ZT]) rfl;simp only[ZfW]at w;rw[ZhH,g,<-key];cases u:Wj s.pm s.o3 []with
 |none=>
  grind
 |some m=>
  rw[u]at w;let⟨X,O,P,Q⟩:=w;simp[Zf8];have c2:=zc (pm:=s.pm) (l:=s.o4) (m:=m) (K:=Xq s.o3) O Q P;cases D:Wj s.pm s.o4 m with
  |none=>
   simp_all
  |some W=>
   rw[D]at c2;let⟨Y,Z,R,r4⟩:=c2;simp[Zfp,R,f.o1];simp_all
end
end Vm
namespace Vm
open Go Go.Proofs
def O8:∀ {l} {a:Int} {i:Nat},Xf l xk a i=xk->∀w∈l,w=0
 | [],_,_,_,w,d=>by simp at d
 |x::l,a,i,h,w,d=>by
  simp[Xf,Zfp]at h;obtain rfl|d:=Zfi.1 d;exact h.1.1;exact O8 h.2 w d
def L4{s k q}:WI s k q=xk↔ ∀o∈s.dp k,o.gone=xw->∀j,j<o.ac.toNat->q ((o.Z.toNat+1+j:Nat):Int) (VP (Zy s.h k)<|o.Z.toNat+1+j)=xk:=by
 unfold WI obQ;grind
def Z6N{h p}(u:Xz h=J p){k}(r:1<=k/\k<=4):WJ h p k=xk↔ ∀o∈p.at k,o.gone=xw->∀j,j<o.ac.toNat->Ts h p k (o.Z.toNat+1+j)=xk:=by
 unfold WJ Bq;rw[Zfb];constructor;simp_all;intro x o t;rw[Zfb];intro j l;have l:=Zi2.1 l;cases q:o.gone;simp_all;have d:=((BO u r).az o t).1;have w:=YH.1 d.shape;have f:=d.fk;rw[q]at f;have g:=d.ay;have n:=d.ie;have a:o.Z.toNat+1+j< I (Zy h k):=Z0;have y:(Zy h k)[o.Z.toNat+1+j]?=J 0:=by
  rw[ZeX a];refine Zg6 J<|(O8 f) _ ?_;rw[Zi5];refine⟨j,?_⟩;rw[Zfx,Zfc Z0,Zfn,ZeX a]
 grind [Ww,Ts]
section
variable {h:Hp}{s:Ck}{p:Pts}
def Found.ac(u:Found h s p)(K:ZQ (Zv h)=xk)(G:Xz h=J p):(Qd s&&(Qj s&&RT s))=(h.E.all (λw=>Ww h p w 1 2)&&WJ h p 1&&WJ h p 2&&WJ h p 3&&WJ h p 4):=by
 have g:=u.rk K G;have t:s.h.E.all (λw=>YG s w 1 2)=h.E.all (λw=>Ww h p w 1 2):=by
  rw[u.hp];congr 1;funext w;exact(g w).1
 have l:=λk=>u.dp (k:=k);have r:∀k (q:Nat->Int->Bool) (F:1<=k/\k<=4),(∀a,Ts h p k a=q a (VP (Zy h k) a))->(WJ h p k=xk↔ ∀o∈p.at k,o.gone=xw->∀j,j<o.ac.toNat->q (o.Z.toNat+1+j) (VP (Zy h k)<|o.Z.toNat+1+j)=xk):=by
  intro k q F H;rw[Z6N G F];simp[H]
 have p3:=r 3 (λ_ w=>Ww h p w 3 4) Z0 (λa=>by simp[Ts,VP]);have p4:=r 4 (λ_ w=>Ww h p w 3 4) Z0 (λa=>by simp[Ts,VP]);have L:=r 1 (λa w=>if h.Y<=a then Ww h p w 1 2||Ww h p w 3 4 else Ww h p w 1 2) Z0 (λa=>by simp[Ts,VP]);have N:WI s 2 (λ_ w=>YG s w 1 2)=xk↔WJ h p 2=xk:=by
  rw[r 2 (λ_ w=>Ww h p w 1 2) Z0 (λa=>by simp[Ts,VP]),L4,l,u.hp];simp[(g _).1]
 have O:WI s 3 (λ_ w=>YG s w 3 4)=xk↔WJ h p 3=xk:=by
  rw[p3,L4,l,u.hp];simp[(g _).2.1]
 have P:WI s 4 (λ_ w=>YG s w 3 4)=xk↔WJ h p 4=xk:=by
  rw[p4,L4,l,u.hp];simp[(g _).2.1]
 have M:(WI s 1 (λa w=>decide (s.h.Y<=a)||YG s w 1 2)=xk/\WI s 1 (λa w=>decide (a<s.h.Y)||YG s w 1 4)=xk)↔WJ h p 1=xk:=by
  rw[L,L4,L4,l,u.hp];simp only[(g _).1,(g _).2.2];constructor;rintro⟨C,D⟩ o A y j z;have C:=C o A y j z;have D:=D o A y j z;generalize o.Z.toNat+1+j=n at*;by_cases x:h.Y<=n;have:¬n<h.Y:=Z0;simpa[x,this]using D;simpa[x]using C;intro B;refine⟨λo A y j z=> ?_,λo A y j z=> ?_⟩;have B:=B o A y j z;generalize o.Z.toNat+1+j=n at*;by_cases x:h.Y<=n;simp[x];simpa[x]using B;have B:=B o A y j z;generalize o.Z.toNat+1+j=n at*;by_cases x:h.Y<=n;have:¬n<h.Y:=Z0;simpa[x,this]using B;have:n<h.Y:=Z0;simp[this]
 unfold Qd Qj RT;rw[t,ZhH];simp[ZeZ];rw[N,O,P,<-M];constructor;rintro⟨⟨a,b,c⟩,d,e,f⟩;exact⟨⟨⟨⟨a,c,d⟩,b⟩,e⟩,f⟩;rintro⟨⟨⟨⟨a,c,d⟩,b⟩,e⟩,f⟩;exact⟨⟨a,b,c⟩,d,e,f⟩
def Found.su(a:Found h s p):Qb s=decide ((I h.H:Int)+I h.aa+Yh p<=h.cap):=by
 unfold Qb Sl Yh;rw[a.hp,a.o3,a.o4]
end
def Z5n h:TY h=(Sx (Xj h)&&Qa (Xj h)):=by
 grind [TY,Sx,Qa,Xj,Zv]
def AZ h:(Vl h).isSome=Yg h/\∀s,Vl h=J s->∃p,Xz h=J p/\Found h s p:=by
 have k:Vl h=(if Sx _=xk then if Qa (Xj h)=xk then if(XN<|Xj h).1=xk then
   if Rx (XN<|Xj h).2=xk then if Qd (XN<|Xj h).2=xk then if Qj (XN<|Xj h).2=xk then if RT (XN<|Xj h).2=xk then if Qb (XN<|Xj h).2=xk then
    J (XN<|Xj h).2 else U else U else U else U else U else U else U else U):=rfl
 unfold Yg;rw[Z5n h];cases a:Sx _;simp_all;have g:ZQ (Zv h)=xk:=by
  unfold Sx at a;simp[ZeZ]at a;exact a.1
 cases j:Qa _;simp_all;have l:=Z9s g;cases f:Xz h with
 |none=>
  simp_all
 |some p=>
  rw[f]at l;let⟨q,d⟩:=l;rw[a,j,q]at k;simp at k;generalize (XN _).2=s at*;have n:=d.ac g f;have o:=d.su;have r:R1 h p=(Rx s&&((Qd s&&(Qj s&&RT s))&&Qb s)):=by
   rw[d.rh g f,n,o];unfold R1;simp[Bool.and_assoc]
  grind
def Z4p h k:KK h k=Uj h k:=by
 let⟨d,g⟩:=AZ h;unfold KK Uj;cases f:Vl h with
 |none=>
  simp_all
 |some s=>
  rw[f]at d;have a:Yg h=xk:=d.symm;let⟨p,l,j⟩:=g s f;simp[a,l,j.dp]
def Z4t h:(qW h:Int)=Sm h:=by
 let⟨d,j⟩:=AZ h;unfold qW Sm;cases g:Vl h with
 |none=>
  simp_all
 |some s=>
  rw[g]at d;have a:Yg h=xk:=d.symm;let⟨p,k,f⟩:=j s g;simp[a,k];unfold Sl Yh;rw[f.o3,f.o4]
end Vm
end
section
namespace Vm
open Go Go.Proofs Go.RowKit
section
def DS{α:Type}(F:Fence)(n:Nat)(P:Z6)(g:Nat)(lb:Za)(d:α->Array Value)(Kp:World->World->Prop)(S:List α->World->Prop)(k:List PanicEntry->List α->World->Prop)(N:Nat)(bt:Option Nat)(j:World->Prop)(w:Z3):Prop:=
 ∀(l:Nat) (o:List α->World->Prop) (W:Z3),Below (xz<|xj w) w W->(∀pre W,o pre W->j W)->(∀s A B row,o s A->A.grownBy B row->(∀r,row=J r->J r=bt)->o s B)->
  (∀pre x f,o pre f->I pre<N->YieldAt F (n-1) P l (d x) f λe a=>e=.returned (.bool xk)/\o (pre++[x]) a/\Kp f a)->
  o [] W->
  CallsIn F n P g (#[.func (.yield l) #[] #[]]++lb) W λe a=>(∃v h,e=.returned v/\S h a/\o h a)\/(∃chain pre,e=.panicked chain/\k chain pre a/\o pre a)
def Z6I{α:Type}(B:Nat)(Kp:World->World->Prop)(I:List α->World->Prop)(xs:List α)(W:Z3):Exit->Act->World->Prop
 |.normal,_,a=>KeepsFrom B W a/\Kp W a/\I xs a
 |_,_,_=>False
def OwnP{β:Type}(bt:Option Nat)(B:Nat)(I:β->World->Prop):Prop:=
 ∀s X Y row,I s X->X.grownBy Y row->(∀r,row=J r->J r=bt\/(B<=r/\∃o:Obj,X.heap[r]?=J o/\o.isCells=xw))->I s Y
def OwnP.putObj{β:Type}{bt:Option Nat}{B:Nat}{I:β->World->Prop}(h:OwnP bt B I){s:β}{W:Z3}{l:Nat}{o:Obj}(a:Obj)(d:I s W)(f:B<=l)(g:W.heap[l]?=J o)(j:o.isCells=xw):I s<|W.putObj l a:=
 h s W _ (J l) d (ZhJ W l a) (λr e=>Ze3)
def OwnP.alloc{β:Type}{bt:Option Nat}{B:Nat}{I:β->World->Prop}(h:OwnP bt B I){s:β}{W:Z3}(o:Obj)(a:I s W):I s<|W.alloc o:=
 h s W _ U a (Zgi W o U) (λr e=>by cases e)
variable {F:Fence}{n:Nat}{P:Z6}
def Z9A{α:Type}{g:Operand}{ps:Array Tmp}{assign body:Code}{Q:Zh}{a:Act}{w:Z3}
  (d7:F.round=U) (h1:1<=n) {gf:Nat} {lb:Za} (hg:a.eval g=.func (.func gf) #[] lb) (d8:F.fn gf) (eg:∀args w,(callFunc gf args).run P w=.ok (.enter gf args) w)
  {f:α->Array Value} {Kp:World->World->Prop} {S:List α->World->Prop} {Pp:List PanicEntry->List α->World->Prop} {N:Nat} {bt:Option Nat} {Ex:World->Prop} {w0:Z3} (a8:DS F (n-1) P gf lb f Kp S Pp N bt Ex w0)
  (b5:∀r,bt=J r->r<xz (xj w))
  (T:∀ {A B C:Z3},Kp A B->Kp B C->Kp A C) (a1:∀(W:Z3) (l:Nat) (o o':Obj),xz (xj w)<=l->W.heap[l]?=J o->o.isCells=xw->o.isWalk=xw->Kp W (W.putObj l o')) (a2:Below (xz<|xj w0) w0 w) (d9:∀x,(f x).size=ps.size)
  (I:List α->World->Prop) (hI:OwnP bt (xz<|xj w) I) (b0:∀pre W,I pre W->Ex W) (h0:I [] w) (hS:OwnP U (xz<|xj w) S) (Ax:α->Act->World->Prop) (a9:∀x G,OwnP U (xz<|xj w)<|λ(_:Unit) W=>Ax x G W)
  (q:∀(l:Nat) (pre:List α) (x:α) (W:Z3) (K:Zq),I pre W->(∀G W',KeepsFrom (xz<|xj w) W W'->Kp W W'->I pre W'->Ax x G W'->K G W')->
   assign.wpIn (F.inRound l) (n-1-1) P (Exit.then K<|λ_ _ _=>False) {tmps:=(ps.zip<|f x).foldl (λt (p,v)=>t.setIfInBounds p v) a.tmps,defers:=[]} W)
  (X:∀(l:Nat) (pre:List α) (x:α) (G:Act) (W:Z3),I pre W->Ax x G W->xq pre<N->body.wpIn (F.inRound l) (n-1-1) P (Z6I (xz<|xj w) Kp I (pre++[x]) W) G W)
  (Y:∀(D:Nat) (xs:List α) (W:Z3),xz (xj w)<=D->S xs W->I xs W->W.heap[D]?=J (.deferred<|J [])->Q .normal {a with defers:= {target:=.collected D,args:=#[]}::a.defers} W)
  (M:∀(D:Nat) (chain:List PanicEntry) (pre:List α) (W:Z3),xz (xj w)<=D->Pp chain pre W->I pre W->W.heap[D]?=J (.deferred<|J [])->Q (.panic chain) {a with defers:= {target:=.collected D,args:=#[]}::a.defers} W):
  (Code.rangeFunc g ps assign body).wpIn F n P Q a w:=by
 refine wpIn_rangeFunc λfn b7=> ?_;rw[d7];obtain⟨d,z⟩:∃d:LoopState->Option Code->Loop,d=λst pe=> {state:=st,pending:=pe,fn,tmps:=a.tmps,params:=ps,assign,body,defers:=xz (xj w)}:=⟨_,rfl⟩;obtain⟨H,L⟩:∃H,(w.alloc<|.deferred<|J []).alloc (.loop<|d .ready U)=H:=⟨_,rfl⟩;have b2:H.heap[xz (xj w)+1]?=J (.loop<|d .ready U):=by
  have:=Zg8 (w.alloc<|.deferred<|J [])<|.loop<|d .ready U;rw[ZgY]at this;rw[<-L];exact this
 have b1:H.heap[xz<|xj w]?=J (.deferred<|J []):=by
  rw[<-L];exact(Zfa _ _ _ Z1).trans (Zg8 w _)
 have b4:Below (xz<|xj w0) w0 H:=by
  rw[<-L];exact a2.trans<|(((Zfg _ w).alloc (Zf3 _) _).alloc Z1 _).mono a2.size
 refine⟨xz (xj w)+1,[{target:=.collected<|xz<|xj w,args:=#[]}],H,{target:=.fn (.func gf) lb,args:=#[.func (.yield<|xz (xj w)+1) #[] #[]]},H,gf,
  #[.func (.yield<|xz (xj w)+1) #[] #[]]++lb,H,?_,?_,?_,?_,λ_=>h1,?_⟩
 simp_all[run_enterLoop_outer]
 .simp only[resolve,hg];simp[go_sem]
 simp_all[Target.leads];simp_all[invoke];have R:∀ {A B:Z3} {row:Option Nat} {k:Nat} {o:Obj},A.grownBy B row->(∀r,row=J r->J r=bt)->xz (xj w)<=k->A.heap[k]?=J o->B.heap[k]?=J o:=by
  intro A B row k o u hr hk ho;refine(u.block k (Zf2.1 ho).1 λe=> ?_).trans ho;have:=b5 k (hr k e.symm).symm;omega
 refine(a8 (xz (xj w)+1) (λpre W=>I pre W/\W.heap[xz (xj w)+1]?=J (.loop<|d .ready U)/\W.heap[xz<|xj w]?=J (.deferred<|J [])) H b4 (λpre W h=>b0 pre W h.1)
  (λs A B row hs u hr=>⟨hI s A B row hs.1 u (λr e=>.inl<|hr r e),R u hr Z0 hs.2.1,R u hr (Zf3 _) hs.2.2⟩) ?_ ⟨by rw[<-L];exact hI.alloc _<|hI.alloc _ h0,b2,b1⟩).mono ?_
 rintro pre x W ⟨hi,Z,hk⟩ a7;have hy:=run_yield (P:=P) (args:=f x) Z Ze3;rw[z]at hy;refine⟨fn,_,assign,body,hy,roundIn_of_wpIn b7<|q _ pre x W _ hi ?_⟩;intro G V a5 c8 b9 b3;have y:=a5.same _ _ Z0 Z rfl;have c1:=a5.same _ _ (Zf3 _) hk rfl;have d5:xz (xj w)+1<xz (xj V):=(Zf2.1 y).1;refine⟨_,run_beginRound y (by rw[z]),?_⟩;have d0:(V.putObj (xz (xj w)+1)<|.loop {d .ready U with state:=.busy}).heap[xz (xj w)+1]?=J (.loop {d .ready U with state:=.busy}):=Zhm d5;have c0:(V.putObj (xz (xj w)+1)<|.loop {d .ready U with state:=.busy}).heap[xz<|xj w]?=J (.deferred<|J []):=(ZfE Z0).trans c1;have d6:Kp V<|V.putObj (xz (xj w)+1)<|.loop {d .ready U with state:=.busy}:=a1 _ _ _ _ Z0 y rfl rfl;refine wpIn_mono (X _ pre x G _ (hI.putObj _ b9 Z0 y rfl) ((a9 x G).putObj (s:=()) _ b3 Z0 y rfl) a7) ?_;rintro e a3 W3 O;cases e with
 |normal=>
  obtain⟨a4,a6,b8⟩:=O;have a0:=a4.same _ _ Z0 d0 rfl;have b6:=a4.same _ _ (Zf3 _) c0 rfl;have j:=run_endRound (P:=P) U a0;refine⟨_,_,j,rfl,⟨hI.putObj _ b8 Z0 a0 rfl,?_,(ZfE Z0).trans b6⟩,T c8<|T (T d6 a6)<|a1 _ _ _ _ Z0 a0 rfl rfl⟩;grind [World.putObj_heap_same,Array.getElem?_eq_some_iff]
 |ret=>exact O.elim
 |exit id=>exact O.elim
 |goto t=>exact O.elim
 |panic ch=>exact O.elim
 |outgrown=>exact O.elim
 rintro e W2 (⟨v,xs,rfl,hs,hi,Z,hk⟩|⟨chain,pre,rfl,O,hi,Z,hk⟩);have j:=run_endLoop (P:=P) Z Ze3;rw[z]at j;exact⟨U,_,j,Y _ xs _ (Zf3 _) (hS.putObj _ hs Z0 Z rfl) (hI.putObj _ hi Z0 Z rfl)<|(ZfE Z0).trans hk⟩;exact M _ chain pre _ (Zf3 _) O hi hk
end
end Vm
end
section
namespace Vm
open Go Go.Proofs
def Mw:Fn:=⟨4,[0,2,3,4],pQ [pR [pV 1 pF],pC [pK 4 38 [.s 0]] [pV 2<|.ext (.s 4) 0,pV 3<|.ext (.s 4) 1],.ax ⟨[.lt 5 []<|pe (.s 0)<|pU 0],[([(5,xw)],pe (.s 3)<|pI 0)],[pV 1<|.ite (.s 5) pT<|pe (.s 3)<|pI 0]⟩] .ret,[(1,.v)]⟩
def c87:xQ [.fz] Try.f87=J Mw:=Z2
end Vm
end
section
namespace Vm
open Go Go.Proofs Go.RowKit
def Z6H{x:Int}(hx:ZA x):VC xP 87 xw [vu x]<|.bool<|UH x:=by
 refine Y4 Eo follows Z2 c87 rfl ?_;simp[Mw];refine ZC (JI hx) Z1 ?_;simp_all[UH]
def MO{x:Int}(hx:ZA x)(w:World):Calls xP 87 #[.int .u64 x] w λe a=>e=.returned (.bool<|UH x)/\Below (xz<|xj w) w a:=
 T8 (Z6H hx) rfl rfl w
structure Words (w:World) (ws:List Int) (g o cap:Nat):Prop where
 Z:∀(i:Nat) (x:Int),ws[i]?=J x->w.cell? ⟨g,o+i,U⟩=J (.int .u64 x)
 le:I ws<=cap
 cap:cap<=maxLen
 len:I ws<=1000000
 u64:∀x∈ws,ZA x
def Vc(e:Int):List PanicEntry:=[{v:=.iface 165<|.agg #[.int .i64 e],recovered:=xw}]
def Wx(o:Ob):Value:=.agg #[.int .i64 o.Z,.int .i64 o.size,.int .i64 o.ac,.bool o.gone,.int .u64 o.target]
def zG(ws:List Int)(o:Ob):Ending:=
 if(I ws:Int)<o.Z+1+o.size then .panicked (Vc 2)else if Xf ((ws.drop<|o.Z.toNat+1).take o.size.toNat) o.gone o.ac 0=xw then .panicked (Vc 3)else .returned<|.tuple #[]
def Z2O(w:World)(ws:List Int)(g o cap:Nat)(C:Words w ws g o cap)(hg:g<xz (xj w))(t:Ob)(a:Nat)(N:t.Z=a)(A:a<I ws)(B:Yq t.size t.ac=xk):
  Calls xP 86 #[.slice (J ⟨g,o,U⟩) (I ws) cap,Wx t] w λe w'=>e=zG ws t/\Below (xz<|xj w) w w':=by
 have hl:=C.len;have hc:=C.le;have hm:=C.cap;obtain⟨at_,size,ptrs,gone,target⟩:=t;simp only at N B;subst N;obtain⟨s1,s2,s3,s4⟩:=YH.1 B;obtain⟨m,rfl⟩:=Zfd s1;have L:=Zf0 C;have r:zG ws ⟨a,m,ptrs,gone,target⟩=if(I ws:Int)<a+1+m then .panicked (Vc 2)else if Xf ((ws.drop<|a+1).take m) gone ptrs 0=xw then .panicked (Vc 3)else .returned<|.tuple #[]:=rfl
 generalize zG ws ⟨a,m,ptrs,gone,target⟩=E at*;unfold Wx;dsimp only;by_cases l:(I ws:Int)<a+1+m
 .rw[Zfc l]at r;have u:=Zf0 r;clear r;have S:((I ws- (a+1):Nat):Int)<m:=Z0;go_enter LL,Try.ntmps86;go_wp2;all_goals exact⟨rfl,u.out.symm,(Zfg _ _).alloc (Zf3 _) _⟩
 .rw[Zf7 l]at r;have u:=Zf0 r;clear r;have P:(m:Int)<=((I ws- (a+1):Nat):Int):=Z0;have Q:m<=I ws- (a+1):=Z0;have T:(I ws- (a+1)<m)=False:=ZgU Z0;have Z:m<=cap- (a+1):=Z0;have a0:m<=255:=Z0;clear C l;by_cases z:cap=a+1
  .have K:m=0:=Z0;subst K;subst z;go_enter LL,Try.ntmps86;go_wp2;go_loopw [26] (λi wr=>i=.int .i64 0/\Hid (Below (xz<|xj w) w wr)) (λi _=>0)
   case atStart=>exact⟨rfl,Zf0<|(Zfg _ _).alloc (Zf3 _) _⟩
   case round=>
    obtain⟨rfl,X⟩:=hrel;go_wp2;go_end0
    exact⟨u.out.symm,X.out⟩
  .go_enter LL,Try.ntmps86;go_wp2
   go_loopw [26] (λi wr=>∃k:Nat,i=.int .i64 k/\k<=m/\Hid (Below (xz<|xj w) w wr/\wr.heap[xz<|xj w]?=J (.cells #[.int .i64 a,.int .i64 m,.int .i64 ptrs,.bool gone,.int .u64 target] 105 (0,0))/\
     Xf ((ws.drop<|a+1).take m) gone ptrs 0=Xf (((ws.drop<|a+1).take m).drop k) gone ptrs k)) (λi _=>m- (intOf i).toNat)
   case atStart=>exact⟨0,rfl,Z0,Zf0 ⟨(Zfg _ _).alloc (Zf3 _) _,Zfq w _,rfl⟩⟩
   case round=>
    obtain⟨k,rfl,hk,d⟩:=hrel;by_cases A:k<m
    .obtain⟨x,D⟩:∃x,ws[a+1+k]?=J x:=⟨_,ZeX Z0⟩;have W:ZA x:=L.out.u64 x<|Zf5 D;have M:((ws.drop<|a+1).take m)[k]?=J x:=by
      rw[Zfx,Zfc A,Zfn];exact D
     have c0:wr.cell? ⟨g,o+(a+1)+k,U⟩=J (.int .u64 x):=by
      rw[Zg3];exact(d.out.1.cell (p:=⟨g,o+(a+1+k),U⟩) hg).trans (L.out.Z _ _ D)
     have c1:wr.cell? ⟨xz<|xj w,1,U⟩=J (.int .i64 m):=ZeF;have c2:wr.cell? ⟨xz<|xj w,2,U⟩=J (.int .i64 ptrs):=ZeF;have c3:wr.cell? ⟨xz<|xj w,3,U⟩=J (.bool gone):=ZeF;have q:=Z8F (gone:=gone) (ptrs:=ptrs) M;have R:(k:Int)<m:=Z0;have G:=ZV d.out.2.1;clear D M;have stop:Xf (((ws.drop<|a+1).take m).drop k) gone ptrs k=xw->E=.panicked (Vc 3):=λh=>by
      rw[u.out,d.out.2.2,h,Zfc rfl]
     cases gone
     .by_cases hp:(k:Int)<ptrs
      .cases H:UH x
       .have f:=Zf0<|stop Ze3;clear stop q;go_wp2_with (go_at_call 87;refine(MO W _).mono ?_;rintro e w1 ⟨rfl,j⟩;have n:=Zf0 j;clear j)
        exact⟨rfl,f.out.symm,d.out.1.trans<|n.out.mono d.out.1.size⟩
       .have y:=Zf0<|q.trans (by simp[H]:_=Xf (((ws.drop<|a+1).take m).drop<|k+1) xw ptrs (k+1));clear stop q;go_wp2_with (go_at_call 87;refine(MO W _).mono ?_;rintro e w1 ⟨rfl,j⟩;have n:=Zf0 j;clear j)
        go_wp2;go_roundw
        case rel=>
         exact⟨k+1,by go_num,Z0,Zf0 ⟨d.out.1.trans<|n.out.mono d.out.1.size,(n.out.block _ G).trans d.out.2.1,d.out.2.2.trans y.out⟩⟩
        case measure=>grind [intOf]
      .have y:=Zf0<|q.trans (by simp[hp]:_=Xf (((ws.drop<|a+1).take m).drop<|k+1) xw ptrs (k+1));clear stop q;go_wp2;go_roundw
       case rel=>exact⟨k+1,by go_num,Z0,Zf0 ⟨d.out.1,d.out.2.1,d.out.2.2.trans y.out⟩⟩
       case measure=>grind [intOf]
     .by_cases Y:x=0
      .subst Y;have y:=Zf0<|q.trans (by simp[UH]:_=Xf (((ws.drop<|a+1).take m).drop<|k+1) xk ptrs (k+1));clear stop q;go_wp2;go_roundw
       case rel=>exact⟨k+1,by go_num,Z0,Zf0 ⟨d.out.1,d.out.2.1,d.out.2.2.trans y.out⟩⟩
       case measure=>grind [intOf]
      .have f:=Zf0<|stop Ze3;clear stop q;go_wp2;exact⟨rfl,f.out.symm,d.out.1⟩
    .have:k=m:=Z0;subst this;have F:=d.out.2.2;have O:((ws.drop<|a+1).take k).drop k=[]:=ZhU Ze3;rw[O]at F;have f:=Zf0<|u.out.trans (by rw[F];rfl:_=Ending.returned (.tuple #[]));clear F O;go_wp2;go_end0
     exact⟨f.out.symm,d.out.1⟩
end Vm
namespace Vm
open Go Go.Proofs Go.RowKit
def Z57(w:World):Sem.run xP (binOp .neq 166 .nilFunc .nilFunc) w=.ok (.bool xw) w:=ZeR
def Bi(w:World)(f:FuncId)(vs:Array Value):Sem.run xP (binOp .neq 166 (.func (.func f) #[] vs) .nilFunc) w=.ok (.bool xk) w:=ZeR
def qj{w:World}{b T v0 v1 v2 v3 v4}(h:w.heap[b]?=J (.cells #[v0,v1,v2,v3,v4] T (0,0)))O:
  ((w.alloc O).cell? ⟨b,0,U⟩=J v0/\(w.alloc O).cell? ⟨b,1,U⟩=J v1/\(w.alloc O).cell? ⟨b,2,U⟩=J v2/\(w.alloc O).cell? ⟨b,3,U⟩=J v3/\(w.alloc O).cell? ⟨b,4,U⟩=J v4)/\
  (w.alloc O).frozen? ⟨b,0,U⟩=xw/\(w.alloc O).frozen? ⟨b,1,U⟩=xw/\(w.alloc O).frozen? ⟨b,2,U⟩=xw/\(w.alloc O).frozen? ⟨b,3,U⟩=xw/\(w.alloc O).frozen? ⟨b,4,U⟩=xw:=by
 have a:(w.alloc O).heap[b]?=J _:=(Zfa _ _ _ Ze2).trans h;refine⟨⟨?_,?_,?_,?_,?_⟩,Y9 a,Y9 a,Y9 a,Y9 a,Y9 a⟩<;>(rw[Zf6 _ _ _ _ _ _ a];rfl)
def Sw(a:Nat)(x:Int):Ending:=if(ZN x).2.2=0 then .returned (Wx ⟨a,(ZN x).1,(ZN x).2.1,xw,0⟩)else .panicked<|Vc 3
def Z1b(w:World)(ws:List Int)(g o cap:Nat)(n:Words w ws g o cap)(L:g<xz (xj w))(a:Nat)(x:Int)(hx:ws[a]?=J x):
  Calls xP 85 #[.slice (J ⟨g,o,U⟩) (I ws) cap,.int .i64 a,.nilFunc] w λe N=>e=Sw a x/\Below (xz<|xj w) w N:=by
 have Y:=n.len;have X:=n.le;have Z:=n.cap;have M:a<I ws:=(ZeW.1 hx).1;have A:(a:Int)<I ws:=Z0;have q:ZA x:=n.u64 x<|Zf5 hx;have C:=n.Z a x hx;have z:∀W,Below (xz<|xj w) w W->W.cell? ⟨g,o+a,U⟩=J (.int .u64 x):=λW K=>(K.cell (p:=⟨g,o+a,U⟩) L).trans C;have l:Sw a x=if(ZN x).2.2=0 then .returned (Wx ⟨a,(ZN x).1,(ZN x).2.1,xw,0⟩)else .panicked<|Vc 3:=rfl
 generalize Sw a x=E at*;have y:=Zf0 z;have B:=Z57;clear n hx z;by_cases t:(ZN x).2.2=0
 .rw[Zfc t]at l;have r:=Zf0 l;clear l;go_enter Rl,Try.ntmps85
  go_wp2_with (first
   |(go_at_call 38;refine(Sr q _).mono ?_;rintro e w1 ⟨rfl,f⟩;have d:=Zf0 f;have D:=y.out w1<|((((Zfg _ w).alloc (Zf3 _) _).alloc (by simp) _).trans<|f.mono (by simp;omega));clear f)
   | (go_at_call 57;refine(Jt q _).mono ?_;rintro e w2 ⟨rfl,h⟩;have j:=Zf0 h
      have H:=d.out.block;have r0:w2.heap[xz<|xj w]?=J (.cells #[.int .i64 0,.int .i64 0,.int .i64 0,.bool xw,.int .u64 0] 105 (0,0)):=(h.block _ Zez).trans<|(d.out.block _ Ze4).trans<|(Zfa _ _ _ Z1).trans<|Zfq w _;have u:w2.heap[xz (xj w)+1]?=J (.cells #[.int .i64 a,.int .i64 0,.int .i64 0,.bool xw,.int .u64 0] 105 (0,0)):=(h.block _ Zez).trans<|(d.out.block _ Z1).trans Ze8;obtain⟨⟨O,P,Q,R,S⟩,y0,y1,y2,y3,y4⟩:=qj r0<|.cells #[.int .i64 (ZN x).1,.int .i64 (ZN x).2.1] 36;obtain⟨⟨p0,p1,p2,p3,p4⟩,q0,q1,q2,q3,q4⟩:=qj u<|.cells #[.int .i64 (ZN x).1,.int .i64 (ZN x).2.1] 36;have T:=Zf0<|And.intro r0 u;clear h H r0 u))
  refine ZfA (v:=Wx ⟨a,(ZN x).1,(ZN x).2.1,xw,0⟩) ?_ rfl ⟨r.out.symm,?_⟩
  .simp[results,Try.results85,go_sem,Wx,O,P,Q,R,S]
  have k:=(((Zfg _ w).alloc (Zf3 _)<|.cells #[.int .i64 0,.int .i64 0,.int .i64 0,.bool xw,.int .u64 0] 105).alloc Z1<|.cells #[.int .i64 a,.int .i64 0,.int .i64 0,.bool xw,.int .u64 0] 105).trans<|d.out.mono Ze4;have G:=(k.trans<|j.out.mono (by have:=k.size;omega)).alloc (by have:=k.size;have:=j.out.size;omega)<|.cells #[.int .i64 (ZN x).1,.int .i64 (ZN x).2.1] 36;exact((((((G.setCell (p:=⟨xz (xj w)+1,1,U⟩) Z1 _).setCell (p:=⟨xz (xj w)+1,2,U⟩) Z1 _).setCell (p:=⟨xz<|xj w,0,U⟩) (Zf3 _) _).setCell (p:=⟨xz<|xj w,1,U⟩) (Zf3 _) _).setCell (p:=⟨xz<|xj w,2,U⟩) (Zf3 _) _).setCell (p:=⟨xz<|xj w,3,U⟩) (Zf3 _) _).setCell (p:=⟨xz<|xj w,4,U⟩) (Zf3 _) _
 .rw[Zf7 t]at l;have r:=Zf0 l;clear l;have F:((ZN x).2.2=0)=False:=ZgU t;go_enter Rl,Try.ntmps85
  go_wp2_with (first
   |(go_at_call 38;refine(Sr q _).mono ?_;rintro e w1 ⟨rfl,f⟩;have d:=Zf0 f;have D:=y.out w1<|((((Zfg _ w).alloc (Zf3 _) _).alloc (by simp) _).trans<|f.mono (by simp;omega));clear f)
   |(go_at_call 57;refine(Jt q _).mono ?_;rintro e w2 ⟨rfl,h⟩;have j:=Zf0 h;clear h))
  refine⟨rfl,r.out.symm,?_⟩;have k:=(((Zfg _ w).alloc (Zf3 _)<|.cells #[.int .i64 0,.int .i64 0,.int .i64 0,.bool xw,.int .u64 0] 105).alloc Z1<|.cells #[.int .i64 a,.int .i64 0,.int .i64 0,.bool xw,.int .u64 0] 105).trans<|d.out.mono Ze4;exact(k.trans<|j.out.mono (by have:=k.size;omega)).alloc (by have:=k.size;have:=j.out.size;omega) _
end Vm
namespace Vm
open Go Go.Proofs Go.RowKit
def O1(s p:Int)(w:World):Calls xP 41 #[.agg #[.int .i64 s,.int .i64 p]] w λe a=>e=.returned (.bool<|Yq s p)/\Below (xz<|xj w) w a:=
 T8 Cr rfl rfl w
structure Shps (w:World) (shs:List<|Int×Int) (bs:Nat) (v:Value):Prop where
 box:w.heap[bs]?=J (.cells #[v] 154 (0,0))
 val:(∃g o cap,v=.slice (J ⟨g,o,U⟩) (I shs) cap/\I shs<=cap/\cap<=maxLen/\g<xz (xj w)/\∀(i:Nat) (x:Int×Int),shs[i]?=J x->w.cell? ⟨g,o+i*2,U⟩=J (.int .i64 x.1)/\w.cell? ⟨g,o+i*2+1,U⟩=J (.int .i64 x.2))\/
  (∃a cap,v=.slice a 0 cap/\shs=[])
def Z2G(w:World)(shs:List<|Int×Int)(bt h:Nat)(v:Value)(x:I shs<=1000000)(d:Shps w shs h v)(f:w.heap[bt]?=J (.cells #[.int .i64<|I shs] 3 (0,0))):
  Calls xP 80 #[.pointer<|J ⟨bt,0,U⟩,.pointer<|J ⟨h,0,U⟩] w λe p=>e=.panicked (Vc 3)/\Below (xz<|xj w) w p:=by
 have k:w.cell? ⟨bt,0,U⟩=J (.int .i64<|I shs):=by rw[Zf6 _ _ _ _ _ _ f];rfl
 have n:=ZV f;have j:=ZV d.box;have q:w.cell? ⟨h,0,U⟩=J v:=by rw[Zf6 _ _ _ _ _ _ d.box];rfl
 obtain⟨g,o,cap,rfl,r,t,u,l⟩|⟨a,cap,rfl,rfl⟩:=d.val
 .clear l d f;go_enter JH,Try.ntmps80;go_wp2;exact⟨rfl,rfl,(Zfg _ _).alloc (Zf3 _) _⟩
 .clear d f;simp only[Zg2]at k;go_enter JH,Try.ntmps80;go_wp2;exact⟨rfl,rfl,(Zfg _ _).alloc (Zf3 _) _⟩
def Z2F(w:World)(shs:List<|Int×Int)(bt j t:Nat)(v:Value)(x:Int×Int)(K:I shs<=1000000)(f:Shps w shs j v)(k:w.heap[bt]?=J (.cells #[.int .i64 t] 3 (0,0)))(hx:shs[t]?=J x)(r:Yq x.1 x.2=xw):
  Calls xP 80 #[.pointer<|J ⟨bt,0,U⟩,.pointer<|J ⟨j,0,U⟩] w λe A=>e=.panicked (Vc 3)/\Below (xz<|xj w) w A:=by
 have B:w.cell? ⟨bt,0,U⟩=J (.int .i64 t):=by rw[Zf6 _ _ _ _ _ _ k];rfl
 have u:=ZV k;have p:=ZV f.box;have y:t<I shs:=(ZeW.1 hx).1;have z:¬t=I shs:=Z0;have q:(t:Int)<I shs:=Z0;have C:w.cell? ⟨j,0,U⟩=J v:=by rw[Zf6 _ _ _ _ _ _ f.box];rfl
 obtain⟨g,o,cap,rfl,F,G,H,n⟩|⟨a,cap,rfl,rfl⟩:=f.val
 .obtain⟨D,d1⟩:=n t x hx;have l:=O1 x.1 x.2;rw[r]at l;clear n f k hx r;go_enter JH,Try.ntmps80;go_wp2_with (go_at_call 41;refine(l _).mono ?_;rintro e w1 ⟨rfl,d⟩;have h:=Zf0 d;clear d)
  exact⟨rfl,rfl,((Zfg _ w).alloc (Zf3 _) _).trans<|h.out.mono Z1⟩
 grind
def Z2H(w:World)(shs:List<|Int×Int)(bt f t:Nat)(v:Value)(x:Int×Int)(hl:I shs<=1000000)(y:Shps w shs f v)(l:w.heap[bt]?=J (.cells #[.int .i64 t] 3 (0,0)))(hx:shs[t]?=J x)(L:Yq x.1 x.2=xk)(q:f≠bt)
  (r:∀g o cap,v=.slice (J ⟨g,o,U⟩) (I shs) cap->g≠bt):
  Calls xP 80 #[.pointer<|J ⟨bt,0,U⟩,.pointer<|J ⟨f,0,U⟩] w λe M=>e=.returned (.agg #[.int .i64 x.1,.int .i64 x.2])/\w.grownBy M (J bt)/\M.heap[bt]?=J (.cells #[.int .i64 ((t+1:Nat):Int)] 3 (0,0)):=by
 have N:w.cell? ⟨bt,0,U⟩=J (.int .i64 t):=by rw[Zf6 _ _ _ _ _ _ l];rfl
 have h:=ZV l;have n:=ZV y.box;have R:t<I shs:=(ZeW.1 hx).1;have u:¬t=I shs:=Z0;have K:(t:Int)<I shs:=Z0;have O:w.cell? ⟨f,0,U⟩=J v:=by rw[Zf6 _ _ _ _ _ _ y.box];rfl
 have hf:=Y9 (o:=0) l;have G:¬f=bt:=q;have H:¬bt=f:=λe=>q e.symm;obtain⟨g,o,cap,rfl,h1,h2,D,F⟩|⟨a,cap,rfl,rfl⟩:=y.val
 .obtain⟨P,d1⟩:=F t x hx;have hg:=r g o cap rfl;have C:=O1 x.1 x.2;rw[L]at C;have B:=Zf0 l;clear F y l hx L r;go_enter JH,Try.ntmps80
  go_wp2_with (go_at_call 41;refine(C _).mono ?_;rintro e w1 ⟨rfl,d⟩
               have z:=Zf0 d;have s1:=d.size;have k0:w1.cell? ⟨bt,0,U⟩=J (.int .i64 t):=(d.cell (p:=⟨bt,0,U⟩) Ze4).trans<|(Zgv _ _ _ h).trans N;have k1:w1.frozen? ⟨bt,0,U⟩=xw:=Y9<|(d.block bt Ze4).trans<|(Zfa _ _ _ h).trans B.out;have k2:w1.cell? ⟨f,0,U⟩=J (.slice (J ⟨g,o,U⟩) (I shs) cap):=(d.cell (p:=⟨f,0,U⟩) Ze4).trans<|(Zgv _ _ _ n).trans O;have k3:w1.cell? ⟨g,o+t*2,U⟩=J (.int .i64 x.1):=(d.cell (p:=⟨g,o+t*2,U⟩) Ze4).trans<|(Zgv _ _ _ D).trans P;have k4:w1.cell? ⟨g,o+t*2+1,U⟩=J (.int .i64 x.2):=(d.cell (p:=⟨g,o+t*2+1,U⟩) Ze4).trans<|(Zgv _ _ _ D).trans d1;have r0:w1.heap[xz<|xj w]?=J (.cells #[.int .i64 0,.int .i64 0] 36 (0,0)):=(d.block _ Z1).trans<|Zfq w _;have X:w1.cell? ⟨xz<|xj w,0,U⟩=J (.int .i64 0):=by rw[Zf6 _ _ _ _ _ _ r0];rfl
               have Y:w1.cell? ⟨xz<|xj w,1,U⟩=J (.int .i64 0):=by rw[Zf6 _ _ _ _ _ _ r0];rfl
               have y0:=Y9 (o:=0) r0;have y1:=Y9 (o:=1) r0;have T:¬xz (xj w)=bt:=Z0;have W:¬bt=xz (xj w):=Z0;have Z:=Zf0 r0;clear d r0)
  have j:Below (xz<|xj w) w w1:=((Zfg _ w).alloc (Zf3 _)<|.cells #[.int .i64 0,.int .i64 0] 36).trans<|z.out.mono Z1;have S:w1.heap[bt]?=J (.cells #[.int .i64 t] 3 (0,0)):=(j.block bt h).trans B.out;refine ZfA (v:=.agg #[.int .i64 x.1,.int .i64 x.2]) ?_ rfl ⟨rfl,⟨j.os,j.tape,j.output,?_,λk Q u=> ?_⟩,?_⟩
  .simp[results,Try.results80,go_sem,X,Y,T,W]
  simp[World.setCell];exact j.size;have A:k≠bt:=λe=>u (by rw[e]);rw[Zff _ _ _ _ Ze2,Zff _ _ _ _ Ze2,Zff _ _ _ _ A];exact j.block k Q;simp_all[Zff,World.setCell,Zfy]
 grind
end Vm
namespace Vm
open Go Go.Proofs Go.RowKit
def Z1c(w:World)(f:FuncId)(vs:Array Value)(ws:List Int)(g o cap:Nat)(q:Words w ws g o cap)(O:g<xz (xj w))(a:Nat)(x:Int)(hx:ws[a]?=J x)(y:¬(adr x).2=0):
  Calls xP 85 #[.slice (J ⟨g,o,U⟩) (I ws) cap,.int .i64 a,.func (.func f) #[] vs] w λe Q=>e=Sw a x/\Below (xz<|xj w) w Q:=by
 have hl:=q.len;have hc:=q.le;have hm:=q.cap;have P:a<I ws:=(ZeW.1 hx).1;have C:(a:Int)<I ws:=Z0;have r:ZA x:=q.u64 x<|Zf5 hx;have F:=q.Z a x hx;have B:∀W,Below (xz<|xj w) w W->W.cell? ⟨g,o+a,U⟩=J (.int .u64 x):=λW M=>(M.cell (p:=⟨g,o+a,U⟩) O).trans F;have n:Sw a x=if(ZN x).2.2=0 then .returned (Wx ⟨a,(ZN x).1,(ZN x).2.1,xw,0⟩)else .panicked<|Vc 3:=rfl
 generalize Sw a x=E at*;have A:=Zf0 B;have N:=λW=>Bi W f vs;have D:((adr x).2=0)=False:=ZgU y;clear q hx B;by_cases u:(ZN x).2.2=0
 .rw[Zfc u]at n;have t:=Zf0 n;clear n;go_enter Rl,Try.ntmps85
  go_wp2_with (first
   |(go_at_call 38;refine(Sr r _).mono ?_;rintro e w1 ⟨rfl,h⟩;have d:=Zf0 h;have G:=A.out w1<|((((Zfg _ w).alloc (Zf3 _) _).alloc (by simp) _).trans<|h.mono (by simp;omega));clear h)
   | (go_at_call 57;refine(Jt r _).mono ?_;rintro e w2 ⟨rfl,j⟩;have k:=Zf0 j
      have L:=d.out.block;have r0:w2.heap[xz<|xj w]?=J (.cells #[.int .i64 0,.int .i64 0,.int .i64 0,.bool xw,.int .u64 0] 105 (0,0)):=(j.block _ Zez).trans<|(d.out.block _ Ze4).trans<|(Zfa _ _ _ Z1).trans<|Zfq w _;have z:w2.heap[xz (xj w)+1]?=J (.cells #[.int .i64 a,.int .i64 0,.int .i64 0,.bool xw,.int .u64 0] 105 (0,0)):=(j.block _ Zez).trans<|(d.out.block _ Z1).trans Ze8;obtain⟨⟨R,S,T,X,Y⟩,y0,y1,y2,y3,y4⟩:=qj r0<|.cells #[.int .i64 (ZN x).1,.int .i64 (ZN x).2.1] 36;obtain⟨⟨p0,p1,p2,p3,p4⟩,q0,q1,q2,q3,q4⟩:=qj z<|.cells #[.int .i64 (ZN x).1,.int .i64 (ZN x).2.1] 36;have Z:=Zf0<|And.intro r0 z;clear j L r0 z))
  refine ZfA (v:=Wx ⟨a,(ZN x).1,(ZN x).2.1,xw,0⟩) ?_ rfl ⟨t.out.symm,?_⟩
  .simp[results,Try.results85,go_sem,Wx,R,S,T,X,Y]
  have l:=(((Zfg _ w).alloc (Zf3 _)<|.cells #[.int .i64 0,.int .i64 0,.int .i64 0,.bool xw,.int .u64 0] 105).alloc Z1<|.cells #[.int .i64 a,.int .i64 0,.int .i64 0,.bool xw,.int .u64 0] 105).trans<|d.out.mono Ze4;have K:=(l.trans<|k.out.mono (by have:=l.size;omega)).alloc (by have:=l.size;have:=k.out.size;omega)<|.cells #[.int .i64 (ZN x).1,.int .i64 (ZN x).2.1] 36;exact((((((K.setCell (p:=⟨xz (xj w)+1,1,U⟩) Z1 _).setCell (p:=⟨xz (xj w)+1,2,U⟩) Z1 _).setCell (p:=⟨xz<|xj w,0,U⟩) (Zf3 _) _).setCell (p:=⟨xz<|xj w,1,U⟩) (Zf3 _) _).setCell (p:=⟨xz<|xj w,2,U⟩) (Zf3 _) _).setCell (p:=⟨xz<|xj w,3,U⟩) (Zf3 _) _).setCell (p:=⟨xz<|xj w,4,U⟩) (Zf3 _) _
 .rw[Zf7 u]at n;have t:=Zf0 n;clear n;have H:((ZN x).2.2=0)=False:=ZgU u;go_enter Rl,Try.ntmps85
  go_wp2_with (first
   |(go_at_call 38;refine(Sr r _).mono ?_;rintro e w1 ⟨rfl,h⟩;have d:=Zf0 h;have G:=A.out w1<|((((Zfg _ w).alloc (Zf3 _) _).alloc (by simp) _).trans<|h.mono (by simp;omega));clear h)
   |(go_at_call 57;refine(Jt r _).mono ?_;rintro e w2 ⟨rfl,j⟩;have k:=Zf0 j;clear j))
  refine⟨rfl,t.out.symm,?_⟩;have l:=(((Zfg _ w).alloc (Zf3 _)<|.cells #[.int .i64 0,.int .i64 0,.int .i64 0,.bool xw,.int .u64 0] 105).alloc Z1<|.cells #[.int .i64 a,.int .i64 0,.int .i64 0,.bool xw,.int .u64 0] 105).trans<|d.out.mono Ze4;exact(l.trans<|k.out.mono (by have:=l.size;omega)).alloc (by have:=l.size;have:=k.out.size;omega) _
def F0(w:World)(vs:Array Value)(ws:List Int)(g o cap:Nat)(h:Words w ws g o cap)(G:g<xz (xj w))(a:Nat)(x:Int)(hx:ws[a]?=J x)(A:(adr x).2=0)
  (d:∀W,Below (xz<|xj w) w W->Calls xP 80 vs W λe W'=>e=.panicked (Vc 3)/\Below (xz<|xj W) W W'):
  Calls xP 85 #[.slice (J ⟨g,o,U⟩) (I ws) cap,.int .i64 a,.func (.func 80) #[] vs] w λe C=>e=.panicked (Vc 3)/\Below (xz<|xj w) w C:=by
 have H:=h.len;have F:=h.le;have K:=h.cap;have z:a<I ws:=(ZeW.1 hx).1;have t:(a:Int)<I ws:=Z0;have B:ZA x:=h.u64 x<|Zf5 hx;have D:=h.Z a x hx;have y:=λW=>Bi W 80 vs;have u:=Zf0 d;clear h hx d;go_enter Rl,Try.ntmps85
 go_wp2_with (first
  | (go_at_call 38;refine(Sr B _).mono ?_;rintro e w1 ⟨rfl,f⟩
     have r:Below (xz<|xj w) w w1:=((((Zfg _ w).alloc (Zf3 _) _).alloc Z1 _).trans<|f.mono Ze4);have k:w1.heap[xz (xj w)+1]?=J (.cells #[.int .i64 a,.int .i64 0,.int .i64 0,.bool xw,.int .u64 0] 105 (0,0)):=(f.block _ Z1).trans Ze8;have p3:w1.cell? ⟨xz (xj w)+1,3,U⟩=J (.bool xw):=by rw[Zf6 _ _ _ _ _ _ k];rfl
     have p4:w1.cell? ⟨xz (xj w)+1,4,U⟩=J (.int .u64 0):=by rw[Zf6 _ _ _ _ _ _ k];rfl
     have L:=Y9 (o:=3) k;have M:=Y9 (o:=4) k;have n:=Zf0 r;clear f r k)
  |(go_at_call 80;refine(u.out _ ?_).mono ?_;rotate_left;rintro e w2 ⟨rfl,j⟩;have l:=Zf0 j;clear j))
 case refine_1=>exact(n.out.setCell (p:=⟨xz (xj w)+1,3,U⟩) Z1 _).setCell (p:=⟨xz (xj w)+1,4,U⟩) Z1 _
 case refine_2=>
  have q:=(n.out.setCell (p:=⟨xz (xj w)+1,3,U⟩) Z1<|.bool xk).setCell (p:=⟨xz (xj w)+1,4,U⟩) Z1<|.int .u64 (adr x).1;exact⟨rfl,rfl,q.trans<|l.out.mono q.size⟩
theorem Z2J{w W:World}{r}(h:w.grownBy W r){p}(f:xz (xj w)<=p.block)u:w.grownBy (W.setCell p u) r:=
 ⟨h.os,h.tape,h.output,by simpa[World.setCell]using h.size,λk d a=>(Zff _ _ _ _ Z0).trans<|h.block k d a⟩
def Z1a(w:World)(vs:Array Value)(ws:List Int)(g o cap:Nat)(r:Words w ws g o cap)(hg:g<xz (xj w))(a:Nat)(x:Int)(hx:ws[a]?=J x)(Q:(adr x).2=0)
  (bt:Nat) (O:Obj) (s p:Int) (L:bt<xz (xj w))
  (f:∀W,Below (xz<|xj w) w W->Calls xP 80 vs W λe W'=>e=.returned (.agg #[.int .i64 s,.int .i64 p])/\W.grownBy W' (J bt)/\W'.heap[bt]?=J O):
  Calls xP 85 #[.slice (J ⟨g,o,U⟩) (I ws) cap,.int .i64 a,.func (.func 80) #[] vs] w λe H=>e=.returned (Wx ⟨a,s,p,xk,(adr x).1⟩)/\w.grownBy H (J bt)/\H.heap[bt]?=J O:=by
 have hl:=r.len;have hc:=r.le;have hm:=r.cap;have P:a<I ws:=(ZeW.1 hx).1;have G:(a:Int)<I ws:=Z0;have R:ZA x:=r.u64 x<|Zf5 hx;have c0:=r.Z a x hx;have M:=λW=>Bi W 80 vs;have K:=Zf0 f;clear r hx f;go_enter Rl,Try.ntmps85
 go_wp2_with (first
  | (go_at_call 38;refine(Sr R _).mono ?_;rintro e w1 ⟨rfl,j⟩
     have D:Below (xz<|xj w) w w1:=((((Zfg _ w).alloc (Zf3 _) _).alloc Z1 _).trans<|j.mono Ze4);have t:w1.heap[xz (xj w)+1]?=J (.cells #[.int .i64 a,.int .i64 0,.int .i64 0,.bool xw,.int .u64 0] 105 (0,0)):=(j.block _ Z1).trans Ze8;have p3:w1.cell? ⟨xz (xj w)+1,3,U⟩=J (.bool xw):=by rw[Zf6 _ _ _ _ _ _ t];rfl
     have p4:w1.cell? ⟨xz (xj w)+1,4,U⟩=J (.int .u64 0):=by rw[Zf6 _ _ _ _ _ _ t];rfl
     have q3:=Y9 (o:=3) t;have q4:=Y9 (o:=4) t;have r0:w1.heap[xz<|xj w]?=J (.cells #[.int .i64 0,.int .i64 0,.int .i64 0,.bool xw,.int .u64 0] 105 (0,0)):=(j.block _ Ze4).trans<|(Zfa _ _ _ Z1).trans<|Zfq w _;have z:=Zf0<|And.intro r0 t;have C:=Zf0 D;clear j D r0 t)
  | (go_at_call 80;refine(K.out _ ?_).mono ?_;rotate_left;rintro e w2 ⟨rfl,l,u⟩
     have d:=Zf0 l;have A:=Zf0 u;have n:w2.heap[xz (xj w)+1]?=J (.cells #[.int .i64 a,.int .i64 0,.int .i64 0,.bool xk,.int .u64 (adr x).1] 105 (0,0)):=(l.block _ (by simp[World.setCell];exact ZV z.out.2) Ze4).trans (by simp[World.setCell,Zfy,z.out.2]);have h:w2.heap[xz<|xj w]?=J (.cells #[.int .i64 0,.int .i64 0,.int .i64 0,.bool xw,.int .u64 0] 105 (0,0)):=(l.block _ (by simp[World.setCell];exact ZV z.out.1) Ze4).trans (by simp[World.setCell,Zfy,z.out.1]);have s0:w2.cell? ⟨xz (xj w)+1,0,U⟩=J (.int .i64 a):=Zes;have s1:w2.cell? ⟨xz (xj w)+1,1,U⟩=J (.int .i64 0):=Zes;have s2:w2.cell? ⟨xz (xj w)+1,2,U⟩=J (.int .i64 0):=Zes;have s3:w2.cell? ⟨xz (xj w)+1,3,U⟩=J (.bool xk):=Zes;have s4:w2.cell? ⟨xz (xj w)+1,4,U⟩=J (.int .u64 (adr x).1):=Zes;have S:w2.cell? ⟨xz<|xj w,0,U⟩=J (.int .i64 0):=Zer;have T:w2.cell? ⟨xz<|xj w,1,U⟩=J (.int .i64 0):=Zer;have X:w2.cell? ⟨xz<|xj w,2,U⟩=J (.int .i64 0):=Zer;have Y:w2.cell? ⟨xz<|xj w,3,U⟩=J (.bool xw):=Zer;have Z:w2.cell? ⟨xz<|xj w,4,U⟩=J (.int .u64 0):=Zer;have u1:=Y9 (o:=1) n;have u2:=Y9 (o:=2) n;have v0:=Y9 (o:=0) h;have v1:=Y9 (o:=1) h;have v2:=Y9 (o:=2) h;have v3:=Y9 (o:=3) h;have v4:=Y9 (o:=4) h;clear l u h n))
 case refine_1=>exact(C.out.setCell (p:=⟨xz (xj w)+1,3,U⟩) Z1 _).setCell (p:=⟨xz (xj w)+1,4,U⟩) Z1 _
 next=>
  have q:=(C.out.setCell (p:=⟨xz (xj w)+1,3,U⟩) Z1<|.bool xk).setCell (p:=⟨xz (xj w)+1,4,U⟩) Z1<|.int .u64 (adr x).1;have N:w.grownBy w2<|J bt:=⟨d.out.os.trans q.os,d.out.tape.trans q.tape,d.out.output.trans q.output,Zfw q.size d.out.size,λk F B=>(d.out.block k (Zf4 F q.size) B).trans<|q.block k F⟩;have k1:bt≠xz (xj w)+1:=Z0;have y:bt≠xz (xj w):=Z0;clear q;refine ZfA (v:=Wx ⟨a,s,p,xk,(adr x).1⟩) ?_ rfl ⟨rfl,?_,?_⟩
  .simp[results,Try.results85,go_sem,Wx,S,T,X,Y,Z]
  grind [Z2J];rw[Zff _ _ _ _ y,Zff _ _ _ _ y,Zff _ _ _ _ y,Zff _ _ _ _ y,Zff _ _ _ _ y,Zff _ _ _ _ k1,Zff _ _ _ _ k1];exact A.out
end Vm
namespace Vm
open Go Go.Proofs Go.RowKit Go.Shelf
def Uo(W:World)(bl:Nat):Option Nat:=(W.cell? ⟨bl,0,U⟩).bind Value.ownBlock
structure KpW (bl base:Nat) (A B:World):Prop where
 size:xz (xj A)<=xz (xj B)
 same:∀k o,A.heap[k]?=J o->o.isCells=xk->k≠bl->(k<base\/Uo A bl≠J k)->B.heap[k]?=J o
 row:∀k,k<xz (xj A)->Uo B bl=J k->Uo A bl=J k
theorem KpW.trans{bl base A B C}(h:KpW bl base A B)(k:KpW bl base B C):KpW bl base A C:=
 ⟨Zfw h.size k.size,λi o a g j d=>k.same i o (h.same i o a g j d) g j (d.imp id λf e=>f<|h.row i Ze2 e),λi a d=>h.row i a<|k.row i (Zf4 a h.size) d⟩
theorem KpW.put{bl base W l o}d(j:W.heap[l]?=J o)(n:o.isCells=xw)(g:bl≠l):KpW bl base W<|W.putObj l d:=by
 have a:(W.putObj l d).cell? ⟨bl,0,U⟩=W.cell? ⟨bl,0,U⟩:=ZfR<|ZfE Z0;refine⟨Z1,λk q h f _ _=> ?_,λk _ p=> ?_⟩;grind [World.putObj_heap_other];simp_all[Uo]
def LB(ws:List Int)(g o cap:Nat)(gv:Value)(shs:List<|Int×Int)(old:Bool)(bt:Option Nat)(K:Nat->World->Prop):Prop:=
 ∀(W:World) (a t:Nat) (x:Int),Words W ws g o cap->g<xz (xj W)->K t W->ws[a]?=J x->
  Calls xP 85 #[.slice (J ⟨g,o,U⟩) (I ws) cap,.int .i64 a,gv] W λe W'=>W.grownBy W' bt/\match XR shs old a t x with
   |some (d,f)=>e=.returned (Wx d)/\K f W'
   |none=>e=.panicked (Vc 3)
def zd(ws:List Int)(shs:List<|Int×Int)(old:Bool)(K:Nat->World->Prop)(xs:List Ob)(W:World):Prop:=
 ∃t,K t W/\ZM ws shs old=(if t<(I shs) then([],3)else(xs,0))
def Z1Z(ws:List Int)(shs:List<|Int×Int)(old:Bool)(chain:List PanicEntry)(pre:List Ob)(W:World):Prop:=
 ∃e,(e=2\/e=3)/\chain=Vc e/\ZM ws shs old=([],e)
structure Stat6 (ws:List Int) (g o cap:Nat) (sv:Value) (bw bg base bl:Nat) (bt:Option Nat) (gv:Value) (W:World):Prop where
 words:Words W ws g o cap
 uo:sv=.slice (J ⟨g,o,U⟩) (I ws) cap\/(ws=[]/\∃a c,sv=.slice a 0 c)
 si:W.heap[bw]?=J (.cells #[sv] 25 (0,0))
 uh:W.heap[bg]?=J (.cells #[gv] 166 (0,0))
 gb:ws≠[]->∃ob,W.heap[g]?=J ob/\ob.isCells=xk
 lt:g<base/\bw<base/\bg<base/\base<=xz (xj W)
 ne:g≠bl/\bw≠bl/\bg≠bl
 nt:J g≠bt/\J bw≠bt/\J bg≠bt
section
variable {ws:List Int}{g o cap bw bg base bl:Nat}{bt:Option Nat}{sv gv:Value}{W W':World}
theorem Stat6.of(h:Stat6 ws g o cap sv bw bg base bl bt gv W)(n:xz (xj W)<=xz (xj W'))(d:∀k a,W.heap[k]?=J a->a.isCells=xk->k<base->k≠bl->J k≠bt->W'.heap[k]?=J a):Stat6 ws g o cap sv bw bg base bl bt gv W':=by
 refine⟨⟨λi x p=> ?_,h.words.le,h.words.cap,h.words.len,h.words.u64⟩,h.uo,d _ _ h.si rfl h.lt.2.1 h.ne.2.1 h.nt.2.1,d _ _ h.uh rfl h.lt.2.2.1 h.ne.2.2 h.nt.2.2,λj=> ?_,⟨h.lt.1,h.lt.2.1,h.lt.2.2.1,Zfw h.lt.2.2.2 n⟩,h.ne,h.nt⟩;have j:ws≠[]:=Ze2;let⟨a,l,f⟩:=h.gb j;have q:=d _ _ l f h.lt.1 h.ne.1 h.nt.1;rw[<-h.words.Z i x p];grind [World.cell?_of_block];let⟨a,l,f⟩:=h.gb j;exact⟨a,d _ _ l f h.lt.1 h.ne.1 h.nt.1,f⟩
def Stat6.grown(h:Stat6 ws g o cap sv bw bg base bl bt gv W)(a:W.grownBy W' bt):=
 h.of a.size λk j d _ _ _ f=>(a.block k Ze2 f).trans d
def Stat6.kp(h:Stat6 ws g o cap sv bw bg base bl bt gv W)(f:KpW bl base W W'):=
 h.of f.size λk n a j l d _=>f.same k n a j d Z0
end
def UF{W W'}(a:Below (xz<|xj W) W W')r:W.grownBy W' r:=⟨a.os,a.tape,a.output,a.size,λk d _=>a.block k d⟩
def Z18{ws g o cap}:LB ws g o cap .nilFunc [] xw U (λt _=>t=0):=by
 intro W a t x h f k j;refine(Z1b W ws g o cap h f a x j).mono ?_;rintro e W' ⟨rfl,d⟩;refine⟨UF d U,?_⟩;unfold XR Sw;grind
def Shps.grown{W W' shs d v r}(h:Shps W shs d v)(j:W.grownBy W' r)(f:J d≠r)(p:shs≠[]->∀g o cap,v=.slice (J ⟨g,o,U⟩) (I shs) cap->J g≠r):Shps W' shs d v:=by
 refine⟨(j.block _ (ZV h.box) f).trans h.box,?_⟩;obtain⟨g,o,cap,rfl,l,n,k,q⟩|⟨a,cap,rfl,rfl⟩:=h.val;refine .inl ⟨g,o,cap,rfl,l,n,Zf4 k j.size,λi x u=> ?_⟩;have t:=j.block g k Ze2;grind [World.cell?_of_block];simp
def KOld(shs:List<|Int×Int)(bt a:Nat)(v:Value)(t:Nat)(W:World):Prop:=W.heap[bt]?=J (.cells #[.int .i64 t] 3 (0,0))/\Shps W shs a v/\t<=I shs
def Z19{ws:List Int}{g o cap:Nat}{shs:List (Int×Int)}{bt k:Nat}{v:Value}(B:I shs<=1000000)(n:k≠bt)(q:shs≠[]->∀g o cap,v=.slice (J ⟨g,o,U⟩) (I shs) cap->g≠bt):
  LB ws g o cap (.func (.func 80) #[] #[.pointer<|J ⟨bt,0,U⟩,.pointer<|J ⟨k,0,U⟩]) shs xk (J bt) (KOld shs bt k v):=by
 intro W a t x y w F z;obtain⟨A,D,M⟩:=F;have p:J k≠J bt:=λe=>n Ze2;have r:shs≠[]->∀g o cap,v=.slice (J ⟨g,o,U⟩) (I shs) cap->J g≠J bt:=λL g o cap e O=>q L g o cap e Ze2;have h:∀W',Below (xz<|xj W) W W'->Shps W' shs k v:=λW' d=>D.grown (UF d U) Z1 (λ_ _ _ _ _=>Z1);have f:∀W',Below (xz<|xj W) W W'->W'.heap[bt]?=J (.cells #[.int .i64 t] 3 (0,0)):=λW' d=>(d.block _<|ZV A).trans A;by_cases l:(adr x).2=0;unfold XR;rw[Zfc ⟨rfl,l⟩];cases j:shs[t]? with
 |none=>
  have:t=I shs:=by have:=Zh8.1 j;omega
  subst this;refine(F0 W _ ws g o cap y w a x z l λW' d=>Z2G W' shs bt k v B (h W' d)<|f W' d).mono ?_;rintro e W' ⟨rfl,d⟩;exact⟨UF d _,rfl⟩
 |some s=>
  simp only;cases u:Yq s.1 s.2;refine(F0 W _ ws g o cap y w a x z l λW' d=>Z2F W' shs bt k t v s B (h W' d) (f W' d) j u).mono ?_;rintro e W' ⟨rfl,d⟩;exact⟨UF d _,Z1⟩;refine(Z1a W _ ws g o cap y w a x z l bt _ s.1 s.2 (ZV A) λW' d=>Z2H W' shs bt k t v s B (h W' d) (f W' d) j u n<|q (λe=>Ze3)).mono ?_;rintro e W' ⟨rfl,C,G⟩;have K:=(ZeW.1 j).1;refine⟨C,?_⟩;simp only[ZfT];exact⟨trivial,G,D.grown C p r,Z0⟩
 refine(Z1c W _ _ ws g o cap y w a x z l).mono ?_;rintro e W' ⟨rfl,d⟩;refine⟨UF d _,?_⟩;unfold XR Sw;rw[Zf7 (λH=>l H.2)];by_cases N:(ZN x).2.2=0;simp only[N,ZfT];exact⟨trivial,f W' d,h W' d,M⟩;simp_all
end Vm
end
