import Derived.ProofKit
import Derived.OpenShut
import Derived.Conc.SmallLaws
import Derived.RangeFuncNested
import Derived.RangeFuncBound
import Derived.WalkSpells
import Derived.WalkLawsBesides
import Derived.StillTailTactics
import Derived.Deep.RegionHeld3
import Derived.Deep.AppendLies
import Derived.Deep.Onto
import Derived.Deep.RegionLaw
import Derived.Deep.OwnRows
import Derived.Lib.Hide
import Derived.Test.YtffknkhabklijaaSFlipKeeps4
set_option linter.unusedSimpArgs false
set_option linter.unusedVariables false
set_option linter.defProp false
open Option renaming some→xk,none→xw
open Bool renaming true→xy,false→xh
open List renaming length→P
open Array renaming size→U
open Go.World renaming heap→R
open List renaming length→xq
open Array renaming size→xz
open Go.World renaming heap→xj
set_option maxHeartbeats 2000000
set_option maxRecDepth 100000
theorem ZdI{p:Prop}(h:p:=by simp[ZQ]):p:=h
theorem ZdK{p:Prop}(h:p:=by simp[Xm]):p:=h
theorem Zdk{p:Prop}(h:p:=by simp[Y5];omega):p:=h
theorem Zdm{p:Prop}(h:p:=by unfold ZJ at d;omega):p:=h
theorem Zd7{p:Prop}(h:p:=by decide):p:=h
theorem ZdH{p:Prop}(h:p:=by simp[Xm];omega):p:=h
theorem Zdu{p:Prop}(h:p:=by unfold maxLen;omega):p:=h
def Zfp:=@List.append_nil
def Zfb:=@Int.tmod_eq_emod_of_nonneg
def Zhi:=@Int.tdiv_eq_ediv_of_nonneg
def Zhh:=@Int.fdiv_eq_ediv_of_nonneg
def ZeM:=@List.take_add_one
def ZhY:=@Int.emod_nonneg
def Zhm:=@Int.emod_lt_of_pos
def Zif:=@List.map_take
def Zi3:=@List.set_append_right
def ZeN:=@List.drop_eq_getElem_cons
def Zg0:=@List.set_cons_zero
def ZeH:=@List.append_assoc
def ZgA:=@List.map_set
def Zg1:=@List.take_append_drop
def ZhZ:=@List.all_append
def Zfv:=@Bool.true_eq_false
def ZfN:=@List.length_pos_iff
def Zgt:=@List.getElem?_eq_none_iff
def ZgE:=@List.findIdx?_cons
def Zhc:=@List.find?_cons
def ZgQ:=@decide_true
def ZeG:=@List.findIdx?_eq_some_iff_getElem
def Zhe:=@List.take_succ_cons
def Zfx:=@List.length_eq_zero_iff
def ZeU:=@Decidable.byContradiction
def ZgG:=@List.length_set
def ZhC:=@not_true_eq_false
def Zho:=@List.pairwise_cons
def Zii:=@decide_false
def Zgl:=@Bool.false_or
def ZhA:=@List.pairwise_map
def ZhU:=@Bool.eq_iff_iff
def Zhb:=@Go.grownBy_putObj'
def Zf1:=@Go.World.putObj_heap_other
def ZhJ:=@List.map_toArray
section
namespace Vm
open Go
open Go.Proofs
def sig(f:Zp):Option (List OT):=
 if f=102 then xk [.fz,.mem [.own 97],.mem [.own 3]]else
 if f=50 then xk [.fz,.mem [.fz,.fz]]else
 if f=80 then xk [.fz,.own 97]else
 if f=47 then xk [.fz,.own 97]else
 if f=121 then xk [.mem [.fz,.fz,.fz,.fz,.fz,.fz,.fz,.fz,.fz,.fz,.fz,.fz,.fz,.fz,.fz,.fz,.fz,.fz,.fz,.fz,.fz,.own 84,.own 115],.fz,.fz]else
 if f=105 then xk [.mem [.fz,.fz,.fz,.fz,.fz,.fz,.fz,.fz,.fz,.fz,.fz,.fz,.fz,.fz,.fz,.fz,.fz,.fz,.fz,.fz,.fz,.own 84,.own 115]]else
 if f=1000101 then xk [.mem [.fz,.fz,.fz,.fz,.fz,.fz,.fz,.fz,.fz,.fz,.fz,.fz,.fz,.fz,.fz,.fz,.fz,.fz,.fz,.fz,.fz,.own 84,.own 115]]else
 xw
@[simp]def pI(n:Int):E:=.c (.int .i64 n)
@[simp]def pU(n:Int):E:=.c (.int .u64 n)
@[simp]def pF:E:=.c (.bool xh)
@[simp]def pT:E:=.c (.bool xy)
@[simp]def pN:E:=.c (.sl [])
@[simp]def pG(e:E):Nat->Nat->List E
 |_,0=>[]
 |i,n+1=>.fld e i::pG e (i+1) n
@[simp]def pS(a n:Nat):OV:=.m (pG (.sz (.s a) n) 0 n)
@[simp]def pM(e:E)(n:Nat):OV:=.m (pG e 0 n)
@[simp]def pY:E:=.ag [pU 0,pI 0,pI 0,pF,pI 0,pN,pN,pN,pN,pN]
@[simp]def pZ:OV:=.m [pU 0,pI 0,pI 0,pF,pI 0,pN,pN,pN,pN,pN]
@[simp]def pR(l:List (Nat×OV)):Stm:=.reg ⟨[],[],l⟩
@[simp]def pC(e:List EF)(l:List (Nat×OV)):Stm:=.reg ⟨e,[],l⟩
@[simp]def pV(t:Nat)(e:E):Nat×OV:=(t,.v e)
@[simp]def pK(t f:Nat)(l:List E):EF:=.call t [] (.id f) xh xh l
@[simp]def pQ:List Stm->Stm->Stm
 | [],z=>z
 |a::l,z=>.seq a (pQ l z)
def fresh(f:Zp):Bool:=f==81||f==117||f==119
def follows:Sol.prog.follows .mixedOrders=xy:=Z2
section
def jA(x:Option V)(A B:Prop):Prop:=
 match x with
 |some (.bool xy)=>A
 |some (.bool xh)=>B
 |_=>False
@[simp]theorem Z9O(b:Bool)(A B:Prop):jA (xk (.bool b)) A B↔if b=xy then A else B:=by cases b<;>simp[jA]
def XA{α:Type}(x:Option α)(K:α->Prop):Prop:=
 match x with
 |some x=>K x
 |none=>False
@[simp]theorem Zbq{α:Type}(x:α)(K:α->Prop):XA (xk x) K↔K x:=ZfL
@[simp]theorem Zbp{α:Type}(K:α->Prop):XA xw K↔False:=ZfL
@[simp]theorem Zbo{α β:Type}(f:α->β)(x:Option α)(K:β->Prop):XA (x.map f) K↔XA x (λy=>K (f y)):=by cases x<;>rfl
@[simp]theorem Zbm{α β:Type}(f:α->Option β)(x:Option α)(K:β->Prop):XA (x.bind f) K↔XA x (λy=>XA (f y) K):=by cases x<;>rfl
@[simp]theorem Zbn{α:Type}(p:Prop) [Decidable p](x y:Option α)(K:α->Prop):XA (if p then x else y) K↔if p then XA x K else XA y K:=by split<;>rfl
def Ru(P:Z4) [Lg P](f:Zp)(fr fl:Bool)(xs:Zr)(K:V->Prop):Prop:=∃r,VC P f fr xs r/\(fl=xy->Wt r=xk r)/\K r
def Zz{P:Z4} [Lg P]{f:Zp}{fr fl:Bool}{xs:Zr}{K:V->Prop}{r:V}(h:VC P f fr xs r)(g:fl=xy->Wt r=xk r)(d:K r):Ru P f fr fl xs K:=⟨r,h,g,d⟩
def LM(P:Z4) [Lg P](f:Zp)(ks:List OT)(xs:Zr)(K:V->Prop):Prop:=∃R,Vj P f ks xs R/\K R
def VZ{P:Z4} [Lg P]{f:Zp}{ks:List OT}{xs:Zr}{K:V->Prop}{R:V}(h:Vj P f ks xs R)(d:K R):LM P f ks xs K:=⟨R,h,d⟩
def kS(P:Z4) [Lg P](b:Stm)(N:St->Prop)(X:Nat->St->Prop)(R:St->Prop)(s:St):Prop:=Yr P b s N X R
def xB(id:Nat)(N:St->Prop)(X:Nat->St->Prop)(i:Nat)(s:St):Prop:=if i=id then N s else X i s
def kR(d:List (ZD×E))(outs:List (Nat×OV))(K:St->Prop)(t:St):Prop:=Sy t d/\VX outs t t K
def kO(l:List (Nat×OV))(t u:St)(i:Nat)(K:St->Prop)(x:SV):Prop:=VX l t (YD u i x) K
def kL(P:Z4) [Lg P](l:List EF)(s:St)(i:Nat)(K:St->Prop)(x:V):Prop:=YP P l (YD s i (.v x)) K
def kA(P:Z4) [Lg P](f:Zp)(fr fl:Bool)(K:V->Prop)(xs:Zr):Prop:=Ru P f fr fl xs K
def Kd(P:Z4) [Lg P](fr fl:Bool)(K:V->Prop)(xs:Zr)(v:V):Prop:=XA (JK v) λn=>Ru P n.1 fr fl (xs++n.2) K
def Az(P:Z4) [Lg P](x:Option V)(fr fl:Bool)(K:V->Prop)(xs:Zr):Prop:=XA x (Kd P fr fl K xs)
def AA(P:Z4) [Lg P](f:Option FuncId)(ks:List OT)(K:V->Prop)(xs:Zr):Prop:=XA f λn=>LM P n ks xs K
def kW(P:Z4) [Lg P](l:List EF)(s:St)(i:Nat)(K:St->Prop)(d:Zr):Prop:=if d=[]then YP P l s K else YP P l (YD s i (.v (.tup (.bool xh::d)))) K
def kT(_:V):Prop:=True
section
variable {P:Z4}[Lg P]{N R:St->Prop}{X:Nat->St->Prop}{K:St->Prop}{s t u:St}
@[simp]theorem Zb6(b:Stm):kS P b N X R s↔Yr P b s N X R:=ZfL
@[simp]theorem ZcH(id:Nat):xB id N X id s↔N s:=by simp[xB]
def Jt(id i:Nat):xB id N X i s↔if i=id then N s else X i s:=ZfL
@[simp]theorem ZcG{id i:Nat}(h:i≠id):xB id N X i s↔X i s:=by simp[xB,h]
@[simp]theorem Zb5(d:List (ZD×E))(outs:List (Nat×OV)):kR d outs K t↔Sy t d/\VX outs t t K:=ZfL
@[simp]theorem Zb4(l:List (Nat×OV))(i:Nat)(x:SV):kO l t u i K x↔VX l t (YD u i x) K:=ZfL
@[simp]theorem Zb3(l:List EF)(i:Nat)(x:V):kL P l s i K x↔YP P l (YD s i (.v x)) K:=ZfL
@[simp]theorem Zb2(f:Zp)(fr fl:Bool)(K:V->Prop)(xs:Zr):kA P f fr fl K xs↔Ru P f fr fl xs K:=ZfL
@[simp]theorem Zb0(v:V)(fr fl:Bool)(K:V->Prop)(xs:Zr):Az P (xk v) fr fl K xs↔Kd P fr fl K xs v:=ZfL
@[simp]theorem ZaZ(f:Zp)(cs:Zr)(fr fl:Bool)(K:V->Prop)(xs:Zr):Kd P fr fl K xs (.clo f cs)↔Ru P f fr fl (xs++cs) K:=by simp[Kd,JK]
@[simp]theorem Zb1(f:Zp)(ks:List OT)(K:V->Prop)(xs:Zr):AA P (xk f) ks K xs↔LM P f ks xs K:=ZfL
@[simp]theorem Zb8(l:List EF)(i:Nat)(x:V)(d:Zr):kW P l s i K (x::d)↔YP P l (YD s i (.v (.tup (.bool xh::x::d)))) K:=by simp[kW]
@[simp]theorem Zb7(x:V):kT x↔True:=ZfL
@[simp]theorem ZcC(r:Reg):Yr P (.reg r) s N X R↔qS P r s N:=ZfL
@[simp]theorem ZcF:Yr P .skip s N X R↔N s:=ZfL
@[simp]theorem ZcE(a b:Stm):Yr P (.seq a b) s N X R↔Yr P a s (kS P b N X R) X R:=ZfL
@[simp]theorem ZcA(c:E)(a b:Stm):Yr P (.cond c a b) s N X R↔jA (eval s c) (Yr P a s N X R) (Yr P b s N X R):=by
 rfl
@[simp]theorem Zcz(id:Nat)(a:Stm):Yr P (.block id a) s N X R↔Yr P a s N (xB id N X) R:=ZfL
@[simp]theorem ZcB(id:Nat):Yr P (.exit id) s N X R↔X id s:=ZfL
@[simp]theorem ZcD:Yr P .ret s N X R↔R s:=ZfL
def UZ{keep:Zd}{a:Stm}(I:St->Prop)(μ:St->Nat)(f:I (YZ keep s))(g:∀s,I s->Yr P a s (λd=>I (YZ keep d)/\μ (YZ keep d)<μ s) X R):Yr P (.loop keep a) s N X R:=⟨I,μ,f,g⟩
@[simp]theorem Zcy(f:List EF)(d:List (ZD×E))(outs:List (Nat×OV)):qS P ⟨f,d,outs⟩ s K↔YP P f s (kR d outs K):=ZfL
@[simp]theorem Zcx:VX [] t u K↔K u:=ZfL
@[simp]theorem Zcw(i:Nat)(o:OV)(l:List (Nat×OV)):VX ((i,o)::l) t u K↔XA (WO t o) (kO l t u i K):=by
 simp only[VX,XA,kO];cases WO t o<;>rfl
@[simp]theorem Zcq:Sy t []↔True:=ZfL
@[simp]theorem Zcp(C:ZD)(e:E)(l:List (ZD×E)):Sy t ((C,e)::l)↔(VK t C=xy->XA (eval t e) kT)/\Sy t l:=by
 simp only[Sy,XA,kT];cases eval t e<;>simp
@[simp]theorem Zcv:YP P [] s K↔K s:=ZfL
@[simp]theorem Zcu(i:Nat)(C:ZD)(e:E)(l:List EF):YP P (.lt i C e::l) s K↔if VK s C=xy then XA (eval s e) (kL P l s i K)else YP P l s K:=by
 simp only[YP,XA,kL];cases eval s e<;>rfl
@[simp]theorem Zcr(i:Nat)(C:ZD)(f:Zp)(fr fl:Bool)(es:List E)(l:List EF):YP P (.call i C (.id f) fr fl es::l) s K↔if VK s C=xy then XA (YA s es) (kA P f fr fl (kL P l s i K))else YP P l s K:=by
 simp only[YP,XA,kA,Ru,kL,UK];cases YA s es<;>simp
@[simp]theorem Zcs(i:Nat)(C:ZD)(x:E)(fr fl:Bool)(es:List E)(l:List EF):YP P (.call i C (.e x) fr fl es::l) s K↔if VK s C=xy then XA (YA s es) (Az P (eval s x) fr fl (kL P l s i K))else YP P l s K:=by
 simp only[YP,XA,Az,Kd,Ru,kL,UK];cases YA s es with
 |none=>simp
 |some f=>
  cases eval s x with
  |none=>simp
  |some v=>cases d:JK v<;>simp[d]
@[simp]theorem Zct(i:Nat)(C:ZD)(f:FN)(ks:List OT)(es:List E)(l:List EF):YP P (.callm i C f ks es::l) s K↔
  if VK s C=xy then XA (YA s es) (AA P (Vq s f) ks (kL P l s i K))
  else XA (Ww s ks es) (kW P l s i K):=by
 simp only[YP,XA,LM,AA,kL,kW];split;cases YA s es<;>cases Vq s f<;>simp
 cases Ww s ks es with
 |none=>simp
 |some d=>cases d<;>simp
@[simp]theorem ZbQ(e:E):WO t (.v e)=(eval t e).map .v:=rfl
@[simp]theorem ZbO(l:List E):WO t (.m l)=(YA t l).map .m:=rfl
@[simp]theorem ZbP:WO t .no=xk .no:=rfl
@[simp]theorem ZaU:VK s []=xy:=rfl
def Z1G(i:Nat)(b:Bool)(C:ZD):VK s ((i,b)::C)=((match get s i with|.v (.bool c)=>c==b|_=>xh)&&VK s C):=rfl
end
@[simp]theorem ZaS(x:SV)(s:St):get (x::s) 0=x:=rfl
@[simp]theorem ZaR(x:SV)(s:St)(n:Nat):get (x::s) (n+1)=get s n:=by simp[get]
@[simp]theorem ZbV(x y:SV)(s:St):YD (y::s) 0 x=x::s:=rfl
@[simp]theorem ZbU(x y:SV)(s:St)(n:Nat):YD (y::s) (n+1) x=y::YD s n x:=rfl
@[simp]theorem ZbT(x:SV):YD [] 0 x=[x]:=rfl
@[simp]theorem ZbS(x:SV)(n:Nat):YD [] (n+1) x=.no::YD [] n x:=rfl
@[simp]theorem ZbN(s:St):YZ [] s=[]:=rfl
@[simp]theorem ZbM(i:Nat)(l:Zd)(s:St):YZ (i::l) s=YD (YZ l s) i (get s i):=rfl
attribute [simp] KQ eval YA Z1G Wg UU VT RG RF XB J9 SB Ta Vq Ww
section
variable {k:Zm}{a b:Int}{x y:V}{l r:Zr}
@[simp]theorem Z8V:Xk .add (.int k a) (.int k b)=xk (.int k (k.wrap (a+b))):=by simp[Xk]
@[simp]theorem Z95:Xk .sub (.int k a) (.int k b)=xk (.int k (k.wrap (a-b))):=by simp[Xk]
@[simp]theorem Z91:Xk .mul (.int k a) (.int k b)=xk (.int k (k.wrap (a*b))):=by simp[Xk]
@[simp]theorem Z93:Xk .quo (.int k a) (.int k b)=if b≠0 then xk (.int k (k.wrap (a.tdiv b)))else xw:=by simp[Xk]
@[simp]theorem Z94:Xk .rem (.int k a) (.int k b)=if b≠0 then xk (.int k (a.tmod b))else xw:=by simp[Xk]
@[simp]theorem Z8W:Xk .eql (.int k a) (.int k b)=xk (.bool (decide (a=b))):=by simp[Xk];rfl
@[simp]theorem Z92:Xk .neq (.int k a) (.int k b)=xk (.bool (!decide (a=b))):=by simp[Xk];rfl
@[simp]theorem Z90:Xk .lss (.int k a) (.int k b)=xk (.bool (decide (a<b))):=by simp[Xk]
@[simp]theorem Z8Z:Xk .leq (.int k a) (.int k b)=xk (.bool (decide (a<=b))):=by simp[Xk]
@[simp]theorem Z8Y:Xk .gtr (.int k a) (.int k b)=xk (.bool (decide (b<a))):=by simp[Xk]
@[simp]theorem Z8X:Xk .geq (.int k a) (.int k b)=xk (.bool (decide (b<=a))):=by simp[Xk]
@[simp]theorem Z9Q(p q n:Bool):SK n (.bool p) (.bool q)=xk (.bool (n ^^ (p==q))):=rfl
@[simp]theorem Zck:Su .neg (.int k a)=xk (.int k (k.wrap (0-a))):=rfl
@[simp]theorem Zcl(p:Bool):Su .not (.bool p)=xk (.bool !p):=rfl
@[simp]theorem Z9P(k':Zm):QA k' (.int k a)=xk (.int k' (k'.wrap a)):=rfl
@[simp]theorem Zb9:RX (.sl l)=xk (.int .i64 (P l)):=rfl
@[simp]theorem Zbf(id:Nat)(vs:Zr):SX (.mp id l vs)=xk (.int .i64 (P l)):=rfl
@[simp]theorem Zbc(id:Nat)(vs:Zr):Ki (.mp id l vs)=xk (.mp id [] []):=rfl
@[simp]theorem Zbd:Q2 (.int k a) (.int k b)=xk (.int k (if b<a then b else a)):=rfl
@[simp]theorem Zbb:Q1 (.int k a) (.int k b)=xk (.int k (if b>a then b else a)):=rfl
@[simp]theorem Z9R(i:Nat):TR (.tup l) i=l[i]? :=rfl
@[simp]theorem ZaW(i n:Nat):Xe (.sl l) (.int k (i:Int)) n=(l[i]?).bind λz=>if P z.cells=n then xk z else xw:=by simp[Xe]
@[simp]theorem Z9B:(V.int k a).cells=[V.int k a]:=rfl
@[simp]theorem Z9z(p:Bool):(V.bool p).cells=[V.bool p]:=rfl
@[simp]theorem Z9E(s:ByteArray):(V.str s).cells=[V.str s]:=rfl
@[simp]theorem Z9D:(V.sl l).cells=[V.sl l]:=rfl
@[simp]theorem Z9x:(V.agg l).cells=l:=rfl
@[simp]theorem Z9C(id:Nat):(V.mp id l r).cells=[V.mp id l r]:=rfl
@[simp]theorem Z9A(f:Zp):(V.fn f).cells=[V.fn f]:=rfl
@[simp]theorem ZbI:(V.int k a).one=xy:=rfl
@[simp]theorem ZbE(p:Bool):(V.bool p).one=xy:=rfl
@[simp]theorem ZbL:(V.sl l).one=xy:=rfl
@[simp]theorem ZbJ(id:Nat):(V.mp id l r).one=xy:=rfl
@[simp]theorem ZbH(f:Zp):(V.fn f).one=xy:=rfl
@[simp]theorem ZbD:(V.agg l).one=xh:=rfl
@[simp]theorem Zbx:YR (.int k a)=xk (.int k a):=rfl
@[simp]theorem Zbt(p:Bool):YR (.bool p)=xk (.bool p):=rfl
@[simp]theorem ZbB(s:ByteArray):YR (.str s)=xk (.str s):=rfl
@[simp]theorem ZbA:YR (.sl l)=xk (.sl l):=rfl
@[simp]theorem Zby(id:Nat):YR (.mp id l r)=xk (.mp id l r):=rfl
@[simp]theorem Zbw(f:Zp):YR (.fn f)=xk (.fn f):=rfl
@[simp]theorem Z9U(o:Nat):Y0 (.agg l) o=(l[o]?).bind YR:=rfl
@[simp]theorem Zag:Y0 (.int k a) 0=xk (.int k a):=rfl
@[simp]theorem Z9V(p:Bool):Y0 (.bool p) 0=xk (.bool p):=rfl
@[simp]theorem ZaG:Y0 (.sl l) 0=xk (.sl l):=rfl
@[simp]theorem ZaH(s:ByteArray):Y0 (.str s) 0=xk (.str s):=rfl
@[simp]theorem ZaI(o n:Nat):Um (.agg l) o n=if o+n<=(P l) then xk (.agg ((l.drop o).take n))else xw:=rfl
@[simp]theorem Zc9(n:Nat):Vz (.agg l) n=if P l=n then xk (.agg l)else xw:=rfl
@[simp]theorem ZaX:RT (.agg l)=xk (.agg l):=rfl
@[simp]theorem Zc8:UW (.ptr l)=xk (.agg l):=rfl
@[simp]theorem ZaY(p:Bool)(A B:Option V):QS (.bool p) A B=if p=xy then A else B:=by cases p<;>rfl
@[simp]theorem Z8H:TM l=.agg (flat l):=rfl
@[simp]theorem Z9S:flat (x::l)=x.cells++flat l:=rfl
@[simp]theorem Z9T:flat []=[]:=rfl
@[simp]theorem Z8U(n:Nat):Rq n (.sl l) (.sl r)=if P l+P r<=Y5/\Wo n r=xy then xk (.sl (l++r))else xw:=rfl
@[simp]theorem Zc5(n:Nat):Wo n []=xy:=rfl
@[simp]theorem Zc4(n:Nat):Wo n (x::l)=(P x.cells==n&&Wo n l):=rfl
def Z7e{α:Type}{f:α->V}{n:Nat}{l:List α}(h:∀x,(f x).cells.length=n):Wo n (l.map f)=xy:=by
 simp[Wo,h]
abbrev Zc:=List Int
@[simp]theorem qD(l:Zc):Wo 1 (l.map (V.int k))=xy:=Z7e λ_=>rfl
@[simp]theorem Zbe(n:Nat):Kl x (.int k (n:Int))=if n<=Y5 then xk (.sl (List.replicate n x))else xw:=by
 simp only[Kl];have:((n:Int)<=(Y5:Nat))↔n<=Y5:=Z0;simp[this]
@[simp]theorem Z7f(i j n:Nat):R9 n (.sl l) (.int k (i:Int)) (.int k (j:Int))=if i<=j/\j<=P l/\Wo n l=xy then xk (.sl ((l.take j).drop i))else xw:=by
 simp[R9]
@[simp]theorem Zcm(i o:Nat):Rh (.sl l) (.int k (i:Int)) o y=(l[i]?).bind λz=>if o+P y.cells<=P z.cells/\y.cells≠[]then xk (.sl (l.set i (z.put o y.cells)))else xw:=by
 simp[Rh]
end
abbrev vi(n:Int):V:=.int .i64 n
abbrev vu(n:Int):V:=.int .u64 n
@[simp]theorem Zbh(n:Nat):((n:Int)<0)↔False:=⟨λh=>absurd h (by omega),False.elim⟩
def Zy(n:Int)(d: -9223372036854775808<=n)(h2:n<=9223372036854775807):IntKind.i64.wrap n=n:=by
 rw[IntKind.wrap_i64];omega
end
end Vm
end
section
namespace Vm
open Go Go.ChangeShapes Go.WideShapes Go.ChangeAt Go.RowKit
section
def JX(P:Z4)(n:Nat):List Field->Nat->Bool
 | [],o=>o==n
 |f::l,o=>f.offset==o&&JX P n l (o+P.cellsOf f.type)
def Sc(P:Z4):Nat->TypeId->Bool
 |0,_=>xh
 |n+1,t=>match P.underlying t with
  |some .bool|some (.int _)|some .string=>xy
  |some (.slice e)=>Sc P n e&&decide (0<P.cellsOf e)
  |some (.struct a)=>JX P (P.cellsOf t) a.toList 0&&a.toList.all λf=>Sc P n f.type
  |some (.array m e)=>Sc P n e&&m*P.cellsOf e==P.cellsOf t
  |_=>xh
def Xq(P:Z4):Nat->TypeId->V->Prop
 |0,_,_=>False
 |n+1,t,x=>match P.underlying t with
  |some .bool=>∃b,x=.bool b
  |some (.int k)=>∃m,x=.int k m/\(Lit.int k m).wf=xy
  |some .string=>∃s,x=.str s/\s.size<=maxLen
  |some (.slice e)=>∃l,x=.sl l/\xq l<=maxLen/\∀y∈l,Xq P n e y
  |some (.struct d)=>∃a,x=.agg (flat a)/\xq a=xq d.toList/\∀(i:Nat) (f:Field) (y:V),d.toList[i]?=xk f->a[i]?=xk y->Xq P n f.type y
  |some (.array m e)=>∃a,x=.agg (flat a)/\xq a=m/\∀y∈a,Xq P n e y
  |_=>False
def RdC(w:Z3)(G:Z5)(cs:Zr)(vs:Zl):Prop:=
 P vs=P cs/\∀(i:Nat) (c:V),cs[i]?=xk c->c.one=xy/\∃u,vs[i]?=xk u/\Rd w G c u
def RdC.nil{w:Z3}{G:Z5}:RdC w G [] []:=⟨rfl,λi c h=>Zds⟩
def RdC.append{w:Z3}{G:Z5}{cs d:Zr}{vs f:Zl}(h:RdC w G cs vs)(h':RdC w G d f):RdC w G (cs++d) (vs++f):=by
 refine⟨by simp[h.1,h'.1],λi c g=> ?_⟩;rw[List.getElem?_append]at g⊢;rw[h.1];split at g;rename_i a;rw[if_pos a];exact h.2 i c g;rename_i a;rw[if_neg a];exact h'.2 _ c g
theorem RdC.one{w:Z3}{G:Z5}{c:V}{v:Z7}(a:c.one=xy)(h:Rd w G c v):RdC w G [c] [v]:=
 ⟨rfl,λi x d=>by
  grind⟩
def LP{α:Type}{Q:Nat->α->Prop}:∀(n:Nat),(∀i,i<n->∃y,Q i y)->∃l:List α,P l=n/\∀(i:Nat) (y:α),l[i]?=xk y->Q i y
 |0,_=>⟨[],rfl,λi y h=>Zds⟩
 |n+1,h=>by
  obtain⟨l,d,f⟩:=LP n λi o=>h i Z0;obtain⟨y,j⟩:=h n Z0;refine⟨l++[y],by simp[d],λi z a=> ?_⟩;rw[List.getElem?_append]at a;split at a;exact f i z a;rename_i g;rw[List.getElem?_singleton]at a;split at a;rename_i k;have:i=n:=Z0;subst this;simp only[ZdP]at a;subst a;exact j;cases a
def jv{w:Z3}{b:Nat}{a:Addr}{n:Nat}{cs:Zl}(h:w.cells? b a n=xk cs):P cs=n/\∀i,i<n->w.cell? (a.add i)=cs[i]? :=by
 unfold World.cells? at h;split at h;have d:=mapM_some_length h;rw[Zhz]at d;refine⟨d,λi f=>mapM_some_get h i i ?_⟩;simp_all;cases h
def Z0y{w:Z3}{a:Addr}{v:Z7}(h:w.cell? a=xk v):a.block<U (R w):=by
 grind [World.cell?,Nat.lt_or_ge]
def Ce{w:Z3}{G:Z5}:∀ {d:Zr} {a:List (List Value)},P a=P d->(∀(i:Nat) (y:V) (vs:Zl),d[i]?=xk y->a[i]?=xk vs->RdC w G y.cells vs)->RdC w G (flat d) a.flatten
 | [],[],_,_=>by simpa using RdC.nil
 | [],_::_,h,_=>Zds
 |_::_,[],h,_=>Zds
 |y::d,vs::a,h,f=>by
  rw[SN,List.flatten_cons];exact(f 0 y vs rfl rfl).append (Ce ZcN λi z g k j=>f (i+1) z g ZcN ZcN)
def Fm{P:Z4}{n:Nat}{cs:Zl}:∀ {l:List Field} {o:Nat},JX P n l o=xy->o<=n/\(xq cs=n->cs.drop o=(l.map λf=>(cs.drop f.offset).take (P.cellsOf f.type)).flatten)
 | [],o,h=>by
   simp_all[JX,Zez,ZdU]
 |f::l,o,h=>by
  simp only[JX,ZdS,Zez]at h;obtain⟨d,a⟩:=h;obtain⟨g,j⟩:=Fm (cs:=cs) a;refine⟨Z0,λk=> ?_⟩;grind [List.flatten_cons,List.drop_drop,List.take_append_drop]
def PB{cs:Zl}{k:Nat}:∀ {m:Nat},P cs=m*k->cs=((List.range m).map λi=>(cs.drop (i*k)).take k).flatten:=by
 have:∀(m:Nat) (cs:Zl),cs.take (m*k)=((List.range m).map λi=>(cs.drop (i*k)).take k).flatten:=by
  intro m;induction m with
  |zero=>simp
  |succ m d=>
   simp_all[Zg9,Zfe,List.flatten_append,Zfa,List.take_add]
 intro m h;have a:=this m cs;grind
section
abbrev ZcK:=Nat->Bool
variable {H:Type}{enc:TypeId×Value->H}{P:Z4}{w:Z3}{spare:ZcK}{held:Bool}
def yZ:∀ {n:Nat} {t:Z9} {D:Nat} {cs:Zl} {d:DataW H×List MemPlace},Sc P n t=xy->DataW.trod enc P w 0 spare held D t cs=xk d->
  ∃x,Xq P n t x/\RdC w (λb=>b<xz (xj w)) x.cells cs
 |0,t,D,cs,d,K,h=>by cases K
 |n+1,t,D,cs,d,K,h=>by
  unfold Sc at K;unfold Xq;split at K;rename_i N;obtain⟨b,rfl,_⟩:=DataW.trod_bool N h;exact⟨.bool b,⟨b,rfl⟩,.one rfl (.bool b)⟩;rename_i k N;obtain⟨m,rfl,_,hw⟩:=DataW.trod_int N h;exact⟨.int k m,⟨m,rfl,hw⟩,.one rfl (.int k m)⟩;rename_i N;obtain⟨s,rfl,_,hw⟩:=DataW.trod_string N h;exact⟨.str s,⟨s,rfl,hw⟩,.one rfl (.str s)⟩;rename_i e N;simp only[ZdS,Ze9]at K;obtain⟨L,A⟩:=K;obtain⟨rfl,_⟩|⟨a,len,cap,a6,b2,m,_,rfl,_,_,b4,a1,b3,F,_⟩:=DataW.trod_slice N h;exact⟨.sl [],⟨[],rfl,Z1,Z1⟩,.one rfl (.nil _ _ (ZeJ _))⟩;have I:∀i,i<len->∃y,Xq P n e y/\∃vs,w.cells? 0 (a.add (i*P.cellsOf e)) (P.cellsOf e)=xk vs/\RdC w (λb=>b<xz (xj w)) y.cells vs:=by
   intro i g;have r:=F i g;rw[ZdO Z0]at r;simp only[ZdN]at r;obtain⟨vs,B,C⟩:=r;obtain⟨y,p,M⟩:=yZ L C;exact⟨y,p,vs,B,M⟩
  obtain⟨l,a9,Y⟩:=LP len I;have b0:∀y∈l,Xq P n e y:=λy p=>by
   obtain⟨i,g⟩:=Zeg p;exact(Y i y g).1
  refine⟨.sl l,⟨l,rfl,Z0,b0⟩,.one rfl ?_⟩;cases a2:len with
  |zero=>
   have:l=[]:=ZeI Z0;subst this;exact .nil _ _ a1
  |succ b1=>
   obtain⟨b,o,X⟩:=a;have Z:X=xw:=by
    obtain⟨y,_,vs,O,_⟩:=I 0 Z0;obtain⟨r,B⟩:=jv O;have C:=B 0 A;rw[ZdO Z0]at C;have h4:=World.cell?_spot C;obtain _|s:=X;rfl;simp[Addr.add]at h4
   subst Z;have z:∀(i j:Nat) (y:V),l[i]?=xk y->j<P.cellsOf e->∃(u:Z7),w.cell? ⟨b,o+(i*P.cellsOf e+j),xw⟩=xk u/\∃c,y.cells[j]?=xk c/\c.one=xy/\Rd w (λb=>b<xz (xj w)) c u:=by
    intro i j y p W;obtain⟨_,vs,O,M⟩:=Y i y p;obtain⟨r,B⟩:=jv O;have C:=B j W;rw[Zfz,Zfz,ZdO Z0]at C;have a5:j<xq y.cells:=by rw[<-M.1];omega
    obtain⟨q1,u,q2,q3⟩:=M.2 j y.cells[j] (ZdO a5);rw[ZdO Z0,ZdP]at q2;subst q2;exact⟨_,by rw[<-Zf5];exact C,_,ZdO a5,q1,q3⟩
   have J:∀y∈l,y.fits (P.cellsOf e):=λy p=>by
    obtain⟨i,g⟩:=Zeg p;obtain⟨_,vs,O,M⟩:=Y i y g;refine⟨by rw[<-M.1,(jv O).1],λc hc=> ?_⟩;obtain⟨j,W⟩:=Zeg hc;exact(M.2 j c W).1
   have U:∀i,i<xq l*P.cellsOf e->∃y,l[i / P.cellsOf e]?=xk y/\i%P.cellsOf e<P.cellsOf e/\i=i / P.cellsOf e*P.cellsOf e+i%P.cellsOf e:=by
    intro i g;have r:i / P.cellsOf e<xq l:=(Zi4 A).2 g;exact⟨_,ZdO r,Zh4 _ A,by rw[Nat.mul_comm];exact(Nat.div_add_mod _ _).symm⟩
   have hb:b<xz (xj w):=by
    obtain⟨y,p⟩:∃y,l[0]?=xk y:=⟨_,ZdO Z0⟩;obtain⟨u,hu,_⟩:=z 0 0 y p A;exact Z0y hu
   have a3:=Rd.sl (w:=w) (G:=λb=>b<xz (xj w)) l b o cap (P.cellsOf e) (λi=>(w.cell? ⟨b,o+i,xw⟩).getD undef) Z0 a1 hb J (λi g=> ?_) (λi c g=> ?_);rw[a9,a2]at a3;exact a3;obtain⟨y,r,B,C⟩:=U i g;obtain⟨u,hu,_⟩:=z _ _ y r B;rw[<-C]at hu;rw[hu];rfl;have a8:i<xq l*P.cellsOf e:=by
    rw[<-TS J];exact(ZdQ.1 g).1
   obtain⟨y,r,B,C⟩:=U i a8;obtain⟨u,hu,c',a7,_,M⟩:=z _ _ y r B;rw[<-C]at hu;rw[C,VH J r _ B,a7]at g;cases g;simp only[hu,Zei];exact M
  rename_i fs N;simp only[ZdS,ZdZ]at K;obtain⟨L,A⟩:=K;obtain⟨xs,m,_,_,a0,a4,F⟩:=DataW.trod_struct N h;obtain⟨ys,R,S⟩:=LP (Q:=λi y=>∀f,fs.toList[i]?=xk f->Xq P n f.type y/\RdC w (λb=>b<xz (xj w)) y.cells ((cs.drop f.offset).take (P.cellsOf f.type))) (xq fs.toList) (by
   intro i g;have hf:fs.toList[i]?=xk fs.toList[i]:=ZdO g;have r:=F i fs.toList[i] Z1;rw[ZdO (by rw[a4];exact g)]at r;obtain⟨y,p,M⟩:=yZ (A _ (Ze5 g)) r;exact⟨y,λf B=>by rw[hf]at B;cases B;exact⟨p,M⟩⟩)
  refine⟨.agg (flat ys),⟨ys,rfl,R,λi f y hf p=>(S i y p f hf).1⟩,?_⟩;have T:=(Fm (cs:=cs) L).2 a0;rw[List.drop_zero]at T;rw[T];refine Ce (by simp[R]) λi y vs p O=> ?_;rw[Zed,ZdR]at O;obtain⟨f,hf,rfl⟩:=O;exact(S i y p f hf).2;rename_i m e N;simp only[ZdS,Zez]at K;obtain⟨L,A⟩:=K;obtain⟨xs,q,_,_,a0,a4,F⟩:=DataW.trod_array N h;obtain⟨ys,R,S⟩:=LP (Q:=λi y=>Xq P n e y/\RdC w (λb=>b<xz (xj w)) y.cells ((cs.drop (i*P.cellsOf e)).take (P.cellsOf e))) m (by
   intro i g;have r:=F i g;rw[ZdO Z0]at r;exact yZ L r)
  refine⟨.agg (flat ys),⟨ys,rfl,R,λy p=> ?_⟩,?_⟩;obtain⟨i,g⟩:=Zeg p;exact(S i y g).1;rw[PB (cs:=cs) (k:=P.cellsOf e) (m:=m) Z0];refine Ce (by simp[R]) λi y vs p O=> ?_;rw[Zed,ZdR]at O;obtain⟨j,W,rfl⟩:=O;have:j=i:=by
   rw[ZdQ]at W;obtain⟨_,W⟩:=W;simpa using W.symm
  subst this;exact(S j y p).2;cases K
def Z5R{n:Nat}{t:Z9}{v:Z7}{d:DataW H}{G:List MemPlace}{r:Reach}{F:Nat}(j:Sc P n t=xy)(a:Value.okWide P w r F t v)(h:DataW.Trod enc P w 0 spare held t v d G):
  ∃x,Xq P n t x/\Rd w (λb=>b<U (R w)) x v:=by
 obtain⟨C,h⟩:=h;obtain⟨x,g,l⟩:=yZ j h;refine⟨x,g,?_⟩;have o:∀ {c:V},x=c->c.cells=[c]->v.cells.toList=[v]->Rd w (λb=>b<U (R w)) x v:=by
  intro c z y B;subst z;rw[y,B]at l;obtain⟨_,u,p,D⟩:=l.2 0 x rfl;simp at p;subst p;exact D
 have K:∀ {q:Zr} {vs:Za},x=.agg q->v=.agg vs->Rd w (λb=>b<U (R w)) x v:=by
  intro q vs z B;subst z B;refine .agg q vs (by have:=l.1;simpa[Value.cells]using this) (λc y=> ?_) λi c A=> ?_;obtain⟨i,A⟩:=Zeg y;exact(l.2 i c A).1;obtain⟨_,u,p,D⟩:=l.2 i c A;have:vs.getD i undef=u:=by
   have I:vs[i]?=xk u:=by simpa[Value.cells]using p
   simp[ZdT,I]
  grind
 cases n with
 |zero=>cases j
 |succ n=>
  unfold Sc at j;unfold Xq at g;split at j;rename_i f;rw[f]at g;obtain⟨b,rfl⟩:=g;obtain⟨c,rfl⟩:=okWide_bool f a;exact o rfl rfl rfl;rename_i k f;rw[f]at g;obtain⟨b,rfl,_⟩:=g;obtain⟨c,rfl⟩:=okWide_int f a;exact o rfl rfl rfl;rename_i f;rw[f]at g;obtain⟨b,rfl,_⟩:=g;obtain⟨c,rfl⟩:=okWide_string f a;exact o rfl rfl rfl;rename_i e f;rw[f]at g;obtain⟨b,rfl,_⟩:=g;obtain⟨c,_,_,rfl⟩:=okWide_slice f a;exact o rfl rfl rfl;rename_i J f;rw[f]at g;obtain⟨b,rfl,_⟩:=g;simp only[Value.okWide,f]at a;grind;rename_i m e f;rw[f]at g;obtain⟨b,rfl,_⟩:=g;simp only[Value.okWide,f]at a;grind;cases j
def ML{n:Nat}{r:Reach}{G:Nat}:∀ {g:List TypeId} {vs:Zl} {o:List (DataW H)} {A:List MemPlace},DataW.TrodAll enc P w 0 spare held g vs o A->(∀t∈g,Sc P n t=xy)->
  (∀(j:Nat) t v,g[j]?=xk t->vs[j]?=xk v->Value.okWide P w r G t v)->
  ∃l:Zr,xq l=xq vs/\xq vs=xq g/\xq o=xq g/\(∀(i:Nat) (t:Z9) (x:V),g[i]?=xk t->l[i]?=xk x->Xq P n t x)/\∀(i:Nat) (x:V) (v:Z7),l[i]?=xk x->vs[i]?=xk v->Rd w (λb=>b<xz (xj w)) x v
 | [],vs,o,A,h,_,_=>by
   obtain⟨rfl,rfl,rfl⟩:=trodAll_nil h;simp
 |t::g,vs,o,A,h,F,a=>by
  obtain⟨v,R,d,I,p,q,rfl,rfl,rfl,J,K⟩:=trodAll_cons h;obtain⟨x,y,z⟩:=Z5R (F t Z1) (a 0 t v rfl rfl) J;obtain⟨l,L,M,Q,N,O⟩:=ML K (λt k=>F t (by simp[k])) λj B C k u=>a (j+1) B C ZcN ZcN;refine⟨x::l,by simp[L],by simp[M],by simp[Q],λi B D k f=> ?_,λi D C f u=> ?_⟩;cases i with
  |zero=>simp at k f;subst k f;exact y
  |succ i=>exact N i B D ZcN Zd9
  cases i with
  |zero=>simp at u f;subst u f;exact z
  |succ i=>exact O i D C Zd9 ZcN
def Eg{W n:Z3}(r:laidOutB P=xy)(o:Below (U (R W)) W n):∀ {j:List TypeId} {vs:Zl} {g:List (DataW H)} {f:List MemPlace},DataW.TrodAll enc P W 0 (λ_=>xy) xy j vs g f->
  (∀t∈j,P.readableRec t=xy/\t<P.types.size)->(∀x∈f,x.block<U (R W))->DataW.TrodAll enc P n 0 (λb=>decide (b<U (R W))) xy j vs g f
 | [],vs,g,f,h,_,_=>by
   obtain⟨rfl,rfl,rfl⟩:=trodAll_nil h;rfl
 |t::j,vs,g,f,h,k,a=>by
  obtain⟨v,B,d,u,p,q,rfl,rfl,rfl,y,z⟩:=trodAll_cons h;exact trodAll_cons_mk (Below.trod r (k t Z1).1 (k t Z1).2 y o λx l=>a x (by simp[l])) (Eg r o z (λt A=>k t (by simp[A])) λx l=>a x (by simp[l]))
end
def Z30{P:Z4} [Lg P]{f:Zp}{fn:Func}{s:ChangeSpec}{tb:Z9}(n:Nat)(S:laidOutB P=xy)(F:(fn.params.toList.all λt=>Sc P n t)=xy)(l:(fn.params.toList.all λt=>P.readableRec t&&decide (t<P.types.size))=xy)
  (d:s.vars=[]) (y:fn.resultTypes=#[tb]) (Q:P.underlying tb=xk .bool)
  (k:∀(H:Type) (ds:List (DataW H)),xq ds=xq fn.params.toList->s.fn H ds= {results:=[.lit (.bool xy)],args:=ds})
  (r:∀A:Zr,xq A=xq fn.params.toList->(∀(i:Nat) (t:Z9) (x:V),fn.params.toList[i]?=xk t->A[i]?=xk x->Xq P n t x)->VC P f xh A (.bool xy))
  (H:Type) (enc:TypeId×Value->H) (W:Z3) (base:Nat) (args:Za) (ds gs:List (DataW H)) (a:List MemPlace)
  (z:∀(j:Nat) t v,fn.params[j]?=xk t->args[j]?=xk v->Value.okWide P W .any base t v)
  (C:DataW.Whole enc P fn.params.toList s.vars xh W args.toList ds gs a):
  Lg.calls P f args W λe J=>∃v,e=.returned v/\s.post enc P fn xh xy xh xh W args v J:=by
 have u:∀x∈a,x.block<xz (xj W):=λx B=>by simpa using C.lt x B
 have o:=C;obtain⟨p,q,K,L,rfl,_,_⟩:=C;rw[d]at L;obtain⟨rfl,rfl⟩:=trodVars_none L;rw[Zfp]at u o;obtain⟨A,O,T,Z,U,X⟩:=ML (n:=n) K (ZdZ.1 F) λj t v N Y=>z j t v ZcN ZcN;obtain⟨_,I⟩:=r A (by rw[O,T]) U;refine Lg.calls_mono (I W (λb=>b<xz (xj W)) args (λb h=>h) ZcN λi x B=> ?_) λe J R=> ?_;have M:i<xq args.toList:=by rw[<-O];exact(ZdQ.1 B).1
 have:args.getD i undef=args.toList[i]:=by
  have D:i<args.size:=by simpa using M
  simp[ZdT,D]
 rw[this];exact X i x _ B (ZdO M);obtain⟨v,rfl,g,G⟩:=R;cases G;refine⟨_,rfl,ds,[],p,[],p,[],o,?_,?_,?_,g.frame _,λh=>ZcY⟩;rw[k H _ ZcN,y];exact trodAll_mk1 (shut_bool Q xy);rw[k H _ ZcN,Zfp];exact Eg S g K (λt N=>by simpa using ZdZ.1 l t N) u;rw[d,k H _ ZcN];rfl
def GY{α:Type}{enc:α->V}{Q:α->Prop}:∀ {l:Zr},(∀y∈l,∃a,y=enc a/\Q a)->∃d:List α,l=d.map enc/\∀a∈d,Q a
 | [],_=>⟨[],rfl,Z1⟩
 |y::l,h=>by
  obtain⟨a,rfl,g⟩:=h y Z1;obtain⟨d,rfl,j⟩:=GY (l:=l) λz k=>h z (Zeu _ k);exact⟨a::d,rfl,λb f=>by
   obtain rfl|f:=Zec.1 f;exact g;exact j b f⟩
def NX{P:Z4}{n:Nat}{t:Z9}{x:V}{k:Zm}(d:P.underlying t=xk (.int k))(h:Xq P (n+1) t x):∃m,x=.int k m/\k.min<=m/\m<=k.max:=by
 unfold Xq at h;rw[d]at h;obtain⟨m,rfl,a⟩:=h;simp only[Lit.wf,ZdS,Ze9]at a;exact⟨m,rfl,a⟩
def D5{P:Z4}{n:Nat}{t e:Z9}{x:V}{α:Type}{enc:α->V}{Q:α->Prop}(g:P.underlying t=xk (.slice e))(h:Xq P (n+1) t x)(f:∀y,Xq P n e y->∃a,y=enc a/\Q a):∃l:List α,x=.sl (l.map enc)/\xq l<=maxLen/\∀a∈l,Q a:=by
 unfold Xq at h;rw[g]at h;obtain⟨l,rfl,k,d⟩:=h;obtain⟨p,rfl,o⟩:=GY λy j=>f y (d y j);grind
def NY{P:Z4}{n:Nat}{t:Z9}{x:V}{fs:Array Field}(d:P.underlying t=xk (.struct fs))(h:Xq P (n+1) t x):∃a,x=.agg (flat a)/\xq a=xq fs.toList/\∀(i:Nat) (f:Field) (y:V),fs.toList[i]?=xk f->a[i]?=xk y->Xq P n f.type y:=by
 simp_all[Xq]
end
end Vm
end
section
namespace Vm
open Go
open Go.Proofs
section
def VR(s:St):List (Nat×SV)->St
 | []=>s
 |(i,x)::l=>VR (YD s i x) l
@[simp]theorem ZbX(s:St):VR s []=s:=rfl
@[simp]theorem ZbW(s:St)(i:Nat)(x:SV)(l:List (Nat×SV)):VR s ((i,x)::l)=VR (YD s i x) l:=rfl
section
variable {P:Z4}[Lg P]{K K':St->Prop}
def Oz(d:∀s,K s->K' s){t:St}:∀ {l:List (Nat×OV)} {u:St},VX l t u K->VX l t u K'
 | [],_,h=>d _ h
 | (i,o)::l,u,h=>by
   simp only[VX]at h⊢;split;rename_i x a;rw[a]at h;exact Oz d h;rename_i a;rw[a]at h;exact h
def Rl(g:∀s,K s->K' s):∀ {l:List EF} {s:St},YP P l s K->YP P l s K'
 | [],_,h=>g _ h
 | .lt i C e::l,s,h=>by
   simp only[YP]at h⊢;split;rename_i a;rw[if_pos a]at h;split;rename_i x d;rw[d]at h;exact Rl g h;rename_i d;rw[d]at h;exact h;rename_i a;rw[if_neg a]at h;exact Rl g h
 | .call i C f u fl t::l,s,h=>by
   simp only[YP]at h⊢;split;rename_i a;rw[if_pos a]at h;split;rename_i x n d k;rw[d,k]at h;obtain⟨r,j,o,p⟩:=h;exact⟨r,j,o,Rl g p⟩;rename_i q;split at h;rename_i x n d k;exact(q x n d k).elim;exact h;rename_i a;rw[if_neg a]at h;exact Rl g h
 | .callm i C f w t::l,s,h=>by
   simp only[YP]at h⊢;split;rename_i a;rw[if_pos a]at h;split;rename_i x n d k;rw[d,k]at h;obtain⟨r,j,p⟩:=h;exact⟨r,j,Rl g p⟩;rename_i d;split at h;rename_i x n j o;exact(d x n j o).elim;exact h;rename_i a;rw[if_neg a]at h;split at h;exact Rl g h;exact Rl g h;exact h.elim
def Rm:∀ {a:Stm} {s:St} {N p R q:St->Prop} {X u:Nat->St->Prop},Yr P a s N X R->(∀s,N s->p s)->(∀i s,X i s->u i s)->(∀s,R s->q s)->Yr P a s p u q
 |.reg r,s,_,_,_,_,_,_,h,d,_,_=>Rl (λt j=>⟨j.1,Oz d j.2⟩) h
 |.skip,s,_,_,_,_,_,_,h,d,_,_=>d _ h
 |.seq a b,s,_,_,_,_,_,_,h,d,g,f=>Rm (a:=a) (s:=s) h (λt j=>Rm (a:=b) (s:=t) j d g f) g f
 | .cond c a b,s,_,_,_,_,_,_,h,d,g,f=>by
   simp only[Yr]at h⊢;split;rename_i k;rw[k]at h;exact Rm h d g f;rename_i k;rw[k]at h;exact Rm h d g f;rename_i l n;split at h;rename_i k;exact(l k).elim;rename_i k;exact(n k).elim;exact h
 | .block id a,s,_,_,_,_,_,_,h,d,g,f=>Rm (a:=a) (s:=s) h d (λi t j=>by
   split;rename_i o;rw[if_pos o]at j;exact d _ j;rename_i o;rw[if_neg o]at j;exact g _ _ j) f
 | .loop w a,s,_,_,_,_,_,_,h,d,g,f=>by
   obtain⟨I,m,l,n⟩:=h;exact⟨I,m,l,λt j=>Rm (a:=a) (s:=t) (n t j) (λ_ h=>h) g f⟩
 |.exit id,s,_,_,_,_,_,_,h,_,g,_=>g _ _ h
 |.ret,s,_,_,_,_,_,_,h,_,_,f=>f _ h
end
def Sz{P:Z4} [Lg P]{keep:Zd}{a:Stm}{s:St}{N R:St->Prop}{X:Nat->St->Prop}{ι:Type}(L:ι->List (Nat×SV))(Inv:ι->Prop)(m:St->Nat)(d:ι)
  (g:YZ keep s=VR (YZ keep s) (L d)) (k:Inv d)
  (j:∀p,Inv p->Yr P a (VR (YZ keep s) (L p)) (λf=>∃q,Inv q/\YZ keep f=VR (YZ keep s) (L q)/\m (VR (YZ keep s) (L q))<m (VR (YZ keep s) (L p))) X R):
  Yr P (.loop keep a) s N X R:=by
 refine⟨λt=>∃p,Inv p/\t=VR (YZ keep s) (L p),m,⟨d,k,g⟩,?_⟩;rintro t ⟨p,o,rfl⟩;refine Rm (j p o) (λf u=> ?_) (λ_ _ h=>h) (λ_ h=>h);obtain⟨q,r,l,n⟩:=u;rw[l];exact⟨⟨q,r,rfl⟩,n⟩
def Xm(c:Nat)(n:Nat)(t:St):Nat:=match get t c with|.v (.int _ k)=>n-k.toNat|_=>0
def Vh{P:Z4} [Lg P]{keep:Zd}{a:Stm}{s:St}{N R:St->Prop}{X:Nat->St->Prop}(c n:Nat)(L:Nat->List (Nat×SV))(Inv:Z5)
  (g:YZ keep s=VR (YZ keep s) (L 0)) (hc:∀i,get (VR (YZ keep s) (L i)) c=.v (vi i)) (k:Inv 0)
  (j:∀i,i<=n->Inv i->Yr P a (VR (YZ keep s) (L i)) (λf=>i<n/\Inv (i+1)/\YZ keep f=VR (YZ keep s) (L (i+1))) X R):
  Yr P (.loop keep a) s N X R:=by
 refine Sz L (λi=>i<=n/\Inv i) (Xm c n) 0 g ⟨Z0,k⟩ ?_;rintro i ⟨o,q⟩;refine Rm (j i o q) (λf p=> ?_) (λ_ _ h=>h) (λ_ h=>h);obtain⟨h,d,l⟩:=p;refine⟨i+1,⟨Z0,d⟩,l,?_⟩;simp only[Xm,hc];simp;omega
def Ln{P:Z4} [Lg P]{keep:Zd}{a:Stm}{s:St}{N R:St->Prop}{X:Nat->St->Prop}(c n:Nat)(Inv:Z5)
  (d:YZ keep s=YD (YZ keep s) c (.v (vi 0))) (hc:∀x,get (YD (YZ keep s) c x) c=x) (g:Inv 0)
  (f:∀i,i<=n->Inv i->Yr P a (YD (YZ keep s) c (.v (vi i))) (λh=>i<n/\Inv (i+1)/\YZ keep h=YD (YZ keep s) c (.v (vi (i+1)))) X R):
  Yr P (.loop keep a) s N X R:=
 Vh c n (λi=>[(c,.v (vi i))]) Inv d (λi=>hc _) g f
end
def KJ:Fn:=⟨5,[0,2,3,5,12],
pQ [pR [pV 1 (pU 0),pV 2 (pI 0)],pQ [pR [pV 3 (.bin .eql (.s 0) (pU 0))]] (.cond (.s 3) (pQ [pR [pV 1 (pU 0),pV 2 (pI 6)]] .ret) .skip),pQ [.reg ⟨[.lt 5 [] (.bin .eql (.bin .rem (.s 0) (pU 2)) (pU 0))],[([(5,xh)],.bin .eql (.s 0) (pU 1))],[pV 4 (.ite (.s 5) pT (.bin .eql (.s 0) (pU 1)))]⟩] (.cond (.s 4) (pQ [pR [pV 1 (pU 0),pV 2 (pI 3)]] .ret) .skip),pR [pV 1 (.bin .quo (.s 0) (pU 2)),pV 2 (pI 0)]] .ret,[(1,.v),(2,.v)]⟩
def c44:ZM Sol.prog fresh sig [.fz] [] Try.f44=xk KJ:=Z2
def M1:Fn:=⟨5,[0,2,3,4,20],
pQ [pR [(1,.m [pI 0,pI 0]),pV 2 (pI 0)],pR [(3,pM (.ag [.conv .i64 (.bin .rem (.bin .shr (.s 0) (pU 1)) (pU 65536)),.conv .i64 (.bin .shr (.s 0) (pU 17))]) 2)],pQ [.reg ⟨[.lt 5 [] (.bin .neq (.bin .rem (.s 0) (pU 2)) (pU 0)),.call 6 [(5,xh)] (.id 94) xh xh [.mm 3 0 2]],[([(5,xh)],.un .not (.s 6))],[pV 4 (.ite (.s 5) pT (.un .not (.s 6)))]⟩] (.cond (.s 4) (pQ [pR [(1,pM (.ag [pI 0,pI 0]) 2),pV 2 (pI 3)]] .ret) .skip),pR [(1,pM (.mm 3 0 2) 2),pV 2 (pI 0)]] .ret,[(1,(.ag 2)),(2,.v)]⟩
def c69:ZM Sol.prog fresh sig [.fz] [] Try.f69=xk M1:=Z2
def M9:Fn:=⟨3,[0,1,2],
pQ [pR [(1,pS 0 2),pV 2 pF],.reg ⟨[.lt 3 [] (.bin .geq (.m 1 0) (pI 0)),.lt 4 [] (.ite (.s 3) (.bin .leq (.m 1 0) (pI 255)) pF),.lt 5 [] (.ite (.s 4) (.bin .geq (.m 1 1) (pI 0)) pF)],[([(3,xy)],.bin .leq (.m 1 0) (pI 255)),([(4,xy)],.bin .geq (.m 1 1) (pI 0)),([(5,xy)],.bin .leq (.m 1 1) (.m 1 0))],[pV 2 (.ite (.s 5) (.bin .leq (.m 1 1) (.m 1 0)) pF)]⟩] .ret,[(2,.v)]⟩
def c94:ZM Sol.prog fresh sig [.fz] [] Try.f94=xk M9:=Z2
def yJ:Fn:=⟨4,[0,2,3,9],
pQ [pR [pV 1 (pU 0),pV 2 (pI 0)],pQ [.reg ⟨[.lt 4 [] (.bin .lss (.s 0) (pU 1))],[([(4,xh)],.bin .gtr (.s 0) (pU 9223372036854775807))],[pV 3 (.ite (.s 4) pT (.bin .gtr (.s 0) (pU 9223372036854775807)))]⟩] (.cond (.s 3) (pQ [pR [pV 1 (pU 0),pV 2 (pI 1)]] .ret) .skip),pR [pV 1 (.bin .add (.bin .mul (pU 2) (.s 0)) (pU 1)),pV 2 (pI 0)]] .ret,[(1,.v),(2,.v)]⟩
def c95:ZM Sol.prog fresh sig [.fz] [] Try.f95=xk yJ:=Z2
def Ma:Fn:=⟨6,[0,1,2,3,4,8],
pQ [pR [(1,pS 0 2),pV 2 (pU 0),pV 3 (pI 0)],pC [pK 6 116 [.mm 1 0 2]] [pV 4 (.s 6)],pQ [pR [pV 5 (.un .not (.s 4))]] (.cond (.s 5) (pQ [pR [pV 2 (pU 0),pV 3 (pI 1)]] .ret) .skip),pR [pV 2 (.bin .mul (pU 2) (.bin .add (.conv .u64 (.m 1 0)) (.bin .mul (pU 65536) (.conv .u64 (.m 1 1))))),pV 3 (pI 0)]] .ret,[(2,.v),(3,.v)]⟩
def c99:ZM Sol.prog fresh sig [.fz] [] Try.f99=xk Ma:=Z2
def yF:Fn:=⟨4,[0,2,3,9],
pQ [pR [pV 1 (pU 0),pV 2 (pI 0)],pQ [.reg ⟨[.lt 4 [] (.bin .lss (.s 0) (pU 1))],[([(4,xh)],.bin .gtr (.s 0) (pU 9223372036854775807))],[pV 3 (.ite (.s 4) pT (.bin .gtr (.s 0) (pU 9223372036854775807)))]⟩] (.cond (.s 3) (pQ [pR [pV 1 (pU 0),pV 2 (pI 1)]] .ret) .skip),pR [pV 1 (.bin .add (.bin .mul (pU 2) (.s 0)) (pU 1)),pV 2 (pI 0)]] .ret,[(1,.v),(2,.v)]⟩
def u5:ZM Sol.prog fresh sig [.fz] [] Try.f101=xk yF:=Z2
def Ix:Fn:=⟨3,[0,1,2],
pQ [pR [(1,pS 0 2),pV 2 pF],.reg ⟨[.lt 3 [] (.bin .geq (.m 1 0) (pI 0)),.lt 4 [] (.ite (.s 3) (.bin .leq (.m 1 0) (pI 255)) pF),.lt 5 [] (.ite (.s 4) (.bin .geq (.m 1 1) (pI 0)) pF)],[([(3,xy)],.bin .leq (.m 1 0) (pI 255)),([(4,xy)],.bin .geq (.m 1 1) (pI 0)),([(5,xy)],.bin .leq (.m 1 1) (.m 1 0))],[pV 2 (.ite (.s 5) (.bin .leq (.m 1 1) (.m 1 0)) pF)]⟩] .ret,[(2,.v)]⟩
def Z04:ZM Sol.prog fresh sig [.fz] [] Try.f116=xk Ix:=Z2
end Vm
end
section
namespace Vm
open Go Go.Proofs
def Yt(n:Int):Prop:= -9223372036854775808<=n/\n<=9223372036854775807
def ZC(n:Int):Prop:=0<=n/\n<18446744073709551616
def ZZ(n:Int)(a:0<=n)(h2:n<=18446744073709551615):IntKind.u64.wrap n=n:=by
 rw[IntKind.wrap_u64];omega
def Yh{α:Type}{l:List α}{i:Nat}{x:α}(h:l[i]?=xk x):∀a:i<P l,l[i]'a=x:=λa=>by
 rw[ZdO a]at h;exact Zfy h
def Yz(size ptrs:Int):Bool:=decide (0<=size)&&decide (size<=255)&&decide (0<=ptrs)&&decide (ptrs<=size)
theorem YM{s p:Int}:Yz s p=xy↔0<=s/\s<=255/\0<=p/\p<=s:=by simp[Yz,and_assoc]
abbrev Jk(s p:Int):V:=.agg [vi s,vi p]
def MZ{s p:Int}:VC Sol.prog 94 xh [Jk s p] (.bool (Yz s p)):=by
 refine Y2 Sol.func94 follows Z2 c94 rfl ?_;by_cases a:0<=s<;>by_cases d:s<=255<;>by_cases f:0<=p<;>by_cases g:p<=s<;>simp[M9,Yz,a,d,f,g]
def Z62{s p:Int}:VC Sol.prog 116 xh [Jk s p] (.bool (Yz s p)):=by
 refine Y2 Sol.func116 follows Z2 Z04 rfl ?_;by_cases a:0<=s<;>by_cases d:s<=255<;>by_cases f:0<=p<;>by_cases g:p<=s<;>simp[Ix,Yz,a,d,f,g]
def adr(w:Int):Int×Int:=if w=0 then(0,6)else if w%2=0\/w=1 then(0,3)else(w / 2,0)
def Jz{w:Int}(l:ZC w):VC Sol.prog 44 xh [vu w] (.tup [vu (adr w).1,vi (adr w).2]):=by
 refine Y2 Sol.func44 follows Z2 c44 rfl ?_;obtain⟨f,n⟩:=l;have d:w.tmod 2=w%2:=Zfb f;have j:w.tdiv 2=w / 2:=Zhi f;have k:=ZZ (w / 2) Z0 Z0;by_cases a:w=0;simp[KJ,adr,a];by_cases g:w%2=0;simp[KJ,adr,a,d,g];by_cases h:w=1;subst h;simp[KJ,adr];simp[KJ,adr,a,d,j,g,h,k]
def XN(a:Int):Int×Int:=if a<1\/9223372036854775807<a then(0,1)else(2*a+1,0)
def Z5s{a:Int}(j:ZC a):VC Sol.prog 95 xh [vu a] (.tup [vu (XN a).1,vi (XN a).2]):=by
 refine Y2 Sol.func95 follows Z2 c95 rfl ?_;obtain⟨k,l⟩:=j;by_cases d:a<1;simp[yJ,XN,d];by_cases f:9223372036854775807<a;simp[yJ,XN,d,f];have g:=ZZ (2*a) Z0 Z0;have h:=ZZ (2*a+1) Z0 Z0;simp[yJ,XN,d,f,g,h]
def Z5Z{a:Int}(j:ZC a):VC Sol.prog 101 xh [vu a] (.tup [vu (XN a).1,vi (XN a).2]):=by
 refine Y2 Sol.func101 follows Z2 u5 rfl ?_;obtain⟨k,l⟩:=j;by_cases d:a<1;simp[yF,XN,d];by_cases f:9223372036854775807<a;simp[yF,XN,d,f];have g:=ZZ (2*a) Z0 Z0;have h:=ZZ (2*a+1) Z0 Z0;simp[yF,XN,d,f,g,h]
def Uv(s p:Int):Int×Int:=if Yz s p then(2*(s+65536*p),0)else(0,1)
def Z5Y{s p:Int}:VC Sol.prog 99 xh [Jk s p] (.tup [vu (Uv s p).1,vi (Uv s p).2]):=by
 refine Y2 Sol.func99 follows Z2 c99 rfl ?_;simp[Ma];refine Zz Z62 Z1 ?_;cases h:Yz s p;simp[Uv,h];obtain⟨k,l,n,o⟩:=YM.1 h;have a:=ZZ s Z0 Z0;have d:=ZZ p Z0 Z0;have f:=ZZ (65536*p) Z0 Z0;have g:=ZZ (s+65536*p) Z0 Z0;have j:=ZZ (2*(s+65536*p)) Z0 Z0;simp[Uv,h,a,d,f,g,j]
def ZS(w:Int):Int×Int×Int:=if w%2=0/\Yz (w / 2%65536) (w / 131072)=xy then(w / 2%65536,w / 131072,0)else(0,0,3)
def O2{w:Int}(l:ZC w):VC Sol.prog 69 xh [vu w] (.tup [Jk (ZS w).1 (ZS w).2.1,vi (ZS w).2.2]):=by
 refine Y2 Sol.func69 follows Z2 c69 rfl ?_;obtain⟨k,r⟩:=l;have p:w.fdiv (2 ^ min 1 IntKind.u64.bits)=w / 2:=by
  rw[show(2:Int) ^ min 1 IntKind.u64.bits=2 by decide];exact Zhh _ Z0
 have q:w.fdiv (2 ^ min 17 IntKind.u64.bits)=w / 131072:=by
  rw[show(2:Int) ^ min 17 IntKind.u64.bits=131072 by decide];exact Zhh _ Z0
 have n:=ZZ (w / 2) Z0 Z0;have o:=ZZ (w / 131072) Z0 Z0;have f:w.tmod 2=w%2:=Zfb k;have g:(w / 2).tmod 65536=w / 2%65536:=Zfb Z0;have h:=Zy (w / 2%65536) Z0 Z0;have j:=Zy (w / 131072) Z0 Z0;simp[M1,Xk,p,q,f,g,h,j,n,o];by_cases a:w%2=0;simp[a];refine Zz MZ Z1 ?_;cases d:Yz (w / 2%65536) (w / 131072);simp[ZS,a,d];simp[ZS,a,d];simp[a,ZS]
end Vm
end
section
namespace Vm
open Go
open Go.Proofs
def IM:Fn:=⟨11,[0,1,2,3,4,5,6,12,7,8,28],
pQ [pR [(2,pS 0 7),(3,pS 1 2),pV 4 (pU 0),pV 5 (pI 0)],pC [pK 11 62 [.mm 2 0 7]] [pV 6 (.s 11)],pQ [pR [pV 7 (.un .not (.s 6))]] (.cond (.s 7) (pQ [pR [pV 4 (pU 0),pV 5 (pI 1)]] .ret) .skip),pC [pK 12 63 [.mm 2 0 7,.m 3 0]] [pV 8 (.ext (.s 12) 0),pV 9 (.ext (.s 12) 1)],pQ [.reg ⟨[.lt 13 [] (.bin .lss (.m 3 1) (pI 0))],[([(13,xh)],.bin .geq (.m 3 1) (.s 9))],[pV 10 (.ite (.s 13) pT (.bin .geq (.m 3 1) (.s 9)))]⟩] (.cond (.s 10) (pQ [pR [pV 4 (pU 0),pV 5 (pI 6)]] .ret) .skip),pR [pV 4 (.bin .add (.s 8) (.conv .u64 (.m 3 1))),pV 5 (pI 0)]] .ret,[(4,.v),(5,.v)]⟩
def c31:ZM Sol.prog fresh sig [.fz,.fz] [] Try.f31=xk IM:=Z2
def IX:Fn:=⟨5,[0,1,2,35,53],
pQ [pR [(1,pS 0 7),pV 2 pF],pQ [.reg ⟨[.lt 5 [] (.bin .lss (.m 1 0) (pU 1)),.lt 6 [] (.ite (.s 5) pT (.bin .lss (.m 1 1) (pI 0))),.lt 7 [] (.ite (.s 6) pT (.bin .gtr (.m 1 1) (pI 4096))),.lt 8 [] (.ite (.s 7) pT (.bin .gtr (.m 1 0) (.bin .sub (pU 9223372036854775808) (.bin .mul (pU 2) (.conv .u64 (.m 1 1)))))),.lt 9 [] (.ite (.s 8) pT (.bin .lss (.m 1 2) (pI 0)))],[([(5,xh)],.bin .lss (.m 1 1) (pI 0)),([(6,xh)],.bin .gtr (.m 1 1) (pI 4096)),([(7,xh)],.bin .gtr (.m 1 0) (.bin .sub (pU 9223372036854775808) (.bin .mul (pU 2) (.conv .u64 (.m 1 1))))),([(8,xh)],.bin .lss (.m 1 2) (pI 0)),([(9,xh)],.bin .gtr (.m 1 2) (pI 1))],[pV 3 (.ite (.s 9) pT (.bin .gtr (.m 1 2) (pI 1)))]⟩] (.cond (.s 3) (pQ [pR [pV 2 pF]] .ret) .skip),pQ [.reg ⟨[.lt 10 [] (.bin .lss (.m 1 3) (pI 0)),.lt 11 [] (.ite (.s 10) pT (.bin .lss (.m 1 4) (pI 0))),.lt 12 [] (.ite (.s 11) pT (.bin .lss (.m 1 5) (pI 0)))],[([(10,xh)],.bin .lss (.m 1 4) (pI 0)),([(11,xh)],.bin .lss (.m 1 5) (pI 0)),([(12,xh)],.bin .lss (.m 1 6) (pI 0))],[pV 4 (.ite (.s 12) pT (.bin .lss (.m 1 6) (pI 0)))]⟩] (.cond (.s 4) (pQ [pR [pV 2 pF]] .ret) .skip),.reg ⟨[.lt 13 [] (.bin .leq (.m 1 3) (.m 1 1)),.lt 14 [] (.ite (.s 13) (.bin .leq (.m 1 4) (.bin .sub (.m 1 1) (.m 1 3))) pF),.lt 15 [] (.ite (.s 14) (.bin .leq (.m 1 5) (.m 1 1)) pF)],[([(13,xy)],.bin .leq (.m 1 4) (.bin .sub (.m 1 1) (.m 1 3))),([(14,xy)],.bin .leq (.m 1 5) (.m 1 1)),([(15,xy)],.bin .leq (.m 1 6) (.bin .sub (.m 1 1) (.m 1 5)))],[pV 2 (.ite (.s 15) (.bin .leq (.m 1 6) (.bin .sub (.m 1 1) (.m 1 5))) pF)]⟩] .ret,[(2,.v)]⟩
def c62:ZM Sol.prog fresh sig [.fz] [] Try.f62=xk IX:=Z2
def BA:Fn:=⟨12,[0,1,2,4,5,6,7,28,27,33,45,50],
pQ [pR [(2,pS 0 7),pV 3 (pU 0),pV 4 (pI 0)],pR [pV 5 (.bin .add (.m 2 0) (.conv .u64 (.bin .mul (.m 2 2) (.m 2 1))))],pR [pV 6 (.bin .add (.m 2 0) (.conv .u64 (.bin .mul (.bin .sub (pI 1) (.m 2 2)) (.m 2 1))))],pQ [pR [pV 8 (.s 1)]] (.block 0 (pQ [pR [pV 7 (.bin .eql (.s 8) (pI 1))]] (.cond (.s 7) (pQ [pR [pV 3 (.s 5),pV 4 (.m 2 3)]] .ret) (pQ [pR [pV 9 (.bin .eql (.s 8) (pI 2))]] (.cond (.s 9) (pQ [pR [pV 3 (.bin .add (.s 5) (.conv .u64 (.bin .sub (.m 2 1) (.m 2 4)))),pV 4 (.m 2 4)]] .ret) (pQ [pR [pV 10 (.bin .eql (.s 8) (pI 3))]] (.cond (.s 10) (pQ [pR [pV 3 (.s 6),pV 4 (.m 2 5)]] .ret) (pQ [pR [pV 11 (.bin .eql (.s 8) (pI 4))]] (.cond (.s 11) (pQ [pR [pV 3 (.bin .add (.s 6) (.conv .u64 (.bin .sub (.m 2 1) (.m 2 6)))),pV 4 (.m 2 6)]] .ret) .skip))))))))),pR [pV 3 (pU 0),pV 4 (pI 0)]] .ret,[(3,.v),(4,.v)]⟩
def Eu:ZM Sol.prog fresh sig [.fz,.fz] [] Try.f63=xk BA:=Z2
def IZ:Fn:=⟨4,[0,1,2,25],
pQ [pR [(1,pS 0 7),pV 2 pF],pQ [.reg ⟨[.lt 4 [] (.bin .lss (.m 1 1) (pI 0)),.lt 5 [] (.ite (.s 4) pT (.bin .gtr (.m 1 1) (pI 4096))),.lt 6 [] (.ite (.s 5) pT (.bin .lss (.m 1 0) (pU 1)))],[([(4,xh)],.bin .gtr (.m 1 1) (pI 4096)),([(5,xh)],.bin .lss (.m 1 0) (pU 1)),([(6,xh)],.bin .gtr (.m 1 0) (.bin .sub (pU 9223372036854775808) (.bin .mul (pU 2) (.conv .u64 (.m 1 1)))))],[pV 3 (.ite (.s 6) pT (.bin .gtr (.m 1 0) (.bin .sub (pU 9223372036854775808) (.bin .mul (pU 2) (.conv .u64 (.m 1 1))))))]⟩] (.cond (.s 3) (pQ [pR [pV 2 pF]] .ret) .skip),.reg ⟨[.lt 7 [] (.bin .eql (.m 1 2) (pI 0)),.lt 8 [] (.ite (.s 7) pT (.bin .eql (.m 1 2) (pI 1))),.call 9 [(8,xy)] (.id 91) xh xh [.m 1 3,.m 1 4,.m 1 1],.lt 10 [] (.ite (.s 8) (.s 9) pF),.call 11 [(10,xy)] (.id 91) xh xh [.m 1 5,.m 1 6,.m 1 1]],[([(7,xh)],.bin .eql (.m 1 2) (pI 1))],[pV 2 (.ite (.s 10) (.s 11) pF)]⟩] .ret,[(2,.v)]⟩
def c65:ZM Sol.prog fresh sig [.fz] [] Try.f65=xk IZ:=Z2
def M0:Fn:=⟨12,[0,1,2,4,5,10,14,15,7,6,13,31],
pQ [pR [(2,pS 0 7),(3,.m [pI 0,pI 0]),pV 4 (pI 0)],pQ [pC [pK 12 65 [.mm 2 0 7]] [pV 5 (.un .not (.s 12))]] (.cond (.s 5) (pQ [pR [(3,pM (.ag [pI 0,pI 0]) 2),pV 4 (pI 1)]] .ret) .skip),pQ [pC [pK 10 93 [.mm 2 0 7]] [pV 6 (pI 0)]] (.block 0 (.loop [0,1,2,3,4,5,6,10] (pQ [pR [pV 7 (.bin .lss (.s 6) (pI 4))],.cond (.s 7) .skip (.exit 0),.block 1 (pQ [pR [(8,pM (.sz (.ai (.s 10) (.s 6) 4 2 xy) 2) 2),pV 9 (.s 6)],.reg ⟨[.lt 13 [] (.bin .geq (.s 1) (.m 8 0))],[([(13,xy)],.bin .lss (.bin .sub (.s 1) (.m 8 0)) (.conv .u64 (.m 8 1)))],[pV 11 (.ite (.s 13) (.bin .lss (.bin .sub (.s 1) (.m 8 0)) (.conv .u64 (.m 8 1))) pF)]⟩] (.cond (.s 11) (pQ [pR [(3,pM (.ag [.bin .add (.s 9) (pI 1),.conv .i64 (.bin .sub (.s 1) (.m 8 0))]) 2),pV 4 (pI 0)]] .ret) .skip))] (pR [pV 6 (.bin .add (.s 6) (pI 1))])))),pR [(3,pM (.ag [pI 0,pI 0]) 2),pV 4 (pI 6)]] .ret,[(3,(.ag 2)),(4,.v)]⟩
def c67:ZM Sol.prog fresh sig [.fz,.fz] [] Try.f67=xk M0:=Z2
def M2:Fn:=⟨4,[0,1,2,5],
pQ [pR [(1,pS 0 7),pV 2 (pI 0)],pQ [pC [pK 4 65 [.mm 1 0 7]] [pV 3 (.un .not (.s 4))]] (.cond (.s 3) (pQ [pR [pV 2 (pI 0)]] .ret) .skip),pR [pV 2 (.bin .sub (.bin .sub (.m 1 1) (.m 1 3)) (.m 1 4))]] .ret,[(2,.v)]⟩
def c70:ZM Sol.prog fresh sig [.fz] [] Try.f70=xk M2:=Z2
def M4:Fn:=⟨10,[0,1,2,3,4,5,9,17,6,33],
pQ [pR [(2,pS 0 7),(3,pS 1 2),pV 4 (pU 0),pV 5 (pI 0)],pQ [pC [pK 10 65 [.mm 2 0 7]] [pV 6 (.un .not (.s 10))]] (.cond (.s 6) (pQ [pR [pV 4 (pU 0),pV 5 (pI 1)]] .ret) .skip),pQ [.reg ⟨[.lt 11 [] (.bin .lss (.m 3 0) (pI 1))],[([(11,xh)],.bin .gtr (.m 3 0) (pI 4))],[pV 7 (.ite (.s 11) pT (.bin .gtr (.m 3 0) (pI 4)))]⟩] (.cond (.s 7) (pQ [pR [pV 4 (pU 0),pV 5 (pI 6)]] .ret) .skip),pC [pK 12 93 [.mm 2 0 7]] [(8,pM (.sz (.ai (.s 12) (.bin .sub (.m 3 0) (pI 1)) 4 2 xy) 2) 2)],pQ [.reg ⟨[.lt 13 [] (.bin .lss (.m 3 1) (pI 0))],[([(13,xh)],.bin .geq (.m 3 1) (.m 8 1))],[pV 9 (.ite (.s 13) pT (.bin .geq (.m 3 1) (.m 8 1)))]⟩] (.cond (.s 9) (pQ [pR [pV 4 (pU 0),pV 5 (pI 6)]] .ret) .skip),pR [pV 4 (.bin .add (.m 8 0) (.conv .u64 (.m 3 1))),pV 5 (pI 0)]] .ret,[(4,.v),(5,.v)]⟩
def c75:ZM Sol.prog fresh sig [.fz,.fz] [] Try.f75=xk M4:=Z2
def yI:Fn:=⟨4,[0,1,2,6],
pQ [pR [pV 3 pF],.reg ⟨[.lt 4 [] (.bin .geq (.s 0) (pI 0)),.lt 5 [] (.ite (.s 4) (.bin .geq (.s 1) (pI 0)) pF),.lt 6 [] (.ite (.s 5) (.bin .leq (.s 0) (.s 2)) pF)],[([(4,xy)],.bin .geq (.s 1) (pI 0)),([(5,xy)],.bin .leq (.s 0) (.s 2)),([(6,xy)],.bin .leq (.s 1) (.bin .sub (.s 2) (.s 0)))],[pV 3 (.ite (.s 6) (.bin .leq (.s 1) (.bin .sub (.s 2) (.s 0))) pF)]⟩] .ret,[(3,.v)]⟩
def c91:ZM Sol.prog fresh sig [.fz,.fz,.fz] [] Try.f91=xk yI:=Z2
def M8:Fn:=⟨3,[0,1,2],
pQ [pR [(1,pS 0 7),(2,.m [pU 0,pI 0,pU 0,pI 0,pU 0,pI 0,pU 0,pI 0])],pC [pK 3 113 [.mm 1 0 7,pI 1],pK 4 113 [.mm 1 0 7,pI 2],pK 5 113 [.mm 1 0 7,pI 3],pK 6 113 [.mm 1 0 7,pI 4]] [(2,pM (.ag [.fld (.ag [.one (.s 3),.m 1 3]) 0,.fld (.ag [.one (.s 3),.m 1 3]) 1,.fld (.ag [.one (.s 4),.m 1 4]) 0,.fld (.ag [.one (.s 4),.m 1 4]) 1,.fld (.ag [.one (.s 5),.m 1 5]) 0,.fld (.ag [.one (.s 5),.m 1 5]) 1,.fld (.ag [.one (.s 6),.m 1 6]) 0,.fld (.ag [.one (.s 6),.m 1 6]) 1]) 8)]] .ret,[(2,(.ag 8))]⟩
def c93:ZM Sol.prog fresh sig [.fz] [] Try.f93=xk M8:=Z2
def KH:Fn:=⟨10,[0,1,2,4,5,9,8,11,13,15],
pQ [pR [(2,pS 0 7),pV 3 (pU 0)],pR [pV 4 (.m 2 0)],pQ [pR [pV 6 (.s 1)]] (.block 0 (pQ [.block 4 (pQ [.block 3 (pQ [.block 2 (pQ [.block 1 (pQ [pQ [pQ [pR [pV 5 (.bin .eql (.s 6) (pI 2))]] (.cond (.s 5) (.exit 1) .skip),pQ [pR [pV 7 (.bin .eql (.s 6) (pI 1))]] (.cond (.s 7) (.exit 2) .skip),pQ [pR [pV 8 (.bin .eql (.s 6) (pI 4))]] (.cond (.s 8) (.exit 3) .skip),pR [pV 9 (.bin .eql (.s 6) (pI 3))]] (.cond (.s 9) (.exit 4) .skip)] (.exit 0))] (pR [pV 4 (.bin .add (.s 4) (.conv .u64 (.bin .sub (.m 2 1) (.m 2 4))))])),pR [pV 4 (.bin .add (.s 4) (.conv .u64 (.bin .mul (.m 2 2) (.m 2 1))))]] (.exit 0))] (pR [pV 4 (.bin .add (.s 4) (.conv .u64 (.bin .sub (.m 2 1) (.m 2 6))))])),pR [pV 4 (.bin .add (.s 4) (.conv .u64 (.bin .mul (.bin .sub (pI 1) (.m 2 2)) (.m 2 1))))]] (.exit 0))),pR [pV 3 (.s 4)]] .ret,[(3,.v)]⟩
def Z03:ZM Sol.prog fresh sig [.fz,.fz] [] Try.f113=xk KH:=Z2
end Vm
end
section
namespace Vm
open Go Go.Proofs
structure Ly where
 base:Int
 cap:Int
 to:Int
 low:Int
 high:Int
 old:Int
 far:Int
 deriving DecidableEq,Inhabited
def X8(l:Ly):V:=.agg [vu l.base,vi l.cap,vi l.to,vi l.low,vi l.high,vi l.old,vi l.far]
@[simp]theorem Zce(l:Ly):Vz (X8 l) 7=xk (X8 l):=rfl
@[simp]theorem Zba(l:Ly):(X8 l).cells=[vu l.base,vi l.cap,vi l.to,vi l.low,vi l.high,vi l.old,vi l.far]:=rfl
@[simp]theorem Zah(l:Ly):Y0 (X8 l) 0=xk (vu l.base):=rfl
@[simp]theorem Zai(l:Ly):Y0 (X8 l) 1=xk (vi l.cap):=rfl
@[simp]theorem Zaj(l:Ly):Y0 (X8 l) 2=xk (vi l.to):=rfl
@[simp]theorem Zak(l:Ly):Y0 (X8 l) 3=xk (vi l.low):=rfl
@[simp]theorem Zal(l:Ly):Y0 (X8 l) 4=xk (vi l.high):=rfl
@[simp]theorem Zam(l:Ly):Y0 (X8 l) 5=xk (vi l.old):=rfl
@[simp]theorem Zan(l:Ly):Y0 (X8 l) 6=xk (vi l.far):=rfl
def Ly.fits(l:Ly):Prop:=ZC l.base/\Yt l.cap/\Yt l.to/\Yt l.low/\Yt l.high/\Yt l.old/\Yt l.far
def TH(a b words:Int):Bool:=decide (0<=a)&&decide (0<=b)&&decide (a<=words)&&decide (b<=words-a)
def ZI(l:Ly):Bool:=decide (0<=l.cap)&&decide (l.cap<=4096)&&decide (1<=l.base)&&decide (l.base<=9223372036854775808-2*l.cap)&&(decide (l.to=0)||decide (l.to=1))&&TH l.low l.high l.cap&&TH l.old l.far l.cap
theorem WB{l:Ly}:ZI l=xy↔0<=l.cap/\l.cap<=4096/\1<=l.base/\l.base<=9223372036854775808-2*l.cap/\(l.to=0\/l.to=1)/\(0<=l.low/\0<=l.high/\l.low<=l.cap/\l.high<=l.cap-l.low)/\(0<=l.old/\0<=l.far/\l.old<=l.cap/\l.far<=l.cap-l.old):=by
 simp[ZI,TH,and_assoc]
theorem Vf{l:Ly}:ZI l=xh↔ ¬(0<=l.cap/\l.cap<=4096/\1<=l.base/\l.base<=9223372036854775808-2*l.cap/\(l.to=0\/l.to=1)/\(0<=l.low/\0<=l.high/\l.low<=l.cap/\l.high<=l.cap-l.low)/\(0<=l.old/\0<=l.far/\l.old<=l.cap/\l.far<=l.cap-l.old)):=by
 grind [WB]
def Oo{a b w:Int}(h:Yt a)(n:Yt b)(j:Yt w):VC Sol.prog 91 xh [vi a,vi b,vi w] (.bool (TH a b w)):=by
 refine Y2 Sol.func91 follows Z2 c91 rfl ?_;obtain⟨k,l⟩:=h;obtain⟨w1,w2⟩:=j;by_cases d:0<=a;by_cases f:a<=w;have e:=Zy (w-a) Z0 Z0;simp_all[yI,TH];by_cases g:0<=b<;>simp[yI,TH,d,f,g];simp[yI,TH,d]
def L4{l:Ly}(y:l.fits):VC Sol.prog 65 xh [X8 l] (.bool (ZI l)):=by
 refine Y2 Sol.func65 follows Z2 c65 rfl ?_;obtain⟨⟨u,w⟩,x,B,p,q,r,t⟩:=y;obtain⟨d,c2⟩:=x;simp[IZ];by_cases g1:l.cap<0;grind [ZI,Vf];by_cases g2:4096<l.cap;grind [ZI,Vf];by_cases k:l.base<1;grind [ZI,Vf];have f:=ZZ l.cap Z0 Z0;have g:=ZZ (2*l.cap) Z0 Z0;have j:=ZZ (9223372036854775808-2*l.cap) Z0 Z0;by_cases n:9223372036854775808-2*l.cap<l.base;grind [ZI,Vf];by_cases a:l.to=0\/l.to=1
 .have k1:=Oo p q ⟨d,c2⟩;have A:=Oo r t ⟨d,c2⟩;have z:ZI l=(TH l.low l.high l.cap&&TH l.old l.far l.cap):=by
   obtain h|h:=a<;>simp[ZI,show 0<=l.cap by omega,show l.cap<=4096 by omega,show 1<=l.base by omega,show l.base<=9223372036854775808-2*l.cap by omega,h]
  rw[z];obtain a|a:=a;all_goals
   cases o:TH l.low l.high l.cap;rw[o]at k1;simp[g1,g2,k,f,g,j,n,a];refine Zz k1 Z1 ?_;simp;rw[o]at k1;simp[g1,g2,k,f,g,j,n,a];refine Zz k1 Z1 ?_;simp;refine Zz A Z1 ?_;simp
 simp_all[ZI,Vf]
def Z63{l:Ly}(j:l.fits):VC Sol.prog 62 xh [X8 l] (.bool (ZI l)):=by
 refine Y2 Sol.func62 follows Z2 c62 rfl ?_;obtain⟨⟨f,g⟩,h,y,a,w,d,x⟩:=j;obtain⟨k,c2⟩:=h;simp[IX];by_cases q:l.base<1;grind [ZI,Vf];by_cases g1:l.cap<0;grind [ZI,Vf];by_cases g2:4096<l.cap;grind [ZI,Vf];have n:=ZZ l.cap Z0 Z0;have o:=ZZ (2*l.cap) Z0 Z0;have p:=ZZ (9223372036854775808-2*l.cap) Z0 Z0;by_cases r:9223372036854775808-2*l.cap<l.base;grind [ZI,Vf];by_cases t:l.to<0;grind [ZI,Vf];by_cases u:1<l.to;grind [ZI,Vf];by_cases D:l.low<0;grind [ZI,Vf];by_cases F:l.high<0;grind [ZI,Vf];by_cases G:l.old<0;grind [ZI,Vf];by_cases H:l.far<0;grind [ZI,Vf];obtain⟨z,A⟩:=a;obtain⟨B,C⟩:=d;have w1:=Zy (l.cap-l.low) Z0 Z0;have w2:=Zy (l.cap-l.old) Z0 Z0;grind [ZI,WB,Vf]
def Xx(l:Ly):Int:=if ZI l then l.cap-l.low-l.high else 0
def Z6l{l:Ly}(a:l.fits):VC Sol.prog 70 xh [X8 l] (vi (Xx l)):=by
 refine Y2 Sol.func70 follows Z2 c70 rfl ?_;simp[M2];refine Zz (L4 a) Z1 ?_;cases h:ZI l;simp[Xx,h];have g:=WB.1 h;have d:=Zy (l.cap-l.low) Z0 Z0;have f:=Zy (l.cap-l.low-l.high) Z0 Z0;simp_all[Xx]
def ZB(l:Ly)(part:Int):Int:=
 if part=1 then l.base+l.to*l.cap else if part=2 then l.base+l.to*l.cap+(l.cap-l.high)else if part=3 then l.base+(1-l.to)*l.cap else l.base+(1-l.to)*l.cap+(l.cap-l.far)
def X0(l:Ly)(part:Int):Int:=if part=1 then l.low else if part=2 then l.high else if part=3 then l.old else l.far
def qL{l:Ly}(a:ZI l=xy):(l.to*l.cap=0/\(1-l.to)*l.cap=l.cap)\/(l.to*l.cap=l.cap/\(1-l.to)*l.cap=0):=by
 grind [WB]
theorem WG{l:Ly}(a:ZI l=xy)(k:Int):1<=ZB l k/\ZB l k+X0 l k<=9223372036854775808/\0<=X0 l k/\X0 l k<=4096:=by
 have h:=WB.1 a;have d:=qL a;unfold ZB X0;omega
def zf{l:Ly}(d:ZI l=xy){k:Int}(t:1<=k/\k<=4):VC Sol.prog 113 xh [X8 l,vi k] (vu (ZB l k)):=by
 refine Y2 Sol.func113 follows Z2 Z03 rfl ?_;have h:=WB.1 d;have u:=qL d;have w1:=Zy (l.to*l.cap) Z0 Z0;have w2:=Zy (1-l.to) Z0 Z0;have w3:=Zy ((1-l.to)*l.cap) Z0 Z0;have w4:=Zy (l.cap-l.high) Z0 Z0;have r:=Zy (l.cap-l.far) Z0 Z0;have f:=ZZ (l.to*l.cap) Z0 Z0;have g:=ZZ ((1-l.to)*l.cap) Z0 Z0;have j:=ZZ (l.cap-l.high) Z0 Z0;have n:=ZZ (l.cap-l.far) Z0 Z0;have v1:=ZZ (l.base+l.to*l.cap) Z0 Z0;have o:=ZZ (l.base+(l.cap-l.high)) Z0 Z0;have p:=ZZ (l.base+(l.cap-l.high)+l.to*l.cap) Z0 Z0;have v4:=ZZ (l.base+(1-l.to)*l.cap) Z0 Z0;have q:=ZZ (l.base+(l.cap-l.far)) Z0 Z0;have v6:=ZZ (l.base+(l.cap-l.far)+(1-l.to)*l.cap) Z0 Z0;have a:k=1\/k=2\/k=3\/k=4:=Z0;obtain rfl|rfl|rfl|rfl:=a;simp[KH,Jt,ZB,w1,f,v1];simp[KH,Jt,ZB,w1,f,w4,j,o,p];omega;simp[KH,Jt,ZB,w2,w3,g,v4];simp[KH,Jt,ZB,w2,w3,g,r,n,q,v6];omega
def WT(l:Ly):V:=.agg [vu (ZB l 1),vi l.low,vu (ZB l 2),vi l.high,vu (ZB l 3),vi l.old,vu (ZB l 4),vi l.far]
def NF{l:Ly}(a:ZI l=xy):VC Sol.prog 93 xh [X8 l] (WT l):=by
 refine Y2 Sol.func93 follows Z2 c93 rfl ?_;simp[M8];refine Zz (zf a (k:=1) Z0) (by simp[X8]) ?_;simp;refine Zz (zf a (k:=2) Z0) (by simp[X8]) ?_;simp;refine Zz (zf a (k:=3) Z0) (by simp[X8]) ?_;simp;refine Zz (zf a (k:=4) Z0) (by simp[X8]) ?_;simp[WT]
@[simp]theorem L8(l:Ly):X0 l 1=l.low:=rfl
@[simp]theorem L9(l:Ly):X0 l 2=l.high:=rfl
@[simp]theorem La(l:Ly):X0 l 3=l.old:=rfl
@[simp]theorem Lb(l:Ly):X0 l 4=l.far:=rfl
def Y4(l:Ly)(part at_:Int):Int×Int:=
 if ZI l=xh then(0,1)else if part<1\/4<part then(0,6)else if at_<0\/X0 l part<=at_ then(0,6)else(ZB l part+at_,0)
def DN{l:Ly}(p:l.fits){part at_:Int}:VC Sol.prog 75 xh [X8 l,.agg [vi part,vi at_]] (.tup [vu (Y4 l part at_).1,vi (Y4 l part at_).2]):=by
 refine Y2 Sol.func75 follows Z2 c75 rfl ?_;simp[M4];refine Zz (L4 p) Z1 ?_;cases d:ZI l;simp[Y4,d];simp;by_cases k:part<1;grind [Y4];by_cases n:4<part;simp_all[Y4];have o:part=1\/part=2\/part=3\/part=4:=Z0;simp[k,n];refine Zz (NF d) Z1 ?_;obtain rfl|rfl|rfl|rfl:=o;have a:=WG d 1;simp only[L8]at a;simp[WT,Y9,Zy];by_cases f:at_<0;grind [Y4];by_cases g:l.low<=at_;simp_all[Y4];have h:=ZZ at_ Z0 Z0;have j:=ZZ (ZB l 1+at_) Z0 Z0;simp_all[Y4];have a:=WG d 2;simp only[L9]at a;simp[WT,Y9,Zy];by_cases f:at_<0;grind [Y4];by_cases g:l.high<=at_;simp_all[Y4];have h:=ZZ at_ Z0 Z0;have j:=ZZ (ZB l 2+at_) Z0 Z0;simp_all[Y4];have a:=WG d 3;simp only[La]at a;simp[WT,Y9,Zy];by_cases f:at_<0;grind [Y4];by_cases g:l.old<=at_;simp_all[Y4];have h:=ZZ at_ Z0 Z0;have j:=ZZ (ZB l 3+at_) Z0 Z0;simp_all[Y4];have a:=WG d 4;simp only[Lb]at a;simp[WT,Y9,Zy];by_cases f:at_<0;grind [Y4];by_cases g:l.far<=at_;simp_all[Y4];have h:=ZZ at_ Z0 Z0;have j:=ZZ (ZB l 4+at_) Z0 Z0;simp_all[Y4]
def q8{l:Ly}(d:ZI l=xy){k:Int}(r:1<=k/\k<=4):VC Sol.prog 63 xh [X8 l,vi k] (.tup [vu (ZB l k),vi (X0 l k)]):=by
 refine Y2 Sol.func63 follows Z2 Eu rfl ?_;have h:=WB.1 d;have t:=qL d;have w1:=Zy (l.to*l.cap) Z0 Z0;have w2:=Zy (1-l.to) Z0 Z0;have w3:=Zy ((1-l.to)*l.cap) Z0 Z0;have w4:=Zy (l.cap-l.high) Z0 Z0;have q:=Zy (l.cap-l.far) Z0 Z0;have f:=ZZ (l.to*l.cap) Z0 Z0;have g:=ZZ ((1-l.to)*l.cap) Z0 Z0;have j:=ZZ (l.cap-l.high) Z0 Z0;have n:=ZZ (l.cap-l.far) Z0 Z0;have v1:=ZZ (l.base+l.to*l.cap) Z0 Z0;have o:=ZZ (l.base+l.to*l.cap+(l.cap-l.high)) Z0 Z0;have v4:=ZZ (l.base+(1-l.to)*l.cap) Z0 Z0;have p:=ZZ (l.base+(1-l.to)*l.cap+(l.cap-l.far)) Z0 Z0;have a:k=1\/k=2\/k=3\/k=4:=Z0;obtain rfl|rfl|rfl|rfl:=a;all_goals simp[BA,Jt,ZB,w1,f,w2,w3,g,w4,j,q,n,v1,o,v4,p]
def Z5W{l:Ly}(d:ZI l=xy){k:Int}(a:k<1\/4<k):VC Sol.prog 63 xh [X8 l,vi k] (.tup [vu 0,vi 0]):=by
 refine Y2 Sol.func63 follows Z2 Eu rfl ?_;simp[BA,Jt,show k≠1 by omega,show k≠2 by omega,show k≠3 by omega,show k≠4 by omega]
def Z5V{l:Ly}(p:l.fits){part at_:Int}:VC Sol.prog 31 xh [X8 l,.agg [vi part,vi at_]] (.tup [vu (Y4 l part at_).1,vi (Y4 l part at_).2]):=by
 refine Y2 Sol.func31 follows Z2 c31 rfl ?_;simp[IM];refine Zz (Z63 p) Z1 ?_;cases a:ZI l;simp[Y4,a];simp;by_cases n:part<1\/4<part;refine Zz (Z5W a n) Z1 ?_;by_cases d:at_<0;simp[Y4,a,n,d];simp[Y4,a,n,d,show 0<=at_ by omega];have o:part=1\/part=2\/part=3\/part=4:=Z0;obtain rfl|rfl|rfl|rfl:=o;have g:=WG a 1;simp only[L8]at g;refine Zz (q8 a (k:=1) Z0) Z1 ?_;by_cases d:at_<0;simp[Y4,a,d];by_cases f:l.low<=at_;simp[Y4,a,d,f];have h:=ZZ at_ Z0 Z0;have j:=ZZ (ZB l 1+at_) Z0 Z0;simp[Y4,a,d,f,h,j];have g:=WG a 2;simp only[L9]at g;refine Zz (q8 a (k:=2) Z0) Z1 ?_;by_cases d:at_<0;simp[Y4,a,d];by_cases f:l.high<=at_;simp[Y4,a,d,f];have h:=ZZ at_ Z0 Z0;have j:=ZZ (ZB l 2+at_) Z0 Z0;simp[Y4,a,d,f,h,j];have g:=WG a 3;simp only[La]at g;refine Zz (q8 a (k:=3) Z0) Z1 ?_;by_cases d:at_<0;simp[Y4,a,d];by_cases f:l.old<=at_;simp[Y4,a,d,f];have h:=ZZ at_ Z0 Z0;have j:=ZZ (ZB l 3+at_) Z0 Z0;simp[Y4,a,d,f,h,j];have g:=WG a 4;simp only[Lb]at g;refine Zz (q8 a (k:=4) Z0) Z1 ?_;by_cases d:at_<0;simp[Y4,a,d];by_cases f:l.far<=at_;simp[Y4,a,d,f];have h:=ZZ at_ Z0 Z0;have j:=ZZ (ZB l 4+at_) Z0 Z0;simp[Y4,a,d,f,h,j]
def X7(l:Ly)(a k:Int):Bool:=decide (ZB l k<=a)&&decide (a<ZB l k+X0 l k)
theorem TZ{l:Ly}{a k:Int}:X7 l a k=xy↔ZB l k<=a/\a<ZB l k+X0 l k:=by simp[X7]
def zL{l:Ly}{a k:Int}:X7 l a k=xh↔ ¬(ZB l k<=a/\a<ZB l k+X0 l k):=by grind [TZ]
def Ye(l:Ly)(a:Int):Int×Int×Int:=
 if ZI l=xh then(0,0,1)else if X7 l a 1 then(1,a-ZB l 1,0)else if X7 l a 2 then(2,a-ZB l 2,0)else if X7 l a 3 then(3,a-ZB l 3,0)else if X7 l a 4 then(4,a-ZB l 4,0)else(0,0,6)
def Z13{l:Ly}(x:l.fits){a:Int}(w:ZC a):VC Sol.prog 67 xh [X8 l,vu a] (.tup [.agg [vi (Ye l a).1,vi (Ye l a).2.1],vi (Ye l a).2.2]):=by
 refine Y2 Sol.func67 follows Z2 c67 rfl ?_;simp[M0];refine Zz (L4 x) Z1 ?_;cases o:ZI l;simp[Ye,o];obtain⟨z,A⟩:=w;simp;refine Zz (NF o) (by simp[X8]) ?_;simp;have r:∀k,1<=ZB l k/\ZB l k+X0 l k<=9223372036854775808/\0<=X0 l k/\X0 l k<=4096:=λk=>WG o k;have w1:=r 1;have w2:=r 2;have w3:=r 3;have w4:=r 4;simp only[L8,L9,La,Lb]at w1 w2 w3 w4;refine Ln 6 4 (λi=>(0<i->X7 l a 1=xh)/\(1<i->X7 l a 2=xh)/\(2<i->X7 l a 3=xh)/\(3<i->X7 l a 4=xh)) Z1 Z1 Z1 ?_;rintro i B ⟨n,p,t,y⟩;have u:i=0\/i=1\/i=2\/i=3\/i=4:=Z0;obtain rfl|rfl|rfl|rfl|rfl:=u;have h:=ZZ l.low Z0 Z0;by_cases f:ZB l 1<=a;have j:=ZZ (a-ZB l 1) Z0 Z0;by_cases g:a-ZB l 1<l.low;have q:=Zy (a-ZB l 1) Z0 Z0;have d:X7 l a 1=xy:=TZ.2 ⟨f,by rw[L8];omega⟩;simp[WT,Y9,Zy,f,h,j,g,q,Ye,o,d];have d:X7 l a 1=xh:=zL.2 (by rw[L8];omega);simp[WT,Y9,Zy,f,h,j,g,d];have d:X7 l a 1=xh:=by simp[X7,f]
 simp[WT,Y9,Zy,f,d];have h:=ZZ l.high Z0 Z0;by_cases f:ZB l 2<=a;have j:=ZZ (a-ZB l 2) Z0 Z0;by_cases g:a-ZB l 2<l.high;have q:=Zy (a-ZB l 2) Z0 Z0;have d:X7 l a 2=xy:=TZ.2 ⟨f,by rw[L9];omega⟩;simp[WT,Y9,Zy,f,h,j,g,q,Ye,o,d,n Z0];have d:X7 l a 2=xh:=zL.2 (by rw[L9];omega);simp[WT,Y9,Zy,f,h,j,g,d,n Z0];have d:X7 l a 2=xh:=by simp[X7,f]
 simp[WT,Y9,Zy,f,d,n Z0];have h:=ZZ l.old Z0 Z0;by_cases f:ZB l 3<=a;have j:=ZZ (a-ZB l 3) Z0 Z0;by_cases g:a-ZB l 3<l.old;have q:=Zy (a-ZB l 3) Z0 Z0;have d:X7 l a 3=xy:=TZ.2 ⟨f,by rw[La];omega⟩;simp[WT,Y9,Zy,f,h,j,g,q,Ye,o,d,n Z0,p Z0];have d:X7 l a 3=xh:=zL.2 (by rw[La];omega);simp[WT,Y9,Zy,f,h,j,g,d,n Z0,p Z0];have d:X7 l a 3=xh:=by simp[X7,f]
 simp[WT,Y9,Zy,f,d,n Z0,p Z0];have h:=ZZ l.far Z0 Z0;by_cases f:ZB l 4<=a;have j:=ZZ (a-ZB l 4) Z0 Z0;by_cases g:a-ZB l 4<l.far;have q:=Zy (a-ZB l 4) Z0 Z0;have d:X7 l a 4=xy:=TZ.2 ⟨f,by rw[Lb];omega⟩;simp[WT,Y9,Zy,f,h,j,g,q,Ye,o,d,n Z0,p Z0,t Z0];have d:X7 l a 4=xh:=zL.2 (by rw[Lb];omega);simp[WT,Y9,Zy,f,h,j,g,d,n Z0,p Z0,t Z0];have d:X7 l a 4=xh:=by simp[X7,f]
 simp[WT,Y9,Zy,f,d,n Z0,p Z0,t Z0];simp[Ye,o,n Z0,p Z0,t Z0,y Z0]
end Vm
end
section
namespace Vm
open Go
open Go.Proofs
def yG:Fn:=⟨8,[0,1,2,4,6,5,10,14],
pQ [pR [(2,pS 0 10),pV 3 pN],pQ [pR [pV 5 (.s 1)]] (.block 0 (pQ [pR [pV 4 (.bin .eql (.s 5) (pI 1))]] (.cond (.s 4) (pQ [pR [pV 3 (.m 2 5)]] .ret) (pQ [pR [pV 6 (.bin .eql (.s 5) (pI 2))]] (.cond (.s 6) (pQ [pR [pV 3 (.m 2 6)]] .ret) (pQ [pR [pV 7 (.bin .eql (.s 5) (pI 3))]] (.cond (.s 7) (pQ [pR [pV 3 (.m 2 7)]] .ret) .skip))))))),pR [pV 3 (.m 2 8)]] .ret,[(3,.v)]⟩
def c28:ZM Sol.prog fresh sig [.fz,.fz] [] Try.f28=xk yG:=Z2
def yH:Fn:=⟨9,[0,1,2,3,6,10,7,14,18],
pQ [pR [(3,pS 0 10),(4,pZ)],pQ [pR [pV 6 (.s 1)]] (.block 0 (pQ [pR [pV 5 (.bin .eql (.s 6) (pI 1))]] (.cond (.s 5) (pR [(3,.m [.m 3 0,.m 3 1,.m 3 2,.m 3 3,.m 3 4,.one (.s 2),.m 3 6,.m 3 7,.m 3 8,.m 3 9])]) (pQ [pR [pV 7 (.bin .eql (.s 6) (pI 2))]] (.cond (.s 7) (pR [(3,.m [.m 3 0,.m 3 1,.m 3 2,.m 3 3,.m 3 4,.m 3 5,.one (.s 2),.m 3 7,.m 3 8,.m 3 9])]) (pQ [pR [pV 8 (.bin .eql (.s 6) (pI 3))]] (.cond (.s 8) (pR [(3,.m [.m 3 0,.m 3 1,.m 3 2,.m 3 3,.m 3 4,.m 3 5,.m 3 6,.one (.s 2),.m 3 8,.m 3 9])]) (pR [(3,.m [.m 3 0,.m 3 1,.m 3 2,.m 3 3,.m 3 4,.m 3 5,.m 3 6,.m 3 7,.one (.s 2),.m 3 9])])))))))),pR [(4,pM (.mm 3 0 10) 10)]] .ret,[(4,(.ag 10))]⟩
def c29:ZM Sol.prog fresh sig [.fz,.fz,.fz] [] Try.f29=xk yH:=Z2
def IN:Fn:=⟨3,[0,1,2],
pQ [pR [(1,pS 0 10),(2,.m [pU 0,pI 0,pI 0,pI 0,pI 0,pI 0,pI 0])],pR [(2,pM (.ag [.m 1 0,.m 1 1,.m 1 2,.len (.m 1 5),.len (.m 1 6),.len (.m 1 7),.len (.m 1 8)]) 7)]] .ret,[(2,(.ag 7))]⟩
def c32:ZM Sol.prog fresh sig [.fz] [] Try.f32=xk IN:=Z2
def IQ:Fn:=⟨10,[0,1,2,3,4,39,5,41,6,52],
pQ [pR [(2,pS 0 10),(3,pS 1 10),pV 4 pF],pQ [.reg ⟨[.lt 10 [] (.bin .neq (.m 2 0) (.m 3 0)),.lt 11 [] (.ite (.s 10) pT (.bin .neq (.m 2 1) (.m 3 1))),.lt 12 [] (.ite (.s 11) pT (.bin .neq (.m 2 2) (.m 3 2))),.lt 13 [] (.ite (.s 12) pT (.eqv xy (.m 2 3) (.m 3 3)))],[([(10,xh)],.bin .neq (.m 2 1) (.m 3 1)),([(11,xh)],.bin .neq (.m 2 2) (.m 3 2)),([(12,xh)],.eqv xy (.m 2 3) (.m 3 3)),([(13,xh)],.bin .neq (.m 2 4) (.m 3 4))],[pV 5 (.ite (.s 13) pT (.bin .neq (.m 2 4) (.m 3 4)))]⟩] (.cond (.s 5) (pQ [pR [pV 4 pF]] .ret) .skip),pQ [pR [pV 6 (pI 1)]] (.block 0 (.loop [0,1,2,3,4,5,6] (pQ [pQ [pR [pV 7 (.bin .leq (.s 6) (pI 4))]] (.cond (.s 7) .skip (.exit 0)),.block 1 (pQ [pC [pK 14 28 [.mm 2 0 10,.s 6],pK 15 28 [.mm 3 0 10,.s 6],pK 16 49 [.s 14,.s 15]] [pV 8 (.s 16)],pR [pV 9 (.un .not (.s 8))]] (.cond (.s 9) (pQ [pR [pV 4 pF]] .ret) .skip))] (pR [pV 6 (.bin .add (.s 6) (pI 1))])))),pC [pK 17 49 [.m 2 9,.m 3 9]] [pV 4 (.s 17)]] .ret,[(4,.v)]⟩
def c40:ZM Sol.prog fresh sig [.fz,.fz] [] Try.f40=xk IQ:=Z2
def By:Fn:=⟨7,[0,1,4,10,5,14,25],
pQ [pR [pV 2 pF],pQ [pR [pV 3 (.bin .neq (.len (.s 0)) (.len (.s 1)))]] (.cond (.s 3) (pQ [pR [pV 2 pF]] .ret) .skip),pQ [pR [pV 4 (pI 0)]] (.block 0 (.loop [0,1,2,3,4] (pQ [pQ [pR [pV 5 (.bin .lss (.s 4) (.len (.s 0)))]] (.cond (.s 5) .skip (.exit 0)),.block 1 (pQ [pR [pV 6 (.bin .neq (.fld (.idx (.s 0) (.s 4) 1) 0) (.fld (.idx (.s 1) (.s 4) 1) 0))]] (.cond (.s 6) (pQ [pR [pV 2 pF]] .ret) .skip))] (pR [pV 4 (.bin .add (.s 4) (pI 1))])))),pR [pV 2 pT]] .ret,[(2,.v)]⟩
def c49:ZM Sol.prog fresh sig [.fz,.fz] [] Try.f49=xk By:=Z2
def Bz:Fn:=⟨4,[0,1,4,6],
pQ [pR [pV 2 (pI 0)],pQ [pR [pV 3 (.bin .lss (.s 0) (pI 0))]] (.cond (.s 3) (pR [pV 0 (.un .neg (.bin .add (.s 0) (pI 1)))]) .skip),pR [pV 2 (.bin .rem (.s 0) (.s 1))]] .ret,[(2,.v)]⟩
def c53:ZM Sol.prog fresh sig [.fz,.fz] [] Try.f53=xk Bz:=Z2
def IY:Fn:=⟨3,[0,1,2],
pQ [pR [(1,pS 0 10),(2,.m [pU 0,pI 0,pI 0,pI 0,pI 0,pI 0,pI 0])],pR [(2,pM (.ag [.m 1 0,.m 1 1,.m 1 2,.len (.m 1 5),.len (.m 1 6),.len (.m 1 7),.len (.m 1 8)]) 7)]] .ret,[(2,(.ag 7))]⟩
def c64:ZM Sol.prog fresh sig [.fz] [] Try.f64=xk IY:=Z2
def BD:Fn:=⟨4,[0,1,4,6],
pQ [pR [pV 2 (pI 0)],pQ [pR [pV 3 (.bin .lss (.s 0) (pI 0))]] (.cond (.s 3) (pR [pV 0 (.un .neg (.bin .add (.s 0) (pI 1)))]) .skip),pR [pV 2 (.bin .rem (.s 0) (.s 1))]] .ret,[(2,.v)]⟩
def c77:ZM Sol.prog fresh sig [.fz,.fz] [] Try.f77=xk BD:=Z2
end Vm
end
section
namespace Vm
open Go Go.Proofs
structure Hp where
 base:Int
 cap:Int
 to:Int
 cycle:Bool
 scan:Int
 low:List Int
 high:List Int
 old:List Int
 far:List Int
 roots:List Int
 deriving DecidableEq,Inhabited
def ZQ(h:Hp):V:=.agg [vu h.base,vi h.cap,vi h.to,.bool h.cycle,vi h.scan,.sl (h.low.map vu),.sl (h.high.map vu),.sl (h.old.map vu),.sl (h.far.map vu),.sl (h.roots.map vu)]
@[simp]theorem Zcd(h:Hp):Vz (ZQ h) 10=xk (ZQ h):=rfl
@[simp]theorem ZaV(h:Hp):(ZQ h).cells=[vu h.base,vi h.cap,vi h.to,.bool h.cycle,vi h.scan,.sl (h.low.map vu),.sl (h.high.map vu),.sl (h.old.map vu),.sl (h.far.map vu),.sl (h.roots.map vu)]:=rfl
@[simp]theorem Za6(h:Hp):Y0 (ZQ h) 0=xk (vu h.base):=rfl
@[simp]theorem Za7(h:Hp):Y0 (ZQ h) 1=xk (vi h.cap):=rfl
@[simp]theorem Za8(h:Hp):Y0 (ZQ h) 2=xk (vi h.to):=rfl
@[simp]theorem Za9(h:Hp):Y0 (ZQ h) 3=xk (.bool h.cycle):=rfl
@[simp]theorem Zaa(h:Hp):Y0 (ZQ h) 4=xk (vi h.scan):=rfl
@[simp]theorem Zab(h:Hp):Y0 (ZQ h) 5=xk (.sl (h.low.map vu)):=rfl
@[simp]theorem Zac(h:Hp):Y0 (ZQ h) 6=xk (.sl (h.high.map vu)):=rfl
@[simp]theorem Zad(h:Hp):Y0 (ZQ h) 7=xk (.sl (h.old.map vu)):=rfl
@[simp]theorem Zae(h:Hp):Y0 (ZQ h) 8=xk (.sl (h.far.map vu)):=rfl
@[simp]theorem Zaf(h:Hp):Y0 (ZQ h) 9=xk (.sl (h.roots.map vu)):=rfl
def Zv(h:Hp):Ly:=⟨h.base,h.cap,h.to,P h.low,P h.high,P h.old,P h.far⟩
structure Hp.ok (h:Hp):Prop where
 base:ZC h.base
 cap:Yt h.cap
 to:Yt h.to
 scan:Yt h.scan
 low:P h.low<=1000000
 high:P h.high<=1000000
 old:P h.old<=1000000
 far:P h.far<=1000000
 roots:P h.roots<=1000000
 lowW:∀w∈h.low,ZC w
 highW:∀w∈h.high,ZC w
 oldW:∀w∈h.old,ZC w
 farW:∀w∈h.far,ZC w
 rootsW:∀w∈h.roots,ZC w
def zg{α:Type}{l:List α}(h:P l<=1000000):Yt (P l:Int):=⟨Z0,Z0⟩
def Hp.ok.lay{h:Hp}(a:h.ok):(Zv h).fits:=⟨a.base,a.cap,a.to,zg a.low,zg a.high,zg a.old,zg a.far⟩
def Dx{h:Hp}:VC Sol.prog 64 xh [ZQ h] (X8 (Zv h)):=by
 refine Y2 Sol.func64 follows Z2 c64 rfl ?_;simp[IY,X8,Zv]
def Z5X{h:Hp}:VC Sol.prog 32 xh [ZQ h] (X8 (Zv h)):=by
 refine Y2 Sol.func32 follows Z2 c32 rfl ?_;simp[IN,X8,Zv]
def Zx(h:Hp)(n:Int):List Int:=if n=1 then h.low else if n=2 then h.high else if n=3 then h.old else h.far
@[simp]theorem Tw(h:Hp):Zx h 1=h.low:=rfl
@[simp]theorem Ja(h:Hp):Zx h 2=h.high:=rfl
@[simp]theorem yL(h:Hp):Zx h 3=h.old:=rfl
@[simp]theorem yM(h:Hp):Zx h 4=h.far:=rfl
def T6{h:Hp}{n:Int}:VC Sol.prog 28 xh [ZQ h,vi n] (.sl ((Zx h n).map vu)):=by
 refine Y2 Sol.func28 follows Z2 c28 rfl ?_;by_cases a:n=1;simp[yG,Zx,a];by_cases d:n=2;simp[yG,Zx,d];by_cases f:n=3<;>simp[yG,Zx,a,d,f]
def Xr(h:Hp)(n:Int)(l:Zc):Hp:=if n=1 then {h with low:=l}else if n=2 then {h with high:=l}else if n=3 then {h with old:=l}else {h with far:=l}
@[simp]theorem Zcn(h:Hp)(l:Zc):Xr h 1 l= {h with low:=l}:=rfl
@[simp]theorem Zco(h:Hp)(l:Zc):Xr h 2 l= {h with high:=l}:=rfl
@[simp]theorem Z8g(h:Hp)(l:Zc):Xr h 3 l= {h with old:=l}:=rfl
@[simp]theorem Z8h(h:Hp)(l:Zc):Xr h 4 l= {h with far:=l}:=rfl
def DL{h:Hp}{n:Int}{l:Zc}:VC Sol.prog 29 xh [ZQ h,vi n,.sl (l.map vu)] (ZQ (Xr h n l)):=by
 refine Y2 Sol.func29 follows Z2 c29 rfl ?_;by_cases a:n=1;simp[yH,Xr,a,ZQ];by_cases d:n=2;simp[yH,Xr,d,ZQ];by_cases f:n=3<;>simp[yH,Xr,a,d,f,ZQ]
theorem D1{α:Type}{a b:List α}{i:Nat}(h:a.take i=b.take i)(hx:a[i]?=b[i]?):a.take (i+1)=b.take (i+1):=by
 simp_all[ZeM]
def Zbj{α:Type}{a b:List α}{i:Nat}(h:a[i]? ≠b[i]?):a≠b:=λe=>h (by rw[e])
def J2{a b:Zc}(k:P a<=1000000):VC Sol.prog 49 xh [.sl (a.map vu),.sl (b.map vu)] (.bool (decide (a=b))):=by
 refine Y2 Sol.func49 follows Z2 c49 rfl ?_;by_cases g:P a=P b;simp[By,g];refine Ln 4 (P b) (λi=>a.take i=b.take i) Z1 Z1 Z1 ?_;intro i l heq;have j:=Zy ((i:Int)+1) Z0 Z0;by_cases h:i<P b;have d:i<P a:=Z0;by_cases f:a[i]=b[i];simp[h,d,f,j];grind [D1];simp[h,d,f];grind;simp_all[Zft,ZeX];simp[By,show ¬((P a:Int)=(P b:Int))by omega];grind
def qs{a b:Hp}(f:a.ok):VC Sol.prog 40 xh [ZQ a,ZQ b] (.bool (decide (a=b))):=by
 refine Y2 Sol.func40 follows Z2 c40 rfl ?_;simp[IQ];have g:∀k,P (Zx a k)<=1000000:=λk=>by
  unfold Zx;split;exact f.low;split;exact f.high;split;exact f.old;exact f.far
 by_cases g1:a.base=b.base;case neg=>
  grind
 by_cases g2:a.cap=b.cap;case neg=>
  grind
 by_cases j:a.to=b.to;case neg=>
  grind
 by_cases l:a.cycle=b.cycle;case neg=>
  grind
 by_cases o:a.scan=b.scan;case neg=>
  grind
 simp[g1,g2,j,l,o];refine Sz (λ(i:Nat)=>[(6,.v (vi ((i+1:Nat):Int)))]) (λi=>i<=4/\(0<i->a.low=b.low)/\(1<i->a.high=b.high)/\(2<i->a.old=b.old)/\(3<i->a.far=b.far)) (Xm 6 5) 0 Z1 Z1 ?_;rintro i ⟨A,w,x,y,z⟩;have p:i=0\/i=1\/i=2\/i=3\/i=4:=Z0;obtain rfl|rfl|rfl|rfl|rfl:=p;simp;refine Zz (T6 (h:=⟨b.base,b.cap,b.to,b.cycle,b.scan,a.low,a.high,a.old,a.far,a.roots⟩) (n:=1)) ZdI ?_;simp;refine Zz (T6 (h:=b) (n:=1)) ZdI ?_;simp;refine Zz (J2 (b:=b.low) (g 1)) Z1 ?_;by_cases d:a.low=b.low;simp[d,Zy];exact⟨1,by simp[d],Z1,ZdK⟩;have:a≠b:=λe=>d (by rw[e]);simp_all;simp;refine Zz (T6 (h:=⟨b.base,b.cap,b.to,b.cycle,b.scan,a.low,a.high,a.old,a.far,a.roots⟩) (n:=2)) ZdI ?_;simp;refine Zz (T6 (h:=b) (n:=2)) ZdI ?_;simp;refine Zz (J2 (b:=b.high) (g 2)) Z1 ?_;by_cases d:a.high=b.high;simp[d,Zy];exact⟨2,ZcO,Z1,ZdK⟩;have:a≠b:=λe=>d (by rw[e]);simp_all;simp;refine Zz (T6 (h:=⟨b.base,b.cap,b.to,b.cycle,b.scan,a.low,a.high,a.old,a.far,a.roots⟩) (n:=3)) ZdI ?_;simp;refine Zz (T6 (h:=b) (n:=3)) ZdI ?_;simp;refine Zz (J2 (b:=b.old) (g 3)) Z1 ?_;by_cases d:a.old=b.old;simp[d,Zy];exact⟨3,ZcO,Z1,ZdK⟩;have:a≠b:=λe=>d (by rw[e]);simp_all;simp;refine Zz (T6 (h:=⟨b.base,b.cap,b.to,b.cycle,b.scan,a.low,a.high,a.old,a.far,a.roots⟩) (n:=4)) ZdI ?_;simp;refine Zz (T6 (h:=b) (n:=4)) ZdI ?_;simp;refine Zz (J2 (b:=b.far) (g 4)) Z1 ?_;by_cases d:a.far=b.far;simp[d,Zy];exact⟨4,ZcO,Z1,ZdK⟩;have:a≠b:=λe=>d (by rw[e]);simp_all;simp;refine Zz (J2 (b:=b.roots) f.roots) Z1 ?_;by_cases d:a.roots=b.roots;have:a=b:=by
  have q:=w Z0;have r:=x Z0;have t:=y Z0;have u:=z Z0;obtain⟨_,_,_,_,_,_,_,_,_,_⟩:=a;obtain⟨_,_,_,_,_,_,_,_,_,_⟩:=b;simp only at g1 g2 j l o q r t u d;subst g1 g2 j l o q r t u d;rfl
 simp_all;have:a≠b:=λe=>d (by rw[e]);simp_all
def pick(c n:Int):Int:=(if c<0 then-(c+1)else c) %n
def Tx{c n:Int}(a:0<n):0<=pick c n/\pick c n<n:=⟨ZhY _ Z0,Zhm _ a⟩
def KM{c n:Int}(hc:Yt c)(f:0<n):VC Sol.prog 77 xh [vi c,vi n] (vi (pick c n)):=by
 refine Y2 Sol.func77 follows Z2 c77 rfl ?_;obtain⟨a,d⟩:=hc;by_cases h:c<0;simp[BD,h];simp(disch:=omega) only[Zy];refine⟨Z0,?_⟩;unfold pick;grind;simp[BD,h];refine⟨Z0,?_⟩;simp_all[pick,if_neg,Zfb]
def Mg{c n:Int}(hc:Yt c)(f:0<n):VC Sol.prog 53 xh [vi c,vi n] (vi (pick c n)):=by
 refine Y2 Sol.func53 follows Z2 c53 rfl ?_;obtain⟨a,d⟩:=hc;by_cases h:c<0;simp[Bz,h];simp(disch:=omega) only[Zy];refine⟨Z0,?_⟩;unfold pick;grind;simp[Bz,h];refine⟨Z0,?_⟩;simp_all[pick,if_neg,Zfb]
end Vm
end
section
namespace Vm
open Go
open Go.Proofs
def IJ:Fn:=⟨13,[0,1,4,5,6,7,16,8,9,30,10,78,97],
pQ [pR [(2,.m [pN,pN])],pR [pV 3 (.mn (.len (.s 0)) (pI 10))],pR [(4,.m [pN,pN])],pQ [pR [pV 5 (pI 0)]] (.block 0 (.loop [0,1,2,3,4,5] (pQ [pQ [pR [pV 6 (.bin .lss (.s 5) (.s 3))]] (.cond (.s 6) .skip (.exit 0)),.block 1 (pQ [pR [(7,.m [pN,pN])],pQ [pR [pV 8 (pI 0)]] (.block 2 (.loop [0,1,2,3,4,5,6,7,8] (pQ [pQ [.reg ⟨[.lt 13 [] (.bin .lss (.s 8) (.len (.fld (.idx (.s 0) (.s 5) 2) 0)))],[([(13,xy)],.bin .lss (.s 8) (pI 4))],[pV 9 (.ite (.s 13) (.bin .lss (.s 8) (pI 4)) pF)]⟩] (.cond (.s 9) .skip (.exit 2)),.block 3 (pC [pK 14 53 [.fld (.idx (.fld (.idx (.s 0) (.s 5) 2) 0) (.s 8) 1) 0,.bin .add (.s 3) (pI 1)]] [(7,.m [.app (.m 7 0) (.lit [.bin .sub (.s 14) (pI 1)]) 1,.m 7 1])])] (pR [pV 8 (.bin .add (.s 8) (pI 1))])))),pR [(7,.m [.m 7 0,.app pN (.slc (.fld (.idx (.s 0) (.s 5) 2) 1) (pI 0) (.mn (.len (.fld (.idx (.s 0) (.s 5) 2) 1)) (pI 4)) 1) 1])]] (pR [(4,.m [.app (.m 4 0) (.lit [.mm 7 0 2]) 2,.m 4 1])]))] (pR [pV 5 (.bin .add (.s 5) (pI 1))])))),pQ [pR [pV 10 (pI 0)]] (.block 4 (.loop [0,1,2,3,4,5,6,10] (pQ [pQ [.reg ⟨[.lt 15 [] (.bin .lss (.s 10) (.len (.s 1)))],[([(15,xy)],.bin .lss (.s 10) (pI 5))],[pV 11 (.ite (.s 15) (.bin .lss (.s 10) (pI 5)) pF)]⟩] (.cond (.s 11) .skip (.exit 4)),.block 5 (pC [pK 16 53 [.fld (.idx (.s 1) (.s 10) 1) 0,.bin .add (.s 3) (pI 1)]] [(4,.m [.m 4 0,.app (.m 4 1) (.lit [.bin .sub (.s 16) (pI 1)]) 1])])] (pR [pV 10 (.bin .add (.s 10) (pI 1))])))),pQ [pR [pV 12 (.bin .eql (.len (.m 4 1)) (pI 0))]] (.cond (.s 12) (pR [(4,.m [.m 4 0,.app (.m 4 1) (.lit [.bin .sub (.s 3) (pI 1)]) 1])]) .skip),pR [(2,pM (.mm 4 0 2) 2)]] .ret,[(2,(.ag 2))]⟩
def c23:ZM Sol.prog fresh sig [.fz,.fz] [] Try.f23=xk IJ:=Z2
def BB:Fn:=⟨10,[0,1,2,3,6,7,8,14,9,31],
pQ [pR [(3,pS 0 7),pV 4 (pI 0),pV 5 pF],pR [pV 6 (.s 1)],pQ [pR [pV 7 (.bin .gtr (.len (.m 3 2)) (pI 0))]] (.cond (.s 7) (pR [pV 6 (.fld (.idx (.m 3 2) (.bin .rem (.s 1) (.len (.m 3 2))) 1) 0)]) .skip),pC [pK 10 77 [.s 6,pI 3]] [pV 8 (.s 10)],pQ [.reg ⟨[.lt 11 [] (.bin .eql (.s 8) (pI 2))],[([(11,xy)],.un .not (.s 2))],[pV 9 (.ite (.s 11) (.un .not (.s 2)) pF)]⟩] (.cond (.s 9) (pR [pV 8 (pI 1)]) .skip),pC [pK 12 77 [.bin .quo (.s 6) (pI 3),pI 2]] [pV 4 (.s 8),pV 5 (.bin .eql (.s 12) (pI 1))]] .ret,[(4,.v),(5,.v)]⟩
def c76:ZM Sol.prog fresh sig [.fz,.fz,.fz] [] Try.f76=xk BB:=Z2
def M5:Fn:=⟨15,[0,1,2,3,4,5,6,8,9,10,11,12,44,13,76],
pQ [pR [(4,pS 0 14),(5,pS 1 2),(6,pS 2 2),(7,.m [pU 0,pI 0,pI 0,pF,pI 0,pN,pN,pN,pN,pN,pN,pN,pN,pN])],pC [pK 15 28 [.mm 4 0 10,.m 5 0]] [pV 8 (.app pN (.s 15) 1)],pC [pK 16 99 [.ag [.bin .add (.len (.m 6 0)) (.len (.m 6 1)),.len (.m 6 0)]]] [pV 9 (.ext (.s 16) 0),pV 10 (.ext (.s 16) 1)],.reg ⟨[],[([],.idx (.s 8) (.m 5 1) 1)],[pV 8 (.upd (.s 8) (.m 5 1) 0 (.one (.s 9)))]⟩,pQ [pR [pV 11 (pI 0)]] (.block 0 (.loop [0,1,2,3,4,5,6,7,8,9,10,11] (pQ [pQ [pR [pV 12 (.bin .lss (.s 11) (.len (.m 6 0)))]] (.cond (.s 12) .skip (.exit 0)),.block 1 (.reg ⟨[pK 17 100 [.mm 4 0 14,.ag [.m 5 0,.bin .add (.bin .add (.m 5 1) (pI 1)) (.s 11)],.fld (.idx (.m 6 0) (.s 11) 1) 0,.bin .add (.s 3) (.s 11)]],[([],.idx (.s 8) (.bin .add (.bin .add (.m 5 1) (pI 1)) (.s 11)) 1)],[pV 8 (.upd (.s 8) (.bin .add (.bin .add (.m 5 1) (pI 1)) (.s 11)) 0 (.one (.s 17)))]⟩)] (pR [pV 11 (.bin .add (.s 11) (pI 1))])))),pQ [pR [pV 13 (pI 0)]] (.block 2 (.loop [0,1,2,3,4,5,6,7,8,9,10,11,12,13] (pQ [pQ [pR [pV 14 (.bin .lss (.s 13) (.len (.m 6 1)))]] (.cond (.s 14) .skip (.exit 2)),.block 3 (.reg ⟨[],[([],.idx (.s 8) (.bin .add (.bin .add (.bin .add (.m 5 1) (pI 1)) (.len (.m 6 0))) (.s 13)) 1)],[pV 8 (.upd (.s 8) (.bin .add (.bin .add (.bin .add (.m 5 1) (pI 1)) (.len (.m 6 0))) (.s 13)) 0 (.fld (.idx (.m 6 1) (.s 13) 1) 0))]⟩)] (pR [pV 13 (.bin .add (.s 13) (pI 1))])))),pC [pK 18 29 [.mm 4 0 10,.m 5 0,.s 8]] [(4,.m [.fld (.sz (.s 18) 10) 0,.fld (.sz (.s 18) 10) 1,.fld (.sz (.s 18) 10) 2,.fld (.sz (.s 18) 10) 3,.fld (.sz (.s 18) 10) 4,.fld (.sz (.s 18) 10) 5,.fld (.sz (.s 18) 10) 6,.fld (.sz (.s 18) 10) 7,.fld (.sz (.s 18) 10) 8,.fld (.sz (.s 18) 10) 9,.m 4 10,.m 4 11,.m 4 12,.m 4 13])],pR [(7,pM (.mm 4 0 14) 14)]] .ret,[(7,(.ag 14))]⟩
def c78:ZM Sol.prog fresh sig [.fz,.fz,.fz,.fz] [] Try.f78=xk M5:=Z2
def BE:Fn:=⟨10,[0,1,2,3,4,11,5,6,7,8],
pQ [pR [(2,pS 0 14),(3,pS 1 2),pV 4 (pU 0)],pQ [pR [pV 5 (.bin .eql (.m 3 0) (pI 0))]] (.cond (.s 5) (pQ [pR [pV 4 (pU 0)]] .ret) .skip),pC [pK 10 32 [.mm 2 0 10],pK 11 31 [.s 10,.mm 3 0 2]] [pV 6 (.ext (.s 11) 0),pV 7 (.ext (.s 11) 1)],pC [pK 12 101 [.s 6]] [pV 8 (.ext (.s 12) 0),pV 9 (.ext (.s 12) 1)],pR [pV 4 (.s 8)]] .ret,[(4,.v)]⟩
def c79:ZM Sol.prog fresh sig [.fz,.fz] [] Try.f79=xk BE:=Z2
def Se:Fn:=⟨10,[0,1,2,3,4,5,8,10,13,54],
pQ [pR [(4,pS 0 14),(5,pS 1 2),pV 6 (pU 0)],pQ [pR [pV 7 (.bin .lss (.s 2) (pI 0))]] (.cond (.s 7) (pQ [pR [pV 6 (pU 0)]] .ret) .skip),pQ [pR [pV 8 (.bin .gtr (.m 5 0) (pI 2))]] (.cond (.s 8) (pQ [pC [pK 10 79 [.mm 4 0 14,.flds (.idx (.m 4 13) (.s 2) 2) 0 2]] [pV 6 (.s 10)]] .ret) .skip),pQ [.reg ⟨[.lt 11 [] (.bin .eql (.m 5 0) (pI 1)),.lt 12 [] (.ite (.s 11) (.bin .geq (.m 5 1) (.m 4 4)) pF),.lt 13 [(12,xy)] (.bin .eql (.fld (.idx (.m 4 12) (.s 2) 2) 0) (pI 0)),.lt 14 [(12,xy),(13,xh)] (.bin .gtr (.fld (.idx (.m 4 13) (.s 2) 2) 0) (pI 0))],[([(11,xy)],.bin .geq (.m 5 1) (.m 4 4)),([(12,xy),(13,xh),(14,xy)],.bin .eql (.bin .rem (.s 3) (pI 2)) (pI 0)),([(12,xy),(13,xh)],.ite (.s 14) (.bin .eql (.bin .rem (.s 3) (pI 2)) (pI 0)) pF),([(12,xy)],.ite (.s 13) pT (.ite (.s 14) (.bin .eql (.bin .rem (.s 3) (pI 2)) (pI 0)) pF))],[pV 9 (.ite (.s 12) (.ite (.s 13) pT (.ite (.s 14) (.bin .eql (.bin .rem (.s 3) (pI 2)) (pI 0)) pF)) pF)]⟩] (.cond (.s 9) (pQ [pC [pK 15 79 [.mm 4 0 14,.flds (.idx (.m 4 13) (.s 2) 2) 0 2]] [pV 6 (.s 15)]] .ret) .skip),pC [pK 16 79 [.mm 4 0 14,.flds (.idx (.m 4 12) (.s 2) 2) 0 2]] [pV 6 (.s 16)]] .ret,[(6,.v)]⟩
def t9:ZM Sol.prog fresh sig [.fz,.fz,.fz,.fz] [] Try.f100=xk Se:=Z2
end Vm
end
section
namespace Vm
open Go Go.Proofs
structure Nd where
 ptrs:List Int
 data:List Int
 deriving DecidableEq,Inhabited
structure Gr where
 nodes:List Nd
 roots:List Int
 deriving DecidableEq,Inhabited
def Yj(n:Nd):V:=.agg [.sl (n.ptrs.map vi),.sl (n.data.map vu)]
def Yl(g:Gr):V:=.agg [.sl (g.nodes.map Yj),.sl (g.roots.map vi)]
@[simp]theorem Zbi(n:Nd):(Yj n).cells=[.sl (n.ptrs.map vi),.sl (n.data.map vu)]:=rfl
@[simp]theorem ZaL(n:Nd):Um (Yj n) 0 2=xk (Yj n):=rfl
@[simp]theorem Zao(n:Nd):Y0 (Yj n) 0=xk (.sl (n.ptrs.map vi)):=rfl
@[simp]theorem Zap(n:Nd):Y0 (Yj n) 1=xk (.sl (n.data.map vu)):=rfl
@[simp]theorem Zcf(n:Nd):Vz (Yj n) 2=xk (Yj n):=rfl
@[simp]theorem ZaK(g:Gr):Um (Yl g) 0 2=xk (Yl g):=rfl
@[simp]theorem Za4(g:Gr):Y0 (Yl g) 0=xk (.sl (g.nodes.map Yj)):=rfl
@[simp]theorem Za5(g:Gr):Y0 (Yl g) 1=xk (.sl (g.roots.map vi)):=rfl
@[simp]theorem Zcc(g:Gr):Vz (Yl g) 2=xk (Yl g):=rfl
@[simp]theorem ZaT(g:Gr):(Yl g).cells=[.sl (g.nodes.map Yj),.sl (g.roots.map vi)]:=rfl
@[simp]theorem Zc6{k:Zm}{l:Zr}(j n:Nat):R9 n (.sl l) (.int k 0) (.int k (j:Int))=if j<=P l/\Wo n l=xy then xk (.sl (l.take j))else xw:=by
 have:=Z7f (k:=k) (l:=l) 0 j n;simpa using this
def rp(n:Nat)(p:Int):Int:=pick p (n+1) -1
def UN(n:Nat)(x:Nd):Nd:=⟨(x.ptrs.take 4).map (rp n),x.data.take 4⟩
def Vv(l:List Nd):Nat:=min (P l) 10
def ZX(l:List Nd)(a:Zc):Gr:=⟨(l.take (Vv l)).map (UN (Vv l)),if a.take 5=[]then [(Vv l:Int) -1]else(a.take 5).map (rp (Vv l))⟩
def Pd{l:List Nd}{a:Zc}(Y:∀x∈l,∀p∈x.ptrs,Yt p)(hr:∀p∈a,Yt p):VC Sol.prog 23 xh [.sl (l.map Yj),.sl (a.map vi)] (Yl (ZX l a)):=by
 refine Y2 Sol.func23 follows Z2 c23 rfl ?_;have Q:Vv l<=10:=by grind [Vv]
 have a0:Vv l<=xq l:=by grind [Vv]
 have z:(if(10:Int)< (xq l:Int)then(10:Int)else(xq l:Int))=(Vv l:Int):=by
  unfold Vv;split<;>omega
 simp[IJ,z];generalize Z:Vv l=n at*;have C:=Zy ((n:Int)+1) Z0 Z0;refine UZ (λt=>∃i:Nat,i<=n/\t=[.v (.sl (l.map Yj)),.v (.sl (a.map vi)),.m [.sl [],.sl []],.v (vi n),.m [.sl (((l.take i).map (UN n)).map Yj),.sl []],.v (vi i)]) (λt=>match get t 5 with|.v (.int _ i)=>n-i.toNat|_=>0) ?_ ?_;exact⟨0,Z1,Z1⟩
 .rintro t ⟨i,hi,rfl⟩;have hw:=Zy ((i:Int)+1) Z0 Z0;by_cases h:i<n
  .have r:i<xq l:=Z0;have N:l[i]?=xk l[i]:=ZdO r;simp[h];generalize A:l[i]=x at N;have O:∀p∈x.ptrs,Yt p:=Y x (ZdW N);have F:(if(4:Int)< (xq x.data:Int)then(4:Int)else(xq x.data:Int))=((min (xq x.data) 4:Nat):Int):=by split<;>omega
   refine UZ (λt=>∃k:Nat,k<=xq x.ptrs/\k<=4/\t=[.v (.sl (l.map Yj)),.v (.sl (a.map vi)),.m [.sl [],.sl []],.v (vi n),.m [.sl (((l.take i).map (UN n)).map Yj),.sl []],.v (vi i),.v (.bool xy),.m [.sl (((x.ptrs.take k).map (rp n)).map vi),.sl []],.v (vi k)]) (λt=>match get t 8 with|.v (.int _ i)=>4-i.toNat|_=>0) ?_ ?_;exact⟨0,Z1,Z1,Z1⟩
   .rintro t ⟨k,G,W,rfl⟩;have w:=Zy ((k:Int)+1) Z0 Z0;by_cases S:k<xq x.ptrs/\k<4;obtain⟨f,U⟩:=S;have K:x.ptrs[k]?=xk x.ptrs[k]:=ZdO f;have g:(k:Int)<4:=Z0;simp[r,A,f,g,C];refine Zz (Mg (O _ (Ze5 f)) Z0) Z1 ?_;have L:=Tx (c:=x.ptrs[k]) (n:=(n:Int)+1) Z0;have y:=Zy (pick x.ptrs[k] ((n:Int)+1) -1) Z0 Z0;simp[w,y];refine⟨by grind [Y5],⟨k+1,Z0,Z0,?_,Z1⟩,Z0⟩;rw[ZeM,Zed,K];rfl
    .have d:(x.ptrs.take k)=x.ptrs.take 4:=by
      by_cases f:k<xq x.ptrs;grind;grind
     have o:(l.take (i+1)).map (Yj∘UN n)=(l.take i).map (Yj∘UN n)++[V.agg [.sl ((x.ptrs.take k).map (vi∘rp n)),.sl ((x.data.take (min (xq x.data) 4)).map vu)]]:=by
      rw[ZeM,N,Zfe,d];have J:x.data.take (min (xq x.data) 4)=x.data.take 4:=by
       by_cases hd:xq x.data<=4;grind;grind
      rw[J];simp[Yj,UN]
     have B:Wo 1 ((x.data.take (min (xq x.data) 4)).map vu)=xy:=qD _;have u:min (xq x.data) 4<=Y5:=by grind [Y5]
     have H:min i (xq l)+1<=Y5:=by grind [Y5]
     have I:min (xq x.data) 4<=xq x.data:=Z0;simp only[Zif]at o B;have g:k<xq x.ptrs->¬(k:Int)<4:=Z0;by_cases f:k<xq x.ptrs;all_goals (
      simp[r,A,f,g,F,u,H,B,hw,I];exact⟨⟨i+1,Z0,o.symm,Z1⟩,Z0⟩)
  .have:i=n:=Z0;subst this;simp;have D:=Zy ((i:Int) -1) Z0 Z0;refine UZ (λt=>∃k:Nat,k<=xq a/\k<=5/\t=[.v (.sl (l.map Yj)),.v (.sl (a.map vi)),.m [.sl [],.sl []],.v (vi i),.m [.sl ((l.take i).map (Yj∘UN i)),.sl ((a.take k).map (vi∘rp i))],.v (vi i),.v (.bool xh),.no,.no,.no,.v (vi k)]) (λt=>match get t 10 with|.v (.int _ i)=>5-i.toNat|_=>0) ?_ ?_;exact⟨0,Z1,Z1,Z1⟩
   .rintro t ⟨k,G,X,rfl⟩;have w:=Zy ((k:Int)+1) Z0 Z0;by_cases T:k<xq a/\k<5;obtain⟨f,U⟩:=T;have K:a[k]?=xk a[k]:=ZdO f;have g:(k:Int)<5:=Z0;simp[f,g,C];refine Zz (Mg (hr _ (Ze5 f)) Z0) Z1 ?_;have L:=Tx (c:=a[k]) (n:=(i:Int)+1) Z0;have y:=Zy (pick a[k] ((i:Int)+1) -1) Z0 Z0;simp[w,y];refine⟨by grind [Y5],⟨k+1,Z0,Z0,?_,Z1⟩,Z0⟩;rw[ZeM,Zed,K];rfl
    .have d:(a.take k)=a.take 5:=by
      by_cases f:k<xq a;grind;grind
     have g:k<xq a->¬(k:Int)<5:=Z0;have P:ZX l a=⟨(l.take i).map (UN i),if a.take 5=[]then [(i:Int) -1]else(a.take 5).map (rp i)⟩:=by
      unfold ZX;rw[Z]
     have q:xq (a.take k)=k:=by rw[ZeZ];omega
     by_cases R:k=0;subst R;have j:a.take 5=[]:=by rw[<-d];rfl
     rw[P,if_pos j];have f:¬0<xq a:=Z0;have u:1<=Y5:=by simp[Y5]
     simp[f,Yl,D,u]
     .have j:a.take 5≠[]:=by
       rw[<-d];intro h;rw[h]at q;simp at q;omega
      rw[P,if_neg j,<-d];have M:¬a=[]:=by intro h;rw[h]at G;simp at G;omega
      by_cases f:k<xq a;all_goals simp[f,g,Yl,R,M]
def N3{n:Nat}{p:Int}: -1<=rp n p/\rp n p<n:=by
 have:=Tx (c:=p) (n:=(n:Int)+1) Z0;grind [rp]
def zY(l:List Nd)(a:Zc):(ZX l a).nodes.length=Vv l:=by
 simp[ZX,Vv]
def AZ(l:List Nd)(a:Zc):Vv l<=10/\(ZX l a).roots.length<=5/\∀x∈(ZX l a).nodes,P x.ptrs<=4/\P x.data<=4:=by
 refine⟨by grind [Vv],?_,λx d=> ?_⟩;grind [ZX];simp only[ZX,Ze4]at d;obtain⟨y,_,rfl⟩:=d;grind [UN,List.length_map,List.length_take]
end Vm
end
section
namespace Vm
open Go
open Go.Proofs
def IP:Fn:=⟨3,[0,1,2],
pQ [pR [(1,pS 0 7),(2,pZ)],pC [pK 3 45 [.mm 1 0 7,pF],pK 4 46 [.s 3,.mm 1 0 7]] [(2,pS 4 10)]] .ret,[(2,(.ag 10))]⟩
def c35:ZM Sol.prog fresh sig [.fz] [] Try.f35=xk IP:=Z2
def IR:Fn:=⟨19,[0,1,2,4,5,6,7,8,26,9,10,11,12,13,57,81,14,82,165],
pQ [pR [(2,pS 0 7),(3,.m [pU 0,pI 0,pI 0,pF,pI 0,pN,pN,pN,pN,pN,pN,pN,pN,pN])],.reg ⟨[pK 19 23 [.m 2 0,.m 2 1]],[([],.ag [pU 0,pI 0,pI 0,pF,pI 0,pN,pN,pN,pN,pN,.fld (.sz (.s 19) 2) 0,.fld (.sz (.s 19) 2) 1,pN,pN])],[(4,.m [pU 0,pI 0,pI 0,pF,pI 0,pN,pN,pN,pN,pN,.fld (.sz (.s 19) 2) 0,.fld (.sz (.s 19) 2) 1,pN,pN])]⟩,pR [(5,.m [pI 0,pI 0,pI 0,pI 0,pI 0])],pR [pV 6 (pI 0)],pQ [pR [pV 7 (pI 0)]] (.block 0 (.loop [0,1,2,3,4,5,6,7] (pQ [pQ [pR [pV 8 (.bin .lss (.s 7) (.len (.m 4 10)))]] (.cond (.s 8) .skip (.exit 0)),.block 1 (pQ [pC [pK 20 76 [.mm 2 0 7,.s 7,.s 1]] [pV 9 (.ext (.s 20) 0),pV 10 (.ext (.s 20) 1)],pR [pV 11 (.bin .add (.bin .add (pI 1) (.len (.fld (.idx (.m 4 10) (.s 7) 2) 0))) (.len (.fld (.idx (.m 4 10) (.s 7) 2) 1)))],pR [(12,pM (.ag [pI 0,pI 0]) 2)],pR [(13,pM (.ag [pI 0,pI 0]) 2)],pQ [pR [pV 14 (.bin .lss (.s 9) (pI 2))]] (.cond (.s 14) (pQ [.reg ⟨[],[([],.ai (.c (.agg [(.bool xy),(.bool xy),(.bool xy),(.bool xy),(.bool xy)])) (.bin .sub (pI 2) (.s 9)) 5 1 xh)],[(12,pM (.ag [.bin .sub (pI 2) (.s 9),.one (.ai (.mm 5 0 5) (.bin .sub (pI 2) (.s 9)) 5 1 xh)]) 2)]⟩] (.reg ⟨[],[([],.ai (.c (.agg [(.bool xy),(.bool xy),(.bool xy),(.bool xy),(.bool xy)])) (.bin .sub (pI 2) (.s 9)) 5 1 xh)],[(5,pM (.aput (.mm 5 0 5) (.bin .sub (pI 2) (.s 9)) 5 1 (.bin .add (.ai (.mm 5 0 5) (.bin .sub (pI 2) (.s 9)) 5 1 xh) (.s 11))) 5)]⟩)) (pR [pV 6 (.bin .add (.s 6) (.s 11))])),pQ [pC [.lt 21 [] (.bin .gtr (.s 9) (pI 0))] [pV 15 (.ite (.s 21) (.s 1) pF)]] (.cond (.s 15) (pQ [pR [pV 16 (pI 3)],pQ [pR [pV 17 (.s 10)]] (.cond (.s 17) (pR [pV 16 (pI 4)]) .skip),.reg ⟨[],[([],.ai (.c (.agg [(.bool xy),(.bool xy),(.bool xy),(.bool xy),(.bool xy)])) (.s 16) 5 1 xh)],[(13,pM (.ag [.one (.s 16),.one (.ai (.mm 5 0 5) (.s 16) 5 1 xh)]) 2)]⟩] (.reg ⟨[],[([],.ai (.c (.agg [(.bool xy),(.bool xy),(.bool xy),(.bool xy),(.bool xy)])) (.s 16) 5 1 xh)],[(5,pM (.aput (.mm 5 0 5) (.s 16) 5 1 (.bin .add (.ai (.mm 5 0 5) (.s 16) 5 1 xh) (.s 11))) 5)]⟩)) .skip),pR [(4,.m [.m 4 0,.m 4 1,.m 4 2,.m 4 3,.m 4 4,.m 4 5,.m 4 6,.m 4 7,.m 4 8,.m 4 9,.m 4 10,.m 4 11,.app (.m 4 12) (.lit [.mm 12 0 2]) 2,.m 4 13])]] (pR [(4,.m [.m 4 0,.m 4 1,.m 4 2,.m 4 3,.m 4 4,.m 4 5,.m 4 6,.m 4 7,.m 4 8,.m 4 9,.m 4 10,.m 4 11,.m 4 12,.app (.m 4 13) (.lit [.mm 13 0 2]) 2])]))] (pR [pV 7 (.bin .add (.s 7) (pI 1))])))),.reg ⟨[pK 22 77 [.m 2 6,pI 2]],[([],.ai (.c (.agg [(.bool xy),(.bool xy),(.bool xy),(.bool xy),(.bool xy)])) (pI 1) 5 1 xh),([],.ai (.c (.agg [(.bool xy),(.bool xy),(.bool xy),(.bool xy),(.bool xy)])) (pI 2) 5 1 xh),([],.ai (.c (.agg [(.bool xy),(.bool xy),(.bool xy),(.bool xy),(.bool xy)])) (pI 3) 5 1 xh),([],.ai (.c (.agg [(.bool xy),(.bool xy),(.bool xy),(.bool xy),(.bool xy)])) (pI 4) 5 1 xh),([],.ag [pU 0,pI 0,.one (.s 22),.one (.s 1),pI 0,.mk (.int .u64 0) (.ai (.mm 5 0 5) (pI 1) 5 1 xh),.mk (.int .u64 0) (.ai (.mm 5 0 5) (pI 2) 5 1 xh),.mk (.int .u64 0) (.ai (.mm 5 0 5) (pI 3) 5 1 xh),.mk (.int .u64 0) (.ai (.mm 5 0 5) (pI 4) 5 1 xh),pN])],[(4,.m [pU 0,pI 0,.one (.s 22),.one (.s 1),pI 0,.mk (.int .u64 0) (.ai (.mm 5 0 5) (pI 1) 5 1 xh),.mk (.int .u64 0) (.ai (.mm 5 0 5) (pI 2) 5 1 xh),.mk (.int .u64 0) (.ai (.mm 5 0 5) (pI 3) 5 1 xh),.mk (.int .u64 0) (.ai (.mm 5 0 5) (pI 4) 5 1 xh),pN,.m 4 10,.m 4 11,.m 4 12,.m 4 13])]⟩,.reg ⟨[pK 23 77 [.m 2 4,pI 12]],[([],.ai (.c (.agg [(.bool xy),(.bool xy),(.bool xy),(.bool xy),(.bool xy)])) (pI 1) 5 1 xh),([],.ai (.c (.agg [(.bool xy),(.bool xy),(.bool xy),(.bool xy),(.bool xy)])) (pI 2) 5 1 xh),([],.ai (.c (.agg [(.bool xy),(.bool xy),(.bool xy),(.bool xy),(.bool xy)])) (pI 3) 5 1 xh),([],.ai (.c (.agg [(.bool xy),(.bool xy),(.bool xy),(.bool xy),(.bool xy)])) (pI 4) 5 1 xh)],[(4,.m [.m 4 0,.bin .add (.mx (.bin .add (.bin .add (.ai (.mm 5 0 5) (pI 1) 5 1 xh) (.ai (.mm 5 0 5) (pI 2) 5 1 xh)) (.s 6)) (.bin .add (.ai (.mm 5 0 5) (pI 3) 5 1 xh) (.ai (.mm 5 0 5) (pI 4) 5 1 xh))) (.s 23),.m 4 2,.m 4 3,.m 4 4,.m 4 5,.m 4 6,.m 4 7,.m 4 8,.m 4 9,.m 4 10,.m 4 11,.m 4 12,.m 4 13])]⟩,pR [(4,.m [.bin .add (pU 1) (.bin .rem (.m 2 3) (.bin .sub (pU 9223372036854775808) (.bin .mul (pU 2) (.conv .u64 (.m 4 1))))),.m 4 1,.m 4 2,.m 4 3,.m 4 4,.m 4 5,.m 4 6,.m 4 7,.m 4 8,.m 4 9,.m 4 10,.m 4 11,.m 4 12,.m 4 13])],.reg ⟨[],[([],.ai (.c (.agg [(.bool xy),(.bool xy),(.bool xy),(.bool xy),(.bool xy)])) (pI 1) 5 1 xh)],[(4,.m [.m 4 0,.m 4 1,.m 4 2,.m 4 3,.one (.ai (.mm 5 0 5) (pI 1) 5 1 xh),.m 4 5,.m 4 6,.m 4 7,.m 4 8,.m 4 9,.m 4 10,.m 4 11,.m 4 12,.m 4 13])]⟩,pQ [.reg ⟨[.lt 24 [] (.s 1)],[([(24,xy)],.ai (.c (.agg [(.bool xy),(.bool xy),(.bool xy),(.bool xy),(.bool xy)])) (pI 1) 5 1 xh),([(24,xy)],.bin .gtr (.ai (.mm 5 0 5) (pI 1) 5 1 xh) (pI 0))],[pV 18 (.ite (.s 24) (.bin .gtr (.ai (.mm 5 0 5) (pI 1) 5 1 xh) (pI 0)) pF)]⟩] (.cond (.s 18) (.reg ⟨[pK 25 77 [.m 2 5,.ai (.mm 5 0 5) (pI 1) 5 1 xh]],[([],.ai (.c (.agg [(.bool xy),(.bool xy),(.bool xy),(.bool xy),(.bool xy)])) (pI 1) 5 1 xh)],[(4,.m [.m 4 0,.m 4 1,.m 4 2,.m 4 3,.one (.s 25),.m 4 5,.m 4 6,.m 4 7,.m 4 8,.m 4 9,.m 4 10,.m 4 11,.m 4 12,.m 4 13])]⟩) .skip),pR [(3,pM (.mm 4 0 14) 14)]] .ret,[(3,(.ag 14))]⟩
def c45:ZM Sol.prog fresh sig [.fz,.fz] [] Try.f45=xk IR:=Z2
def IS:Fn:=⟨17,[0,1,2,3,4,5,16,6,31,59,83,7,8,9,125,10,134],
pQ [pR [(2,pS 0 14),(3,pS 1 7),(4,pZ)],pQ [pR [pV 5 (pI 0)]] (.block 0 (.loop [0,1,2,3,4,5] (pQ [pQ [pR [pV 6 (.bin .lss (.s 5) (.len (.m 2 10)))]] (.cond (.s 6) .skip (.exit 0)),.block 1 (pQ [pR [(7,pM (.flds (.idx (.m 2 10) (.s 5) 2) 0 2) 2)],pQ [pR [pV 8 (.bin .gtr (.fld (.idx (.m 2 12) (.s 5) 2) 0) (pI 0))]] (.cond (.s 8) (pC [pK 17 78 [.mm 2 0 14,.flds (.idx (.m 2 12) (.s 5) 2) 0 2,.mm 7 0 2,.bin .add (.m 3 4) (.s 5)]] [(2,pS 17 14)]) .skip),pQ [.reg ⟨[.lt 18 [] (.bin .gtr (.fld (.idx (.m 2 13) (.s 5) 2) 0) (pI 0))],[([(18,xy)],.bin .eql (.fld (.idx (.m 2 12) (.s 5) 2) 0) (pI 0))],[pV 9 (.ite (.s 18) (.bin .eql (.fld (.idx (.m 2 12) (.s 5) 2) 0) (pI 0)) pF)]⟩] (.cond (.s 9) (pC [pK 19 78 [.mm 2 0 14,.flds (.idx (.m 2 13) (.s 5) 2) 0 2,.mm 7 0 2,pI 0]] [(2,pS 19 14)]) .skip),.reg ⟨[.lt 20 [] (.bin .gtr (.fld (.idx (.m 2 13) (.s 5) 2) 0) (pI 0))],[([(20,xy)],.bin .gtr (.fld (.idx (.m 2 12) (.s 5) 2) 0) (pI 0))],[pV 10 (.ite (.s 20) (.bin .gtr (.fld (.idx (.m 2 12) (.s 5) 2) 0) (pI 0)) pF)]⟩] (.cond (.s 10) (pQ [pC [pK 21 28 [.mm 2 0 10,.fld (.idx (.m 2 13) (.s 5) 2) 0]] [pV 11 (.app pN (.s 21) 1)],.reg ⟨[pK 22 79 [.mm 2 0 14,.flds (.idx (.m 2 12) (.s 5) 2) 0 2]],[([],.idx (.s 11) (.fld (.idx (.m 2 13) (.s 5) 2) 1) 1)],[pV 11 (.upd (.s 11) (.fld (.idx (.m 2 13) (.s 5) 2) 1) 0 (.one (.s 22)))]⟩] (pC [pK 23 29 [.mm 2 0 10,.fld (.idx (.m 2 13) (.s 5) 2) 0,.s 11]] [(2,.m [.fld (.sz (.s 23) 10) 0,.fld (.sz (.s 23) 10) 1,.fld (.sz (.s 23) 10) 2,.fld (.sz (.s 23) 10) 3,.fld (.sz (.s 23) 10) 4,.fld (.sz (.s 23) 10) 5,.fld (.sz (.s 23) 10) 6,.fld (.sz (.s 23) 10) 7,.fld (.sz (.s 23) 10) 8,.fld (.sz (.s 23) 10) 9,.m 2 10,.m 2 11,.m 2 12,.m 2 13])])) .skip))] (pR [pV 5 (.bin .add (.s 5) (pI 1))])))),pR [pV 12 pN],pQ [pR [pV 13 (pI 0)]] (.block 2 (.loop [0,1,2,3,4,5,6,12,13] (pQ [pQ [pR [pV 14 (.bin .lss (.s 13) (.len (.m 2 11)))]] (.cond (.s 14) .skip (.exit 2)),.block 3 (pQ [pR [pV 15 (pU 0)],pQ [pR [pV 16 (.bin .geq (.fld (.idx (.m 2 11) (.s 13) 1) 0) (pI 0))]] (.cond (.s 16) (pC [pK 24 79 [.mm 2 0 14,.flds (.idx (.m 2 12) (.fld (.idx (.m 2 11) (.s 13) 1) 0) 2) 0 2]] [pV 15 (.s 24)]) .skip)] (pR [pV 12 (.app (.s 12) (.lit [.one (.s 15)]) 1)]))] (pR [pV 13 (.bin .add (.s 13) (pI 1))])))),pR [(2,.m [.m 2 0,.m 2 1,.m 2 2,.m 2 3,.m 2 4,.m 2 5,.m 2 6,.m 2 7,.m 2 8,.one (.s 12),.m 2 10,.m 2 11,.m 2 12,.m 2 13])],pR [(4,pM (.mm 2 0 10) 10)]] .ret,[(4,(.ag 10))]⟩
def c46:ZM Sol.prog fresh sig [.fz,.fz] [] Try.f46=xk IS:=Z2
end Vm
end
section
namespace Vm
open Go Go.Proofs
structure Pl where
 part:Int
 at_:Int
 deriving DecidableEq,Inhabited
def Wd(p:Pl):V:=.agg [vi p.part,vi p.at_]
@[simp]theorem ZbR(p:Pl):(Wd p).cells=[vi p.part,vi p.at_]:=rfl
@[simp]theorem ZaO(p:Pl):Um (Wd p) 0 2=xk (Wd p):=rfl
@[simp]theorem Zav(p:Pl):Y0 (Wd p) 0=xk (vi p.part):=rfl
@[simp]theorem Zaw(p:Pl):Y0 (Wd p) 1=xk (vi p.at_):=rfl
@[simp]theorem Zch(p:Pl):Vz (Wd p) 2=xk (Wd p):=rfl
structure Rw where
 nodes:List Nd
 roots:List Int
 cls:List Int
 base:Int
 slack:Int
 scan:Int
 to:Int
 deriving Inhabited
def WC(x:Rw):V:=.agg [.sl (x.nodes.map Yj),.sl (x.roots.map vi),.sl (x.cls.map vi),vu x.base,vi x.slack,vi x.scan,vi x.to]
@[simp]theorem Zci(x:Rw):Vz (WC x) 7=xk (WC x):=rfl
@[simp]theorem Zc2(x:Rw):(WC x).cells=[.sl (x.nodes.map Yj),.sl (x.roots.map vi),.sl (x.cls.map vi),vu x.base,vi x.slack,vi x.scan,vi x.to]:=rfl
@[simp]theorem Zax(x:Rw):Y0 (WC x) 0=xk (.sl (x.nodes.map Yj)):=rfl
@[simp]theorem Zay(x:Rw):Y0 (WC x) 1=xk (.sl (x.roots.map vi)):=rfl
@[simp]theorem Zaz(x:Rw):Y0 (WC x) 2=xk (.sl (x.cls.map vi)):=rfl
@[simp]theorem ZaA(x:Rw):Y0 (WC x) 3=xk (vu x.base):=rfl
@[simp]theorem ZaB(x:Rw):Y0 (WC x) 4=xk (vi x.slack):=rfl
@[simp]theorem ZaC(x:Rw):Y0 (WC x) 5=xk (vi x.scan):=rfl
@[simp]theorem ZaD(x:Rw):Y0 (WC x) 6=xk (vi x.to):=rfl
structure Rw.ok (x:Rw):Prop where
 ptrs:∀n∈x.nodes,∀p∈n.ptrs,Yt p
 data:∀n∈x.nodes,∀p∈n.data,ZC p
 roots:∀p∈x.roots,Yt p
 cls:∀p∈x.cls,Yt p
 base:ZC x.base
 slack:Yt x.slack
 scan:Yt x.scan
 to:Yt x.to
def VS(x:Rw)(i:Nat):Int:=if P x.cls=0 then i else(x.cls[i%P x.cls]?).getD 0
def WZ(x:Rw)(i:Nat)(cycle:Bool):Int:=if pick (VS x i) 3=2/\cycle=xh then 1 else pick (VS x i) 3
def Wr(x:Rw)(i:Nat):Bool:=decide (pick ((VS x i).tdiv 3) 2=1)
def SG(x:Rw)(i:Nat)(cycle:Bool):WZ x i cycle=0\/WZ x i cycle=1\/(WZ x i cycle=2/\cycle=xy):=by
 have:=Tx (c:=VS x i) (n:=3) Z0;unfold WZ;grind
def Z0D{x:Rw}(hx:x.ok){i:Nat}(C:i<=1000){cycle:Bool}:VC Sol.prog 76 xh [WC x,vi i,.bool cycle] (.tup [vi (WZ x i cycle),.bool (Wr x i)]):=by
 refine Y2 Sol.func76 follows Z2 c76 rfl ?_;have t:Yt (VS x i):=by
  unfold VS;split;exact⟨Z0,Z0⟩;rename_i h;have:i%P x.cls<P x.cls:=Zh4 _ Z0;rw[ZdO this];exact hx.cls _ (Ze5 this)
 have g:=KM (c:=VS x i) (n:=3) t Z0;have p:Yt ((VS x i).tdiv 3):=by
  obtain⟨B,f⟩:=t;unfold Yt;rw[Int.tdiv_eq_ediv];have:Int.sign 3=1:=rfl;split<;>omega
 have d:=Zy _ p.1 p.2;have a:=KM (c:=(VS x i).tdiv 3) (n:=2) p Z0;have fin:∀(b:Bool),(decide (pick ((VS x i).tdiv 3) 2=1)=b)->Wr x i=b:=λb h=>h;by_cases q:P x.cls=0;have k:VS x i=i:=by simp[VS,q]
 rw[k]at g a d;rw[Zhi Z0]at a d;simp[BB,q];refine Zz g Z1 ?_;by_cases f:pick (i:Int) 3=2;cases cycle;simp[f,d];refine Zz a Z1 ?_;simp[WZ,Wr,k,f];simp[f,d];refine Zz a Z1 ?_;simp[WZ,Wr,k,f];simp[f,d];refine Zz a Z1 ?_;simp[WZ,Wr,k,f];have l:i%P x.cls<P x.cls:=Zh4 _ Z0;have w:x.cls[i%P x.cls]?=xk x.cls[i%P x.cls]:=ZdO l;have k:VS x i=x.cls[i%P x.cls]:=by simp[VS,q,w]
 have z:(i:Int).tmod (P x.cls:Int)=((i%P x.cls:Nat):Int):=by
  rw[Zfb Z0];rfl
 rw[k]at g a d;have u:0<P x.cls:=Z0;have r:x.cls≠[]:=λe=>ZcO;have A:((i:Int) % (P x.cls:Int))=((i%P x.cls:Nat):Int):=rfl;generalize o:x.cls[i%P x.cls]=c at*;generalize y:i%P x.cls=j at*;simp[BB,u,r,z,l,o];refine Zz g Z1 ?_;by_cases f:pick c 3=2;cases cycle;simp[f,d];refine Zz a Z1 ?_;simp[WZ,Wr,k,f];simp[f,d];refine Zz a Z1 ?_;simp[WZ,Wr,k,f];simp[f,d];refine Zz a Z1 ?_;simp[WZ,Wr,k,f]
def ZJ(n:Nd):Nat:=1+P n.ptrs+P n.data
structure St8 where
 n1:Nat
 n2:Nat
 n3:Nat
 n4:Nat
 wt:Nat
 here:List Pl
 old:List Pl
def Xc(x:Rw)(cycle:Bool)(sz:Nat)(i:Nat)(s:St8):St8:=
 let k:=WZ x i cycle;let a:=Wr x i;let o:Bool:=decide (0<k)&&cycle
 {n1:=if k=1 then s.n1+sz else s.n1
  n2:=if k=0 then s.n2+sz else s.n2
  n3:=if o&& !a then s.n3+sz else s.n3
  n4:=if o&&a then s.n4+sz else s.n4
  wt:=if k=2 then s.wt+sz else s.wt
  here:=s.here++[if k=0 then⟨2,s.n2⟩else if k=1 then⟨1,s.n1⟩else⟨0,0⟩]
  old:=s.old++[if o then(if a then⟨4,s.n4⟩else⟨3,s.n3⟩)else⟨0,0⟩]}
def Y3(x:Rw)(cycle:Bool)(g:Gr):Nat->St8
 |0=>⟨0,0,0,0,0,[],[]⟩
 |i+1=>Xc x cycle (ZJ ((g.nodes[i]?).getD default)) i (Y3 x cycle g i)
def Z7v{x:Rw}{cycle:Bool}{sz i:Nat}(h:sz<=9)(s:St8)(d:s.n1+s.n2+s.wt<=9*i)(h2:s.n3+s.n4<=9*i)(f:P s.here=i)(g:P s.old=i):
  (Xc x cycle sz i s).n1+(Xc x cycle sz i s).n2+(Xc x cycle sz i s).wt<=9*(i+1)/\(Xc x cycle sz i s).n3+(Xc x cycle sz i s).n4<=9*(i+1)/\(Xc x cycle sz i s).here.length=i+1/\(Xc x cycle sz i s).old.length=i+1:=by
 obtain a|a|⟨a,rfl⟩:=SG x i cycle;grind [Xc];grind [Wr,Xc];grind [Wr,Xc]
def Lf{x:Rw}{cycle:Bool}{g:Gr}(a:∀n∈g.nodes,ZJ n<=9):∀i,i<=P g.nodes->(Y3 x cycle g i).n1+(Y3 x cycle g i).n2+(Y3 x cycle g i).wt<=9*i/\(Y3 x cycle g i).n3+(Y3 x cycle g i).n4<=9*i/\(Y3 x cycle g i).here.length=i/\(Y3 x cycle g i).old.length=i
 |0,_=>by simp[Y3]
 |i+1,k=>by
  obtain⟨d,f,h,j⟩:=Lf (x:=x) (cycle:=cycle) a i Z0;have l:=a _ (Ze5 (Z0:i<P g.nodes));simp only[Y3,ZdO (Z0:i<P g.nodes),Zei];simp_all[Z7v]
structure Bt where
 h:Hp
 g:Gr
 here:List Pl
 old:List Pl
def XR(b:Bt):List V:=[vu b.h.base,vi b.h.cap,vi b.h.to,.bool b.h.cycle,vi b.h.scan,.sl (b.h.low.map vu),.sl (b.h.high.map vu),.sl (b.h.old.map vu),.sl (b.h.far.map vu),.sl (b.h.roots.map vu),.sl (b.g.nodes.map Yj),.sl (b.g.roots.map vi),.sl (b.here.map Wd),.sl (b.old.map Wd)]
def Xl(b:Bt):V:=.agg [vu b.h.base,vi b.h.cap,vi b.h.to,.bool b.h.cycle,vi b.h.scan,.sl (b.h.low.map vu),.sl (b.h.high.map vu),.sl (b.h.old.map vu),.sl (b.h.far.map vu),.sl (b.h.roots.map vu),.sl (b.g.nodes.map Yj),.sl (b.g.roots.map vi),.sl (b.here.map Wd),.sl (b.old.map Wd)]
def YT(x:Rw)(cycle:Bool):Bt:=
 let g:=ZX x.nodes x.roots;let s:=Y3 x cycle g (P g.nodes);let cap:Int:=max ((s.n1:Int)+s.n2+s.wt) ((s.n3:Int)+s.n4)+pick x.slack 12
 ⟨⟨1+x.base% (9223372036854775808-2*cap),cap,pick x.to 2,cycle,if cycle=xy/\0<s.n1 then pick x.scan s.n1 else s.n1,List.replicate s.n1 0,List.replicate s.n2 0,List.replicate s.n3 0,List.replicate s.n4 0,[]⟩,g,s.here,s.old⟩
def Z7x{x:Rw}(hx:x.ok){cycle:Bool}:VC Sol.prog 45 xh [WC x,.bool cycle] (Xl (YT x cycle)):=by
 refine Y2 Sol.func45 follows Z2 c45 rfl ?_;simp[IR];refine Zz (Pd hx.ptrs hx.roots) Z1 ?_;obtain⟨K,L,B⟩:=AZ x.nodes x.roots;have M:=zY x.nodes x.roots;unfold YT;generalize ZX x.nodes x.roots=g at*;have l:∀n∈g.nodes,ZJ n<=9:=λn d=>by have:=B n d;unfold ZJ;omega
 simp;refine Vh 7 (xq g.nodes) (λi=>[(4,.m [.int .u64 0,.int .i64 0,.int .i64 0,.bool xh,.int .i64 0,.sl [],.sl [],.sl [],.sl [],.sl [],.sl (g.nodes.map Yj),.sl (g.roots.map vi),.sl ((Y3 x cycle g i).here.map Wd),.sl ((Y3 x cycle g i).old.map Wd)]),
  (5,.m [vi 0,vi (Y3 x cycle g i).n1,vi (Y3 x cycle g i).n2,vi (Y3 x cycle g i).n3,vi (Y3 x cycle g i).n4]),(6,.v (vi (Y3 x cycle g i).wt)),(7,.v (vi i))]) (λ_=>True) (by simp[Y3]) (λi=>Z1) trivial ?_
 rintro i P-;have o:=Zy ((i:Int)+1) Z0 Z0;obtain⟨s1,s2,s3,s4⟩:=Lf (x:=x) (cycle:=cycle) l i P;by_cases h:i<xq g.nodes;have d:g.nodes[i]?=xk g.nodes[i]:=ZdO h;have p:=l _ (Ze5 h);simp only[Y3,d,Zei];generalize Y3 x cycle g i=s at*;generalize g.nodes[i]=n at*;have N:=Z0D hx (i:=i) Z0 (cycle:=cycle);have C:=SG x i cycle;have w1:=Zy (1+(xq n.ptrs:Int)) (by unfold ZJ at p;omega) (by unfold ZJ at p;omega);have w2:=Zy (1+(xq n.ptrs:Int)+xq n.data) (by unfold ZJ at p;omega) (by unfold ZJ at p;omega);have f:(1+(xq n.ptrs:Int)+xq n.data)=(ZJ n:Nat):=by unfold ZJ;omega
 rw[f]at w2;simp[h];refine Zz N Z1 ?_;generalize I:ZJ n=sz at*;unfold Xc;generalize Wr x i=H at*;generalize WZ x i cycle=k at*;have t:=Zy ((s.n1:Int)+sz) Z0 Z0;have u:=Zy ((s.n2:Int)+sz) Z0 Z0;have w:=Zy ((s.n3:Int)+sz) Z0 Z0;have y:=Zy ((s.n4:Int)+sz) Z0 Z0;have z:=Zy ((s.wt:Int)+sz) Z0 Z0;have q:xq s.here+1<=Y5:=Zdk;have r:xq s.old+1<=Y5:=Zdk;obtain rfl|rfl|⟨rfl,rfl⟩:=C;cases cycle<;>simp[d,Yh d,w1,f,w2,Y9,UH,setCells,Zy,t,u,w,y,z,q,r,Wd,o];cases cycle;simp[d,Yh d,w1,f,w2,Y9,UH,setCells,Zy,t,u,w,y,z,q,r,Wd,o];cases H<;>simp[d,Yh d,w1,f,w2,Y9,UH,setCells,Zy,t,u,w,y,z,q,r,Wd,o];cases H<;>simp[d,Yh d,w1,f,w2,Y9,UH,setCells,Zy,t,u,w,y,z,q,r,Wd,o];have:i=xq g.nodes:=Z0;subst this;generalize R:Y3 x cycle g (xq g.nodes)=s at*;have G:=KM (c:=x.to) (n:=2) hx.to Z0;have F:=KM (c:=x.slack) (n:=12) hx.slack Z0;have S:=Tx (c:=x.slack) (n:=12) Z0;simp;refine Zz G Z1 ?_;have T:s.n1<=Y5:=Zdk;have U:s.n2<=Y5:=Zdk;have W:s.n3<=Y5:=Zdk;have X:s.n4<=Y5:=Zdk;simp[Y9,T,U,W,X];refine Zz F Z1 ?_;have w1:=Zy ((s.n1:Int)+s.n2) Z0 Z0;have w2:=Zy ((s.n1:Int)+s.n2+s.wt) Z0 Z0;have w3:=Zy ((s.n3:Int)+s.n4) Z0 Z0;have j:(if(s.n1:Int)+s.n2+s.wt< (s.n3:Int)+s.n4 then(s.n3:Int)+s.n4 else(s.n1:Int)+s.n2+s.wt)=max ((s.n1:Int)+s.n2+s.wt) ((s.n3:Int)+s.n4):=by split<;>omega
 obtain⟨cap,a⟩:∃cap:Int,max ((s.n1:Int)+s.n2+s.wt) ((s.n3:Int)+s.n4)+pick x.slack 12=cap:=⟨_,rfl⟩;have O:0<=cap/\cap<=200:=Z0;have w4:=Zy cap Z0 Z0;have Y:=ZZ cap Z0 Z0;have Z:=ZZ (2*cap) Z0 Z0;have w7:=ZZ (9223372036854775808-2*cap) Z0 Z0;obtain⟨J,b2⟩:=hx.base;have w8:x.base.tmod (9223372036854775808-2*cap)=x.base% (9223372036854775808-2*cap):=Zfb J;have h1:=ZhY x.base (Z0:(9223372036854775808-2*cap)≠0);have h2:=Zhm x.base (Z0:0< (9223372036854775808-2*cap));have w9:=ZZ (1+x.base% (9223372036854775808-2*cap)) Z0 Z0;have D:¬((9223372036854775808-2*cap)=0):=Z0;simp[Y9,w1,w2,w3,j,a,w4,Y,Z,w7,w8,w9,D];cases cycle;simp[Xl,a];by_cases A:0<s.n1;have Q:=KM (c:=x.scan) (n:=(s.n1:Int)) hx.scan Z0;simp[A];refine Zz Q Z1 ?_;simp[Xl,a,A,Y9];simp[Xl,a,A]
end Vm
namespace Vm
open Go Go.Proofs
@[simp]theorem Zca(b:Bt):Vz (Xl b) 14=xk (Xl b):=rfl
@[simp]theorem Z97(b:Bt):(Xl b).cells=XR b:=rfl
@[simp]theorem Z9W(b:Bt)(i:Nat):Y0 (Xl b) i=(XR b)[i]?.bind YR:=rfl
def Z4O(s p:Int):0<=(Uv s p).1/\(Uv s p).1<100000000:=by
 grind [Uv,YM]
def Pt(l:Ly)(g:l.fits)(p a:Int):0<=(Y4 l p a).1/\(Y4 l p a).1<=9223372036854775807:=by
 unfold Y4;split;simp;rename_i f;have d:ZI l=xy:=Zd9;split;simp;split;simp;have:=WG d p;omega
def Z5r{a:Int}:0<=(XN a).1/\(XN a).1<18446744073709551616:=by
 unfold XN;split;simp;omega
def YE(h:Hp)(p:Pl):Int:=if p.part=0 then 0 else(XN (Y4 (Zv h) p.part p.at_).1).1
theorem Ch(h:Hp)(p:Pl):ZC (YE h p):=by
 unfold YE;split;exact⟨Z0,Z0⟩;exact Z5r
def KY{b:Bt}(f:(Zv b.h).fits){p:Pl}:VC Sol.prog 79 xh [Xl b,Wd p] (vu (YE b.h p)):=by
 refine Y2 Sol.func79 follows Z2 c79 rfl ?_;by_cases d:p.part=0;simp[BE,XR,YE,d];have g:=Pt (Zv b.h) f p.part p.at_;simp[BE,XR,d];refine Zz (Z5X (h:=b.h)) ZdI ?_;simp;refine Zz (Z5V f (part:=p.part) (at_:=p.at_)) Z1 ?_;simp;refine Zz (Z5Z (a:=(Y4 (Zv b.h) p.part p.at_).1) ⟨g.1,Z0⟩) Z1 ?_;simp[YE,d]
def Vg(b:Bt)(p:Pl)(to tw:Int):Int:=
 if to<0 then 0 else if 2<p.part then YE b.h ((b.old[to.toNat]?).getD ⟨0,0⟩)
 else if p.part=1/\b.h.scan<=p.at_/\(((b.here[to.toNat]?).getD ⟨0,0⟩).part=0\/0< ((b.old[to.toNat]?).getD ⟨0,0⟩).part/\tw%2=0)then YE b.h ((b.old[to.toNat]?).getD ⟨0,0⟩)
 else YE b.h ((b.here[to.toNat]?).getD ⟨0,0⟩)
theorem Z7j(b:Bt)(p:Pl)(to tw:Int):ZC (Vg b p to tw):=by
 unfold Vg;split;exact⟨Z0,Z0⟩;grind [Ch]
def NT(t:Int):t.tmod 2=0↔t%2=0:=by
 grind
def Z7k{b:Bt}(l:(Zv b.h).fits){p:Pl}{to tw:Int}(r:to<P b.here)(h2:to<P b.old):VC Sol.prog 100 xh [Xl b,Wd p,vi to,vi tw] (vu (Vg b p to tw)):=by
 refine Y2 Sol.func100 follows Z2 t9 rfl ?_;by_cases o:to<0;simp[Se,XR,Vg,o];obtain⟨t,rfl⟩:=Zea (Z0:0<=to);have g1:b.here[t]?=xk (b.here[t]'Z0):=ZdO Z0;have g2:b.old[t]?=xk (b.old[t]'Z0):=ZdO Z0;generalize b.here[t]'Z0=x at*;generalize b.old[t]'Z0=y at*;unfold Vg;simp only[Zee,g1,g2,Zei,if_neg o];by_cases a:2<p.part;simp[Se,XR,a,g2];refine Zz (KY l (p:=y)) (by simp[Xl]) ?_;simp;have k1:=KY l (p:=x);have q:=KY l (p:=y);by_cases f:p.part=1;by_cases g:b.h.scan<=p.at_;by_cases j:x.part=0;simp[Se,XR,a,f,g,j,g1,g2];refine Zz q (by simp[Xl]) ?_;simp;by_cases n:0<y.part;by_cases k:tw%2=0;have d:=(NT tw).2 k;simp[Se,XR,a,f,g,j,n,k,d,g1,g2];refine Zz q (by simp[Xl]) ?_;simp;have d:=mt (NT tw).1 k;simp[Se,XR,a,f,g,j,n,k,d,g1,g2];refine Zz k1 (by simp[Xl]) ?_;simp;simp[Se,XR,a,f,g,j,n,g1,g2];refine Zz k1 (by simp[Xl]) ?_;simp;simp[Se,XR,a,f,g,g1,g2];refine Zz k1 (by simp[Xl]) ?_;simp;simp[Se,XR,a,f,g1,g2];refine Zz k1 (by simp[Xl]) ?_;simp
@[simp]theorem Z5z(x y:Int):V.put (vu x) 0 [vu y]=vu y:=rfl
def CD{l pre:List Int}{m:Nat}(h:P pre=m)(a:m<P l)(z:Int):(pre++l.drop m).set m z=pre++[z]++l.drop (m+1):=by
 subst h;rw[Zi3 _ _ (ZdU _),ZfJ,ZeN a,Zg0,ZeH];rfl
def XP(b:Bt)(p:Pl)(a:Nat)(d:List Int)(tw:Int):List Int:=(List.range (P d)).map λi=>Vg b ⟨p.part,((a+1+i:Nat):Int)⟩ ((d[i]?).getD 0) (IntKind.i64.wrap (tw+i))
def S3(b:Bt)(p:Pl)(a:Nat)(n:Nd)(tw:Int):List Int:=
 let l:=Zx b.h p.part
 l.take a++[(Uv ((P n.ptrs:Int)+P n.data) (P n.ptrs)).1]++XP b p a n.ptrs tw++n.data++l.drop (a+ZJ n)
def Wa(b:Bt)(p:Pl)(n:Nd)(tw:Int):Bt:= {b with h:=Xr b.h p.part (S3 b p p.at_.toNat n tw)}
def GO{b:Bt}(hb:(Zv b.h).fits){p:Pl}{n:Nd}{tw:Int}{a:Nat}(ha:p.at_=a)(a1:xq (Zx b.h p.part)<=1000000)(d:a+ZJ n<=xq (Zx b.h p.part))
  (h1:∀q∈n.ptrs,q<xq b.here/\q<xq b.old):VC Sol.prog 78 xh [Xl b,Wd p,Yj n,vi tw] (Xl (Wa b p n tw)):=by
 refine Y2 Sol.func78 follows Z2 c78 rfl ?_;have M:xq (Zx b.h p.part)<=Y5:=Zdk;have w1:=Zy ((xq n.ptrs:Int)+xq n.data) Zdm Zdm;unfold Wa;rw[show p.at_.toNat=a by omega];simp[M5,XR];refine Zz (T6 (h:=b.h) (n:=p.part)) ZdI ?_;simp[M,w1];refine Zz (Z5Y (s:=(xq n.ptrs:Int)+xq n.data) (p:=xq n.ptrs)) Z1 ?_;have O:a< xq (Zx b.h p.part):=Zdm;simp[ha,O];generalize U:Zx b.h p.part=l at*;generalize T:(Uv ((xq n.ptrs:Int)+xq n.data) (xq n.ptrs)).1=A at*;have D:(l.map vu).set a (vu A)=((l.take a++[A])++l.drop (a+1)).map vu:=by
  rw[<-ZgA];congr 1;have:=CD (l:=l) (pre:=l.take a) (m:=a) ZcP O A;rw[Zg1]at this;exact this
 simp only[Z5z,D];have H:=Zy ((a:Int)+1) Z0 Z0;have a2:xq n.ptrs<=xq l:=Zdm;have P:xq (XP b p a n.ptrs tw)=xq n.ptrs:=by simp[XP]
 refine Vh 11 (xq n.ptrs) (λk=>[(8,.v (.sl (((l.take a++[A]++(XP b p a n.ptrs tw).take k)++l.drop (a+1+k)).map vu))),(11,.v (vi k))]) (λ_=>True) Z1 (λi=>Z1) trivial ?_;rintro k hk-;have J:=Zy ((k:Int)+1) Z0 Z0;have X:=Zy ((a:Int)+1+k) Z0 Z0;by_cases o:k<xq n.ptrs;have K:n.ptrs[k]?=xk n.ptrs[k]:=ZdO o;obtain⟨q1,q2⟩:=h1 _ (Ze5 o);have t:=Z7k hb (p:=⟨p.part,((a+1+k:Nat):Int)⟩) (to:=n.ptrs[k]) (tw:=IntKind.i64.wrap (tw+k)) q1 q2;have W:(XP b p a n.ptrs tw)[k]?=xk (Vg b ⟨p.part,((a+1+k:Nat):Int)⟩ n.ptrs[k] (IntKind.i64.wrap (tw+k))):=by
  simp[XP,o]
 generalize n.ptrs[k]=q at*;generalize Vg b ⟨p.part,((a+1+k:Nat):Int)⟩ q (IntKind.i64.wrap (tw+k))=z at*;have G:(XP b p a n.ptrs tw).take (k+1)=(XP b p a n.ptrs tw).take k++[z]:=by rw[ZeM,W];rfl
 have r:xq (l.take a++[A]++(XP b p a n.ptrs tw).take k)=a+1+k:=by simp[P];omega
 have N:a+1+k<xq l:=Zdm;have F:=CD (l:=l) r N z;generalize C:l.take a++[A]++(XP b p a n.ptrs tw).take k=pre at*;have g:∃x,((pre++l.drop (a+1+k)).map vu)[a+1+k]?=xk (vu x):=by
  refine⟨l[a+1+k],?_⟩;rw[Zed,Zef Z0,r,ZfJ,ZeN N];rfl
 have f:((pre++l.drop (a+1+k)).map vu).set (a+1+k) (vu z)=(pre++[z]++l.drop (a+1+(k+1))).map vu:=by
  rw[<-ZgA,F];rfl
 obtain⟨m,B⟩:∃m:Nat,a+1+k=m:=⟨_,rfl⟩;have u:(a:Int)+1+k=m:=Z0;have w:=Zy (m:Int) Z0 Z0;rw[show a+1+(k+1)=a+1+k+1 by omega]at f⊢;rw[B]at g f t⊢;generalize S:(pre++l.drop m).map vu=LL at g f⊢;rw[G];obtain⟨y,hy⟩:=g;simp[o,K,Yh K,H,X,u,w];refine Zz t (by simp[Xl]) ?_;simp[hy,f,J,o,H,u,w];rw[<-C];simp;have:k=xq n.ptrs:=Z0;subst this;rw[show(XP b p a n.ptrs tw).take (xq n.ptrs)=XP b p a n.ptrs tw from ZeX Z0];have Y:=Zy ((a:Int)+1+xq n.ptrs) Z0 Z0;have Z:∀j:Nat,j<=1000+xq n.data->IntKind.i64.wrap ((a:Int)+1+xq n.ptrs+j)=(a:Int)+1+xq n.ptrs+j:=λj hj=>Zy _ Z0 Zdm;generalize Q:l.take a++[A]++XP b p a n.ptrs tw=sp at*;have R:xq sp=a+1+xq n.ptrs:=by rw[<-Q];simp[P];omega
 simp;refine Vh 13 (xq n.data) (λk=>[(8,.v (.sl (((sp++n.data.take k)++l.drop (a+1+xq n.ptrs+k)).map vu))),(13,.v (vi k))]) (λ_=>True) Z1 (λi=>Z1) trivial ?_;rintro k hk-;have J:=Zy ((k:Int)+1) Z0 Zdm;by_cases o:k<xq n.data;have K:n.data[k]?=xk n.data[k]:=ZdO o;generalize n.data[k]=z at*;have G:n.data.take (k+1)=n.data.take k++[z]:=by rw[ZeM,K];rfl
 have r:xq (sp++n.data.take k)=a+1+xq n.ptrs+k:=by simp[R];omega
 have N:a+1+xq n.ptrs+k<xq l:=Zdm;have F:=CD (l:=l) r N z;generalize C:sp++n.data.take k=pre at*;have g:∃x,((pre++l.drop (a+1+xq n.ptrs+k)).map vu)[a+1+xq n.ptrs+k]?=xk (vu x):=by
  refine⟨l[a+1+xq n.ptrs+k],?_⟩;rw[Zed,Zef Z0,r,ZfJ,ZeN N];rfl
 have f:((pre++l.drop (a+1+xq n.ptrs+k)).map vu).set (a+1+xq n.ptrs+k) (vu z)=(pre++[z]++l.drop (a+1+xq n.ptrs+k+1)).map vu:=by
  rw[<-ZgA,F]
 rw[show a+1+xq n.ptrs+(k+1)=a+1+xq n.ptrs+k+1 by omega];have a0:=Z k Z0;obtain⟨m,B⟩:∃m:Nat,a+1+xq n.ptrs+k=m:=⟨_,rfl⟩;have u:(a:Int)+1+xq n.ptrs+k=m:=Z0;have w:=Zy (m:Int) Z0 Z0;rw[B]at g f⊢;generalize S:(pre++l.drop m).map vu=LL at g f⊢;rw[G];obtain⟨y,hy⟩:=g;simp[o,K,Yh K,H,Y,a0,u,w,hy,f,J];rw[<-C];simp;have:k=xq n.data:=Z0;subst this;rw[show n.data.take (xq n.data)=n.data from Zft];have I:=DL (h:=b.h) (n:=p.part) (l:=sp++n.data++l.drop (a+1+xq n.ptrs+xq n.data));have L:S3 b p a n tw=sp++n.data++l.drop (a+1+xq n.ptrs+xq n.data):=by
  unfold S3;rw[U,T];dsimp only;rw[Q,show a+ZJ n=a+1+xq n.ptrs+(xq n.data) by unfold ZJ;omega]
 rw[L];generalize sp++n.data++l.drop (a+1+xq n.ptrs+xq n.data)=fin at*;simp;refine Zz I ZdI ?_;simp[Xl]
end Vm
namespace Vm
open Go Go.Proofs
def Ql(h:Hp):Prop:=(∀k,∀w∈Zx h k,ZC w)/\∀w∈h.roots,ZC w
structure BOk (b:Bt):Prop where
 lay:(Zv b.h).fits
 hl:P b.here=P b.g.nodes
 ol:P b.old=P b.g.nodes
 nn:P b.g.nodes<=10
 ptr:∀n∈b.g.nodes,∀q∈n.ptrs,q< (P b.g.nodes:Int)
 dat:∀n∈b.g.nodes,∀q∈n.data,ZC q
 rts:∀q∈b.g.roots,q< (P b.g.nodes:Int)
 rl:P b.g.roots<=5
 here:∀(i:Nat) (p:Pl) (n:Nd),b.here[i]?=xk p->b.g.nodes[i]?=xk n->p=⟨0,0⟩\/∃a:Nat,p.at_=a/\(p.part=1\/p.part=2)/\a+ZJ n<=P (Zx b.h p.part)
 old:∀(i:Nat) (p:Pl) (n:Nd),b.old[i]?=xk p->b.g.nodes[i]?=xk n->p=⟨0,0⟩\/∃a:Nat,p.at_=a/\(p.part=3\/p.part=4)/\a+ZJ n<=P (Zx b.h p.part)
 len:∀k,P (Zx b.h k)<=1000
 words:Ql b.h
theorem yN{h h':Hp}(a:Zv h'=Zv h)(k:Int):P (Zx h' k)=P (Zx h k):=by
 grind [Zv,Ly.mk.injEq,Zx]
def BOk.keep{b:Bt}(hb:BOk b){h':Hp}(hl:Zv h'=Zv b.h)(hw:Ql h'):BOk {b with h:=h'} where
 lay:=by show(Zv h').fits;rw[hl];exact hb.lay
 hl:=hb.hl
 ol:=hb.ol
 nn:=hb.nn
 ptr:=hb.ptr
 dat:=hb.dat
 rts:=hb.rts
 rl:=hb.rl
 here:=λi p n hp hn=>by
  obtain h|⟨a,h1,h2,h3⟩:=hb.here i p n hp hn;grind;grind [Zx,yN,hl]
 old:=λi p n hp hn=>by
  obtain h|⟨a,h1,h2,h3⟩:=hb.old i p n hp hn;grind;grind [Zx,yN,hl]
 len:=λk=>by show P (Zx h' k)<=1000;rw[yN hl];exact hb.len k
 words:=hw
def Di{h:Hp}{p:Int}{l:List Int}(a:P l=P (Zx h p)):Zv (Xr h p l)=Zv h:=by
 unfold Xr Zx at*;split;simp_all[if_pos,Zv];rename_i d;rw[if_neg d]at a;split;simp_all[if_pos,Zv];rename_i f;rw[if_neg f]at a;split;simp_all[if_pos,Zv];simp_all[if_neg,Zv]
def Z8j{h:Hp}{p:Int}{l:List Int}(a:Ql h)(k:∀w∈l,ZC w):Ql (Xr h p l):=by
 have d:=a.1 1;have f:=a.1 2;have g:=a.1 3;have j:=a.1 4;grind [Tw,Ja,yL,yM,ZC,Ql,Zx,Xr]
def Z31{b:Bt}{p:Pl}{a:Nat}{n:Nd}{tw:Int}(d:a+ZJ n<=P (Zx b.h p.part)):P (S3 b p a n tw)=P (Zx b.h p.part):=by
 grind [S3,ZJ,XP]
def Z32{b:Bt}{p:Pl}{a:Nat}{n:Nd}{tw:Int}(f:Ql b.h)(g:∀q∈n.data,ZC q):∀w∈S3 b p a n tw,ZC w:=by
 intro w d;unfold S3 at d;simp only[Zel,ZeS]at d;obtain(((d|d)|d)|d)|d:=d;exact f.1 _ w (ZeD d);subst d;have:=Z4O ((P n.ptrs:Int)+P n.data) (P n.ptrs);exact⟨this.1,Z0⟩;simp only[XP,Ze4]at d;obtain⟨i,_,rfl⟩:=d;grind [Z7j];grind;exact f.1 _ w (Zfn d)
def Uj(x:Rw)(b:Bt)(i:Nat)(n:Nd)(p:Pl):Bt:=if 0<p.part then Wa b p n (IntKind.i64.wrap (x.slack+i))else b
def Uk(b:Bt)(n:Nd)(p o:Pl):Bt:=if 0<o.part/\p.part=0 then Wa b o n 0 else b
def U3(b:Bt)(p o:Pl):Bt:=if 0<o.part/\0<p.part then {b with h:=Xr b.h o.part ((Zx b.h o.part).set o.at_.toNat (YE b.h p))}else b
def QD(x:Rw)(b:Bt)(i:Nat):Bt:=
 let n:=(b.g.nodes[i]?).getD default;let p:=(b.here[i]?).getD ⟨0,0⟩;let o:=(b.old[i]?).getD ⟨0,0⟩
 U3 (Uk (Uj x b i n p) n p o) p o
structure Like (b b':Bt):Prop where
 g:b'.g=b.g
 here:b'.here=b.here
 old:b'.old=b.old
 lay:Zv b'.h=Zv b.h
 words:Ql b'.h
 scan:b'.h.scan=b.h.scan
 cycle:b'.h.cycle=b.h.cycle
def Like.ok{b a:Bt}(o:Like b a)(n:BOk b):BOk a:=by
 obtain⟨q,p,d,l⟩:=a;obtain⟨f,g,h,j,k,_⟩:=o;simp only at f g h j k;subst f g h;exact n.keep j k
theorem Like.trans{a b c:Bt}(h:Like a b)(k:Like b c):Like a c:=⟨k.g.trans h.g,k.here.trans h.here,k.old.trans h.old,k.lay.trans h.lay,k.words,k.scan.trans h.scan,k.cycle.trans h.cycle⟩
def On(h:Hp)(p:Int)(l:List Int):(Xr h p l).scan=h.scan/\(Xr h p l).cycle=h.cycle:=by
 unfold Xr;grind
def GX{b:Bt}(a:BOk b){p:Int}{l:List Int}(d:P l=P (Zx b.h p))(f:∀w∈l,ZC w):Like b {b with h:=Xr b.h p l}:=
 ⟨rfl,rfl,rfl,Di d,Z8j a.words f,(On _ _ _).1,(On _ _ _).2⟩
def zR{b:Bt}(a:BOk b):Like b b:=⟨rfl,rfl,rfl,rfl,a.words,rfl,rfl⟩
def GW{b:Bt}(d:BOk b){p:Pl}{n:Nd}{tw:Int}{a:Nat}(f:p.at_=a)(g:a+ZJ n<=P (Zx b.h p.part))(j:∀q∈n.data,ZC q):Like b (Wa b p n tw):=by
 unfold Wa;rw[f,Zee];exact GX d (Z31 g) (Z32 d.words j)
def AG{x:Rw}{b:Bt}(d:BOk b){i:Nat}{n:Nd}{p:Pl}(f:b.g.nodes[i]?=xk n)(l:b.here[i]?=xk p):Like b (Uj x b i n p):=by
 unfold Uj;split;rename_i h;obtain rfl|⟨a,j,o,k⟩:=d.here i p n l f;simp at h;exact GW d j k (d.dat n (ZdW f));exact zR d
def AH{b:Bt}(d:BOk b){i:Nat}{n:Nd}{p o:Pl}(f:b.g.nodes[i]?=xk n)(l:b.old[i]?=xk o):Like b (Uk b n p o):=by
 unfold Uk;split;rename_i h;obtain rfl|⟨a,j,q,k⟩:=d.old i o n l f;simp at h;exact GW d j k (d.dat n (ZdW f));exact zR d
def Z36{b:Bt}(a:BOk b){p o:Pl}:Like b (U3 b p o):=by
 unfold U3;split;refine GX a Z1 λw d=> ?_;obtain h|rfl:=Zfr d;exact a.words.1 _ w h;exact Ch _ _;exact zR a
def Z37{x:Rw}{b:Bt}(a:BOk b){i:Nat}(f:i<P b.g.nodes):Like b (QD x b i):=by
 have h:b.g.nodes[i]?=xk b.g.nodes[i]:=ZdO f;have l:b.here[i]?=xk (b.here[i]'(by rw[a.hl];exact f)):=ZdO _;have k:b.old[i]?=xk (b.old[i]'(by rw[a.ol];exact f)):=ZdO _;unfold QD;simp only[h,l,k,Zei];have d:=AG (x:=x) a h l;have j:=AH (p:=b.here[i]'(by rw[a.hl];exact f)) (d.ok a) (by rw[d.g];exact h) (by rw[d.old];exact k);exact(d.trans j).trans (Z36 (j.ok (d.ok a)))
def U4(x:Rw)(b:Bt):Nat->Bt
 |0=>b
 |i+1=>QD x (U4 x b i) i
def Kg{x:Rw}{b:Bt}(a:BOk b):∀i,i<=P b.g.nodes->Like b (U4 x b i)
 |0,_=>zR a
 |i+1,d=>by
  have h:=Kg (x:=x) a i Z0;exact h.trans (Z37 (h.ok a) (by rw[h.g];omega))
def YH(x:Rw)(b:Bt):Hp:=
 let a:=U4 x b (P b.g.nodes)
 {a.h with roots:=b.g.roots.map λr=>if 0<=r then YE a.h ((b.here[r.toNat]?).getD ⟨0,0⟩)else 0}
def Z11{x:Rw}(hx:x.ok){b:Bt}(H:BOk b):VC Sol.prog 46 xh [Xl b,WC x] (ZQ (YH x b)):=by
 refine Y2 Sol.func46 follows Z2 c46 rfl ?_;simp[IS,XR];refine Vh 5 (xq b.g.nodes) (λi=>[(2,.m (XR (U4 x b i))),(5,.v (vi i))]) (λ_=>True) (by simp[U4,XR]) (λi=>Z1) trivial ?_;rintro i hi-;have F:=Kg (x:=x) H i hi;have J:=Zy ((i:Int)+1) (by have:=H.nn;omega) (by have:=H.nn;omega);by_cases h:i<xq b.g.nodes;have f:=F.ok H;simp only[U4];have z:i< (U4 x b i).g.nodes.length:=by rw[F.g];exact h
 generalize a3:U4 x b i=c at*;have t:c.g.nodes[i]?=xk c.g.nodes[i]:=ZdO z;have y:c.here[i]?=xk (c.here[i]'(by rw[f.hl];exact z)):=ZdO _;have w:c.old[i]?=xk (c.old[i]'(by rw[f.ol];exact z)):=ZdO _;unfold QD;simp only[t,y,w,Zei];generalize c.g.nodes[i]=n at*;generalize c.here[i]'(by rw[f.hl];exact z)=p at*;generalize c.old[i]'(by rw[f.ol];exact z)=o at*;have S:∀q∈n.ptrs,q< (xq c.here:Int)/\q< (xq c.old:Int):=λq T=>by
  have:=f.ptr n (ZdW t) q T;rw[f.hl,f.ol];exact⟨this,this⟩
 have kA:=AG (x:=x) f t y;have bA:=kA.ok f;have kO:=AH (p:=p) bA (by rw[kA.g];exact t) (by rw[kA.old];exact w);have bO:=kO.ok bA;have I:xq c.g.nodes=xq b.g.nodes:=by rw[F.g]
 have a5:c.g=b.g:=F.g;have Q:0<p.part->VC Sol.prog 78 xh [Xl c,Wd p,Yj n,vi (IntKind.i64.wrap (x.slack+i))] (Xl (Wa c p n (IntKind.i64.wrap (x.slack+i)))):=λN=>by
  obtain rfl|⟨a,K,X,L⟩:=f.here i p n y t;simp at N;exact GO f.lay K (by have:=f.len p.part;omega) L S
 have M:0<o.part->VC Sol.prog 78 xh [Xl c,Wd o,Yj n,vi 0] (Xl (Wa c o n 0)):=λN=>by
  obtain rfl|⟨a,K,X,L⟩:=f.old i o n w t;simp at N;exact GO f.lay K (by have:=f.len o.part;omega) L S
 have a1:p.part=0\/0<p.part:=by
  obtain rfl|⟨a,K,X,L⟩:=f.here i p n y t;exact .inl rfl;exact .inr Z0
 have R:o.part=0\/0<o.part:=by
  obtain rfl|⟨a,K,X,L⟩:=f.old i o n w t;exact .inl rfl;exact .inr Z0
 obtain u|u:=a1;obtain j|j:=R;simp[XR,h,z,I,t,y,w,Yh t,Yh y,Yh w,Uj,Uk,U3,u,j,J];have a6:¬0<p.part:=Z0;have A:Like c (Wa c o n 0):=by
  have:=AH (p:=p) f t w;unfold Uk at this;rwa[if_pos ⟨j,u⟩]at this
 have a0:=M j;simp[XR,h,z,I,t,y,w,Yh t,Yh y,Yh w,Uj,Uk,U3,u,j,J];generalize Wa c o n 0=d at*;obtain⟨d1,d2,d3,d4,Y,_,_⟩:=A;refine Zz a0 (by simp[Xl]) ?_;simp[XR,d1,d2,d3,t,y,w,Yh t,Yh y,Yh w,u,j,J,h];have C:¬p.part=0:=Z0;have A:Like c (Wa c p n (IntKind.i64.wrap (x.slack+i))):=by
  have:=AG (x:=x) f t y;unfold Uj at this;rwa[if_pos u]at this
 have P:=Q u;have W:=A.ok f;obtain j|j:=R;simp[XR,h,z,I,t,y,w,Yh t,Yh y,Yh w,Uj,Uk,U3,u,j,C,J];generalize Wa c p n (IntKind.i64.wrap (x.slack+i))=d at*;obtain⟨d1,d2,d3,d4,Y,_,_⟩:=A;refine Zz P (by simp[Xl]) ?_;simp[XR,d1,d2,d3,t,y,w,Yh t,Yh y,Yh w,u,j,C,J,h];simp[XR,h,z,I,t,y,w,Yh t,Yh y,Yh w,Uj,Uk,U3,u,j,C,J];generalize Wa c p n (IntKind.i64.wrap (x.slack+i))=d at*;obtain⟨d1,d2,d3,d4,Y,_,_⟩:=A;refine Zz P (by simp[Xl]) ?_;simp[XR,d1,d2,d3,t,y,w,Yh t,Yh y,Yh w,u,j,C,J,h];obtain rfl|⟨a,K,X,L⟩:=f.old i o n w t;simp at j;have a4:=W.len o.part;have B:xq (Zx d.h o.part)<=Y5:=Zdk;have Z:a< xq (Zx d.h o.part):=by
  have:=yN d4 o.part;unfold ZJ at L;omega
 refine Zz (T6 (h:=d.h) (n:=o.part)) ZdI ?_;simp[B,y];refine Zz (KY (b:=⟨d.h,c.g,c.here,c.old⟩) W.lay (p:=p)) Z1 ?_;simp[K,Z,w,Yh w];have G:=DL (h:=d.h) (n:=o.part) (l:=(Zx d.h o.part).set a (YE d.h p));rw[ZgA]at G;refine Zz G ZdI ?_;simp[J,h,d1,d2,d3];have:i=xq b.g.nodes:=Z0;subst this;have W:=F.ok H;unfold YH;generalize U4 x b (xq b.g.nodes)=d at*;obtain⟨d1,d2,d3,d4,Y,_,_⟩:=F;simp[XR,d1,d2,d3];refine Vh 13 (xq b.g.roots) (λk=>[(12,.v (.sl ((b.g.roots.take k).map λr=>vu (if 0<=r then YE d.h ((b.here[r.toNat]?).getD ⟨0,0⟩)else 0)))),(13,.v (vi k))]) (λ_=>True) Z1 (λi=>Z1) trivial ?_;rintro k hk-;have a7:=H.rl;have U:=Zy ((k:Int)+1) Z0 Z0;by_cases D:k<xq b.g.roots;have O:b.g.roots[k]?=xk b.g.roots[k]:=ZdO D;have a8:=H.rts _ (Ze5 D);generalize b.g.roots[k]=r at*;have a2:b.g.roots.take (k+1)=b.g.roots.take k++[r]:=by rw[ZeM,O];rfl
 have B:min k (xq b.g.roots)+1<=Y5:=Zdk;by_cases N:0<=r;obtain⟨q,rfl⟩:=Zea N;have T:b.here[q]?=xk (b.here[q]'(by rw[H.hl];omega)):=ZdO _;generalize b.here[q]'(by rw[H.hl];omega)=p at*;simp[D,O,Yh O,T,Yh T];refine Zz (KY (b:=⟨d.h,b.g,b.here,b.old⟩) W.lay (p:=p)) Z1 ?_;simp[U,B,D];rw[ZeM,Zed,O];simp[T];simp[D,O,Yh O,N,U,B,a2,D];have:k=xq b.g.roots:=Z0;subst this;simp[ZQ]
end Vm
namespace Vm
open Go Go.Proofs
def PIn(s:St8)(p:Pl)(sz:Nat):Prop:=p=⟨0,0⟩\/∃a:Nat,p.at_=a/\((p.part=1/\a+sz<=s.n1)\/(p.part=2/\a+sz<=s.n2))
def POl(s:St8)(p:Pl)(sz:Nat):Prop:=p=⟨0,0⟩\/∃a:Nat,p.at_=a/\((p.part=3/\a+sz<=s.n3)\/(p.part=4/\a+sz<=s.n4))
def Z7w{x:Rw}{cycle:Bool}{sz i:Nat}{s:St8}:s.n1<=(Xc x cycle sz i s).n1/\s.n2<=(Xc x cycle sz i s).n2/\s.n3<=(Xc x cycle sz i s).n3/\s.n4<=(Xc x cycle sz i s).n4:=by
 grind [Xc]
def PIn.mono{s t:St8}{p:Pl}{sz:Nat}(h:PIn s p sz)(g:s.n1<=t.n1)(h2:s.n2<=t.n2):PIn t p sz:=by
 obtain h|⟨a,f,⟨d,h⟩|⟨d,h⟩⟩:=h;exact .inl h;exact .inr ⟨a,f,.inl ⟨d,Z0⟩⟩;exact .inr ⟨a,f,.inr ⟨d,Z0⟩⟩
def POl.mono{s t:St8}{p:Pl}{sz:Nat}(h:POl s p sz)(g:s.n3<=t.n3)(h2:s.n4<=t.n4):POl t p sz:=by
 obtain h|⟨a,f,⟨d,h⟩|⟨d,h⟩⟩:=h;exact .inl h;exact .inr ⟨a,f,.inl ⟨d,Z0⟩⟩;exact .inr ⟨a,f,.inr ⟨d,Z0⟩⟩
def NG{x:Rw}{cycle:Bool}{g:Gr}(k:∀n∈g.nodes,ZJ n<=9):∀i,i<=P g.nodes->∀(j:Nat) (n:Nd),g.nodes[j]?=xk n->
  (∀p,(Y3 x cycle g i).here[j]?=xk p->PIn (Y3 x cycle g i) p (ZJ n))/\(∀p,(Y3 x cycle g i).old[j]?=xk p->POl (Y3 x cycle g i) p (ZJ n))
 |0,_,j,n,h=>⟨λp a=>by simp[Y3]at a,λp a=>by simp[Y3]at a⟩
 |i+1,C,j,n,h=>by
  obtain⟨o,q⟩:=NG (x:=x) (cycle:=cycle) k i Z0 j n h;obtain⟨_,_,u,w⟩:=Lf (x:=x) (cycle:=cycle) k i Z0;have d:g.nodes[i]?=xk g.nodes[i]:=ZdO Z0;simp only[Y3,d,Zei];generalize Y3 x cycle g i=s at*;obtain⟨y,z,A,B⟩:=Z7w (x:=x) (cycle:=cycle) (sz:=ZJ g.nodes[i]) (i:=i) (s:=s);have t:j<P g.nodes:=(ZdQ.1 h).1;constructor;intro p a;by_cases r:j<i;have:s.here[j]?=xk p:=by
   simp only[Xc]at a;rwa[Zeq Z0]at a
  exact(o p this).mono y z;by_cases f:j=i;subst f;rw[d]at h;cases h;simp only[Xc]at a;rw[Zef Z0,u,ZfJ]at a;simp only[Zgc,ZdP]at a;subst a;unfold PIn;obtain l|l|⟨l,rfl⟩:=SG x j cycle;grind [Xc];grind [Xc];simp_all;grind [Xc,List.getElem?_eq_some_iff];intro p a;by_cases r:j<i;have:s.old[j]?=xk p:=by
   simp only[Xc]at a;rwa[Zeq Z0]at a
  exact(q p this).mono A B;by_cases f:j=i;subst f;rw[d]at h;cases h;simp only[Xc]at a;rw[Zef Z0,w,ZfJ]at a;grind [List.getElem?_cons_zero,Option.some.injEq,POl,decide,WZ,Wr,Xc];grind [Xc,List.getElem?_eq_some_iff]
def Hk(l:List Nd)(a:List Int):∀n∈(ZX l a).nodes,∀q∈n.ptrs,-1<=q/\q< ((ZX l a).nodes.length:Int):=by
 intro n d q f;rw[zY];simp only[ZX,Ze4]at d;obtain⟨y,_,rfl⟩:=d;simp only[UN,Ze4]at f;obtain⟨p,_,rfl⟩:=f;exact N3
def Z3G(l:List Nd)(a:List Int):∀q∈(ZX l a).roots,-1<=q/\q< ((ZX l a).nodes.length:Int):=by
 intro q d;rw[zY];simp only[ZX]at d;split at d;grind;simp only[Ze4]at d;obtain⟨p,_,rfl⟩:=d;exact N3
def Z3E(l:List Nd)(a:List Int)(f:∀n∈l,∀q∈n.data,ZC q):∀n∈(ZX l a).nodes,∀q∈n.data,ZC q:=by
 intro n d q g;simp only[ZX,Ze4]at d;obtain⟨y,h,rfl⟩:=d;grind [UN,List.mem_of_mem_take]
def Re{x:Rw}(hx:x.ok)(cycle:Bool):BOk (YT x cycle)/\Yt (YT x cycle).h.scan/\ZI (Zv (YT x cycle).h)=xy:=by
 obtain⟨w,u,y⟩:=AZ x.nodes x.roots;have z:=zY x.nodes x.roots;have K:=Hk x.nodes x.roots;have L:=Z3G x.nodes x.roots;have B:=Z3E x.nodes x.roots hx.data;unfold YT;generalize ZX x.nodes x.roots=g at*;have t:∀n∈g.nodes,ZJ n<=9:=λn J=>by grind [ZJ]
 obtain⟨M,N,F,G⟩:=Lf (x:=x) (cycle:=cycle) t (P g.nodes) (ZdU _);have r:=NG (x:=x) (cycle:=cycle) t (P g.nodes) (ZdU _);dsimp only;generalize Y3 x cycle g (P g.nodes)=s at*;have C:=Tx (c:=x.slack) (n:=12) Z0;have D:=Tx (c:=x.to) (n:=2) Z0;obtain⟨cap,q⟩:∃cap:Int,max ((s.n1:Int)+s.n2+s.wt) ((s.n3:Int)+s.n4)+pick x.slack 12=cap:=⟨_,rfl⟩;rw[q];have A:0<=cap/\cap<=200:=Z0;have H:=ZhY x.base (Z0:(9223372036854775808-2*cap)≠0);have I:=Zhm x.base (Z0:0< (9223372036854775808-2*cap));generalize x.base% (9223372036854775808-2*cap)=base at*;have l:Yt (if cycle=xy/\0<s.n1 then pick x.scan s.n1 else s.n1):=by
  split;rename_i h;have:=Tx (c:=x.scan) (n:=s.n1) Z0;exact⟨Z0,Z0⟩;exact⟨Z0,Z0⟩
 refine⟨⟨?_,?_,?_,?_,?_,?_,?_,?_,?_,?_,?_,?_⟩,l,?_⟩;refine⟨⟨?_,?_⟩,⟨?_,?_⟩,⟨?_,?_⟩,⟨?_,?_⟩,⟨?_,?_⟩,⟨?_,?_⟩,⟨?_,?_⟩⟩<;>simp[Zv]<;>omega;exact F;exact G;simp_all;grind;exact B;simp_all;exact u;intro i p n j f;rcases(r i n f).1 p j with h|⟨a,o,⟨d,h⟩|⟨d,h⟩⟩;grind;exact .inr ⟨a,o,.inl d,ZcO⟩;exact .inr ⟨a,o,.inr d,ZcO⟩;intro i p n j f;rcases(r i n f).2 p j with h|⟨a,o,⟨d,h⟩|⟨d,h⟩⟩;grind;exact .inr ⟨a,o,.inl d,ZcO⟩;exact .inr ⟨a,o,.inr d,ZcO⟩;grind [Zx];refine⟨λk=> ?_,Z1⟩;grind [List.replicate,ZC,Zx];refine WB.2 ?_;simp only[Zv,Zi2];omega
def Rf(x:Rw):Hp:=YH x (YT x xh)
def Pr{x:Rw}(hx:x.ok):VC Sol.prog 35 xh [WC x] (ZQ (Rf x)):=by
 refine Y2 Sol.func35 follows Z2 c35 rfl ?_;simp[IP];refine Zz (Z7x hx (cycle:=xh)) (by simp[WC]) ?_;simp;refine Zz (Z11 hx (Re hx xh).1) Z1 ?_;simp;rfl
def jL{x:Rw}{b:Bt}(l:BOk b)(t:Yt b.h.scan):(YH x b).ok/\Zv (YH x b)=Zv b.h/\(YH x b).scan=b.h.scan/\(YH x b).cycle=b.h.cycle:=by
 have j:=Kg (x:=x) l (P b.g.nodes) (ZdU _);have o:=j.ok l;unfold YH;generalize U4 x b (P b.g.nodes)=d at*;obtain⟨k,B,C,D,F,G,H,I,J,p,a,f⟩:=o;have u:=a 1;have y:=a 2;have z:=a 3;have A:=a 4;have w1:=f.1 1;have w2:=f.1 2;have w3:=f.1 3;have w4:=f.1 4;simp only[Tw,Ja,yL,yM]at u y z A w1 w2 w3 w4;have q:=l.rl;refine⟨⟨k.1,k.2.1,k.2.2.1,by rw[j.scan];exact t,?_,?_,?_,?_,?_,w1,w2,w3,w4,?_⟩,j.lay,j.scan,j.cycle⟩;grind;grind;grind;grind;simp;omega;intro w n;simp only[Ze4]at n;obtain⟨r,_,rfl⟩:=n;split;exact Ch _ _;exact⟨Z0,Z0⟩
end Vm
end
section

end
section
namespace Vm
open Go Go.Proofs
structure Ob where
 at_:Int
 size:Int
 ptrs:Int
 gone:Bool
 target:Int
 deriving DecidableEq,Inhabited
def ZL(o:Ob):V:=.agg [vi o.at_,vi o.size,vi o.ptrs,.bool o.gone,vu o.target]
@[simp]theorem Zcg(o:Ob):Vz (ZL o) 5=xk (ZL o):=rfl
@[simp]theorem ZaM(o:Ob):Um (ZL o) 0 5=xk (ZL o):=rfl
@[simp]theorem Zbk(o:Ob):(ZL o).cells=[vi o.at_,vi o.size,vi o.ptrs,.bool o.gone,vu o.target]:=rfl
@[simp]theorem Zaq(o:Ob):Y0 (ZL o) 0=xk (vi o.at_):=rfl
@[simp]theorem Zar(o:Ob):Y0 (ZL o) 1=xk (vi o.size):=rfl
@[simp]theorem Zas(o:Ob):Y0 (ZL o) 2=xk (vi o.ptrs):=rfl
@[simp]theorem Zat(o:Ob):Y0 (ZL o) 3=xk (.bool o.gone):=rfl
@[simp]theorem Zau(o:Ob):Y0 (ZL o) 4=xk (vu o.target):=rfl
@[simp]theorem ZaN(o:Ob):Um (ZL o) 1 2=xk (Jk o.size o.ptrs):=rfl
def Wh(s:Int×Int):V:=Jk s.1 s.2
@[simp]theorem Zc3(s:Int×Int):(Wh s).cells=[vi s.1,vi s.2]:=rfl
@[simp]theorem Zcj(s:Int×Int):Vz (Wh s) 2=xk (Wh s):=rfl
@[simp]theorem ZaP(s:Int×Int):Um (Wh s) 0 2=xk (Wh s):=rfl
@[simp]theorem ZaE(s:Int×Int):Y0 (Wh s) 0=xk (vi s.1):=rfl
@[simp]theorem ZaF(s:Int×Int):Y0 (Wh s) 1=xk (vi s.2):=rfl
def Uq(w:Int):Bool:=decide (w=0)||decide ((adr w).2=0)
def XQ(l:Zc)(gone:Bool)(ptrs:Int)(i:Nat):Bool:=
 match l with
 | []=>xy
 |w::l=>(!gone||decide (w=0))&&(!decide ((i:Int)<ptrs)||Uq w)&&XQ l gone ptrs (i+1)
def Z7n{l:Zc}{gone:Bool}{ptrs:Int}{i:Nat}{w:Int}(h:l[i]?=xk w):XQ (l.drop i) gone ptrs i=((!gone||decide (w=0))&&(!decide ((i:Int)<ptrs)||Uq w)&&XQ (l.drop (i+1)) gone ptrs (i+1)):=by
 obtain⟨a,d⟩:=ZdQ.1 h;rw[ZeN a,d];rfl
def Wc(shs:List (Int×Int))(old:Bool)(at_ a:Nat)(w:Int):Option (Ob×Nat):=
 if old=xy/\(adr w).2=0 then
  match shs[a]? with
  |none=>xw
  |some s=>if Yz s.1 s.2 then xk (⟨at_,s.1,s.2,xy,(adr w).1⟩,a+1)else xw
 else if(ZS w).2.2=0 then xk (⟨at_,(ZS w).1,(ZS w).2.1,xh,0⟩,a)else xw
def D7{w:Int}(h:(ZS w).2.2=0):Yz (ZS w).1 (ZS w).2.1=xy:=by
 unfold ZS at*;grind
def yn{shs:List (Int×Int)}{old:Bool}{at_ d:Nat}{w:Int}{o:Ob}{t:Nat}(h:Wc shs old at_ d w=xk (o,t)):Yz o.size o.ptrs=xy/\o.at_=at_:=by
 unfold Wc at h;split at h;grind;split at h;rename_i a;cases h;exact⟨D7 a,rfl⟩;cases h
def Xu(ws:Zc)(shs:List (Int×Int))(old:Bool):Nat->Nat->Nat->List Ob->List Ob×Int
 |0,_,_,_=>([],3)
 |f+1,at_,d,a=>
  match ws[at_]? with
  |none=>if d<(P shs) then([],3)else(a,0)
  |some w=>match Wc shs old at_ d w with
   |none=>([],3)
   |some (o,t)=>
    if(P ws:Int)<at_+1+o.size then([],2)
    else if XQ ((ws.drop (at_+1)).take o.size.toNat) o.gone o.ptrs 0=xh then([],3)
    else Xu ws shs old f (at_+1+o.size.toNat) t (a++[o])
def ZP(ws:Zc)(shs:List (Int×Int))(old:Bool):List Ob×Int:=Xu ws shs old (P ws+1) 0 0 []
def Jy(n:Nat)(o:Ob):Prop:=(∃a:Nat,o.at_=a/\(a:Int)+1+o.size<=n)/\Yz o.size o.ptrs=xy
def Z4c{shs:List (Int×Int)}{old:Bool}{at_ d:Nat}{w:Int}{o:Ob}{t:Nat}(a:ZC w)(h:Wc shs old at_ d w=xk (o,t)):ZC o.target:=by
 unfold Wc at h;split at h;split at h;cases h;split at h;cases h;obtain⟨f,g⟩:=a;show 0<=(adr w).1/\(adr w).1<18446744073709551616;grind [adr];cases h;split at h;cases h;show(0:Int)<=0/\(0:Int)<18446744073709551616;omega;cases h
abbrev Zn:=List Ob
def Od{ws:Zc}{shs:List (Int×Int)}{old:Bool}(k:∀w∈ws,ZC w):∀(f at_ l:Nat) (d:Zn),(∀o∈d,Jy (P ws) o/\ZC o.target)->∀o∈(Xu ws shs old f at_ l d).1,Jy (P ws) o/\ZC o.target
 |0,_,_,_,_=>by simp[Xu]
 |f+1,at_,l,d,a=>by
  simp only[Xu];split;split;simp;exact a;rename_i w q;split;simp;rename_i o t j;split;simp;rename_i u;split;simp;refine Od k f _ _ _ λr g=> ?_;obtain h|h:=Zel.1 g;exact a r h;simp only[ZeS]at h;subst h;obtain⟨n,p⟩:=yn j;exact⟨⟨⟨at_,p,Z0⟩,n⟩,Z4c (k w (ZdW q)) j⟩
def Oh{ws:Zc}{shs:List (Int×Int)}{old:Bool}(a:∀w∈ws,ZC w):∀o∈(ZP ws shs old).1,Jy (P ws) o/\ZC o.target:=Od a _ _ _ _ Z1
def Oe{ws:Zc}{shs:List (Int×Int)}{old:Bool}:∀(f at_ g:Nat) (a:Zn),at_<=P ws->P a<=at_->(Xu ws shs old f at_ g a).1.length<=P ws
 |0,_,_,_,_,_=>by simp[Xu]
 |f+1,at_,g,a,k,d=>by
  simp only[Xu];split;split;simp;simp only;omega;split;simp;rename_i o t h;split;simp;rename_i l;split;simp;have j:=YM.1 (yn h).1;refine Oe f _ _ _ Z0 ZcP
def Oi{ws:Zc}{shs:List (Int×Int)}{old:Bool}:(ZP ws shs old).1.length<=P ws:=Oe _ _ _ _ Z0 Z1
end Vm
end
section

end
section
namespace Vm
open Go Go.Proofs
def X1(h:Hp)(part at_:Int):Int:=(Y4 (Zv h) part at_).1
def Yx(h:Hp)(part:Int)(l:Zn)(a:Int):Option Ob:=l.find? λo=>X1 h part o.at_==a
theorem Ek{h:Hp}{part a:Int}{l:Zn}{o:Ob}(d:Yx h part l a=xk o):o∈l:=Zgu d
def V5(h:Hp)(ws:Zc)(low:Zn):Nat->Nat->List (Int×Int)->Option (List (Int×Int))
 |0,_,_=>xw
 |f+1,i,a=>
  match ws[i]? with
  |none=>xk a
  |some w=>if(adr w).2=0 then(match Yx h 1 low (adr w).1 with|none=>xw|some o=>V5 h ws low f (i+1+o.size.toNat) (a++[(o.size,o.ptrs)]))
   else if(ZS w).2.2=0 then V5 h ws low f (i+1+(ZS w).1.toNat) a else xw
def Vy(h:Hp)(ws:Zc)(low:Zn):Option (List (Int×Int)):=V5 h ws low (P ws+1) 0 []
structure Pts where
 low:List Ob
 high:List Ob
 old:List Ob
 far:List Ob
 deriving Inhabited
def Pts.at(p:Pts)(k:Int):List Ob:=if k=1 then p.low else if k=2 then p.high else if k=3 then p.old else p.far
@[simp]theorem Pts.at1(p:Pts):p.at 1=p.low:=rfl
@[simp]theorem Pts.at2(p:Pts):p.at 2=p.high:=rfl
@[simp]theorem Pts.at3(p:Pts):p.at 3=p.old:=rfl
@[simp]theorem Pts.at4(p:Pts):p.at 4=p.far:=rfl
def XD(h:Hp):Option Pts:=
 let low:=ZP h.low [] xh;let high:=ZP h.high [] xh
 if low.2≠0\/high.2≠0 then xw else
 let p:=Vy h h.old low.1;let q:=Vy h h.far low.1;let d:=ZP h.old (p.getD []) xy;let a:=ZP h.far (q.getD []) xy
 if p=xw\/q=xw\/d.2≠0\/a.2≠0 then xw else xk ⟨low.1,high.1,d.1,a.1⟩
def Xz(h:Hp)(p:Pts)(w one a:Int):Bool:=decide (w=0)||(decide ((adr w).2=0)&&((Yx h one (p.at one) (adr w).1).isSome||(Yx h a (p.at a) (adr w).1).isSome))
def WX(o:Ob):Nat:=if o.gone then 0 else 1+o.size.toNat
def Ys(l:Zn):Nat:=(l.map WX).sum
def OF{l:Zn}{i:Nat}{o:Ob}(h:l[i]?=xk o):Ys (l.take (i+1))=Ys (l.take i)+WX o:=by
 simp_all[Ys,ZeM,Zfe,List.sum_append]
def Js{l:Zn}(h:∀o∈l,Yz o.size o.ptrs=xy):Ys l<=256*P l:=by
 induction l with
 |nil=>simp[Ys]
 |cons o l a=>
  grind [YM,WX,Ys,List.length_cons]
def Wp(p:Pts):Nat:=Ys p.old+Ys p.far
def X2(l:Zn)(a:Int):Nat:=P (l.filter λo=>o.gone&&decide (o.target=a))
def UB(p:Pts)(a:Int):Nat:=X2 p.old a+X2 p.far a
def Tr(h:Hp):Bool:=
 ZI (Zv h)&&decide (P h.roots<=16)&&decide (0<=h.scan)&&decide (h.scan<=P h.low)&&
  (if h.cycle then decide (h.scan<P h.low)else decide (h.scan=P h.low)&&decide (P h.old=0)&&decide (P h.far=0))
def Uc(h:Hp)(p:Pts)(part:Int)(k:Nat):Bool:=
 let w:=((Zx h part)[k]?).getD 0;let a:=Xz h p w 1 2;let from_:=Xz h p w 3 4
 if 2<part then from_ else if part=1/\h.scan<=k then a||from_ else a
def ym(h:Hp)(p:Pts)(part:Int)(o:Ob):Bool:=(List.range o.ptrs.toNat).all λj=>Uc h p part (o.at_.toNat+1+j)
def Wx(h:Hp)(p:Pts)(part:Int):Bool:=(p.at part).all (ym h p part)
def DU{α:Type}{q:α->Bool}{l:List α}{i:Nat}{x:α}(h:l[i]?=xk x):(l.take (i+1)).all q=((l.take i).all q&&q x):=by
 rw[ZeM,h,ZhZ];simp
def DT{α:Type}{q:α->Bool}{l:List α}{i:Nat}{x:α}(h:l[i]?=xk x)(a:q x=xh):l.all q=xh:=by
 grind
def Rg(h:Hp)(p:Pts)(o:Ob):Bool:=decide (UB p (X1 h 1 o.at_)=1)
def Sm(h:Hp)(p:Pts):Bool:=
 (!h.cycle||p.low.all (Rg h p))&&h.roots.all (λw=>Xz h p w 1 2)&&Wx h p 1&&Wx h p 2&&Wx h p 3&&Wx h p 4&&decide ((P h.low:Int)+P h.high+Wp p<=h.cap)
def YS(h:Hp):Bool:=Tr h&&match XD h with
 |none=>xh
 |some p=>Sm h p
def XM{h:Hp}(a:h.ok)(k:Int):(∀w∈Zx h k,ZC w)/\P (Zx h k)<=1000000:=by
 unfold Zx;split;exact⟨a.lowW,a.low⟩;split;exact⟨a.highW,a.high⟩;split;exact⟨a.oldW,a.old⟩;exact⟨a.farW,a.far⟩
def Z6j{h:Hp}(a:YS h=xy):∃p,XD h=xk p/\Sm h p=xy/\Tr h=xy:=by
 unfold YS at a;grind
def Uu(h:Hp)(part:Int):List Ob×Int:=if YS h=xy/\1<=part/\part<=4 then(((XD h).getD default).at part,0)else([],1)
def Jq(h:Hp):Int:=if YS h then Wp ((XD h).getD default)else 0
end Vm
end
section

end
section
namespace Vm
open Go Go.Proofs
def LC{w:Int}(a:ZC w):ZC (adr w).1:=by
 grind [ZC,adr]
def Z12{l:Ly}{a:Int}(h:(Ye l a).2.2=0):ZI l=xy/\1<=(Ye l a).1/\(Ye l a).1<=4/\0<=(Ye l a).2.1/\(Ye l a).2.1<X0 l (Ye l a).1/\a=ZB l (Ye l a).1+(Ye l a).2.1:=by
 unfold Ye at*;cases k:ZI l;grind;simp only[k]at h⊢;simp only[Zfv,Zex]at h⊢;by_cases d:X7 l a 1=xy;rw[if_pos d];have:=TZ.1 d;grind;rw[if_neg d]at h⊢;by_cases f:X7 l a 2=xy;rw[if_pos f];have:=TZ.1 f;grind;rw[if_neg f]at h⊢;by_cases g:X7 l a 3=xy;rw[if_pos g];have:=TZ.1 g;grind;rw[if_neg g]at h⊢;by_cases j:X7 l a 4=xy;rw[if_pos j];have:=TZ.1 j;grind;simp_all
theorem TC{h:Hp}{k:Int}(a:1<=k/\k<=4):X0 (Zv h) k=P (Zx h k):=by
 have:k=1\/k=2\/k=3\/k=4:=Z0;obtain rfl|rfl|rfl|rfl:=this<;>rfl
def Hp.zero:Hp:=⟨0,0,0,xh,0,[],[],[],[],[]⟩
def zr(ws:List Int)(a:Nat):Nat->List Int
 |0=>ws
 |i+1=>(zr ws a i).set (a+i) 0
@[simp]theorem qV(ws:List Int)(a n:Nat):P (zr ws a n)=P ws:=by
 induction n with
 |zero=>rfl
 |succ n d=>simp[zr,d]
def Xw(h:Hp)(part:Int)(a n:Nat):Hp:= {h with low:=h.low++((Zx h part).take (a+n)).drop a}
def TU(h:Hp)(part:Int)(a n:Nat):Int×Hp×Int:=
 if P (Zx h part)<a+n then(0,Hp.zero,2)
 else if Xx (Zv h)<n then(0,Hp.zero,7)
 else
  let d:=(XN (Y4 (Zv (Xw h part a n)) 1 (P h.low)).1).1
  (d,Xr (Xw h part a n) part ((zr (Zx h part) a n).set a d),0)
def Pu{l:Ly}{k a:Int}:ZC (Y4 l k a).1:=by
 unfold Y4;cases d:ZI l;simp[ZC];simp only[Zfv,Zex];split;simp[ZC];split;simp[ZC];have:=WG d k;grind [ZC]
def Mt{a:Int}:ZC (XN a).1:=by
 grind [XN,ZC]
def fwd(h:Hp)(w:Int):Int×Hp×Int:=
 if ZI (Zv h)=xh then(0,Hp.zero,1)
 else if w=0 then(0,h,0)
 else if(adr w).2≠0 then(0,Hp.zero,3)
 else if(Ye (Zv h) (adr w).1).2.2≠0 then(0,Hp.zero,6)
 else if(Ye (Zv h) (adr w).1).1<3 then(w,h,0)
 else if(adr ((Zx h (Ye (Zv h) (adr w).1).1).getD (Ye (Zv h) (adr w).1).2.1.toNat 0)).2=0 then((Zx h (Ye (Zv h) (adr w).1).1).getD (Ye (Zv h) (adr w).1).2.1.toNat 0,h,0)
 else if(ZS ((Zx h (Ye (Zv h) (adr w).1).1).getD (Ye (Zv h) (adr w).1).2.1.toNat 0)).2.2≠0 then(0,Hp.zero,3)
 else TU h (Ye (Zv h) (adr w).1).1 (Ye (Zv h) (adr w).1).2.1.toNat ((ZS ((Zx h (Ye (Zv h) (adr w).1).1).getD (Ye (Zv h) (adr w).1).2.1.toNat 0)).1.toNat+1)
end Vm
namespace Vm
open Go Go.Proofs
@[simp]theorem Z8I(k:IntKind)(a b c d e f:Int):Y9 (.agg [.int k a,.int k b,.int k c,.int k d,.int k e,.int k f]) (.int .i64 0) 6 1 xh=xk (.int k a):=rfl
@[simp]theorem Z8O(a b c d e f:Bool):Y9 (.agg [.bool a,.bool b,.bool c,.bool d,.bool e,.bool f]) (.int .i64 0) 6 1 xh=xk (.bool a):=rfl
@[simp]theorem Z8J(k:IntKind)(a b c d e f:Int):Y9 (.agg [.int k a,.int k b,.int k c,.int k d,.int k e,.int k f]) (.int .i64 1) 6 1 xh=xk (.int k b):=rfl
@[simp]theorem Z8P(a b c d e f:Bool):Y9 (.agg [.bool a,.bool b,.bool c,.bool d,.bool e,.bool f]) (.int .i64 1) 6 1 xh=xk (.bool b):=rfl
@[simp]theorem Z8K(k:IntKind)(a b c d e f:Int):Y9 (.agg [.int k a,.int k b,.int k c,.int k d,.int k e,.int k f]) (.int .i64 2) 6 1 xh=xk (.int k c):=rfl
@[simp]theorem Z8Q(a b c d e f:Bool):Y9 (.agg [.bool a,.bool b,.bool c,.bool d,.bool e,.bool f]) (.int .i64 2) 6 1 xh=xk (.bool c):=rfl
@[simp]theorem Z8L(k:IntKind)(a b c d e f:Int):Y9 (.agg [.int k a,.int k b,.int k c,.int k d,.int k e,.int k f]) (.int .i64 3) 6 1 xh=xk (.int k d):=rfl
@[simp]theorem Z8R(a b c d e f:Bool):Y9 (.agg [.bool a,.bool b,.bool c,.bool d,.bool e,.bool f]) (.int .i64 3) 6 1 xh=xk (.bool d):=rfl
@[simp]theorem Z8M(k:IntKind)(a b c d e f:Int):Y9 (.agg [.int k a,.int k b,.int k c,.int k d,.int k e,.int k f]) (.int .i64 4) 6 1 xh=xk (.int k e):=rfl
@[simp]theorem Z8S(a b c d e f:Bool):Y9 (.agg [.bool a,.bool b,.bool c,.bool d,.bool e,.bool f]) (.int .i64 4) 6 1 xh=xk (.bool e):=rfl
@[simp]theorem Z8N(k:IntKind)(a b c d e f:Int):Y9 (.agg [.int k a,.int k b,.int k c,.int k d,.int k e,.int k f]) (.int .i64 5) 6 1 xh=xk (.int k f):=rfl
@[simp]theorem Z8T(a b c d e f:Bool):Y9 (.agg [.bool a,.bool b,.bool c,.bool d,.bool e,.bool f]) (.int .i64 5) 6 1 xh=xk (.bool f):=rfl
end Vm
namespace Vm
open Go Go.Proofs
def Z8i{h:Hp}(A:h.ok){k:Int}{l:List Int}(o:P l<=1000000)(h2:∀w∈l,ZC w):(Xr h k l).ok:=by
 obtain⟨a,d,f,g,p,q,r,t,j,u,x,y,z,n⟩:=A;unfold Xr;split;exact⟨a,d,f,g,o,q,r,t,j,h2,x,y,z,n⟩;split;exact⟨a,d,f,g,p,o,r,t,j,u,h2,y,z,n⟩;split;exact⟨a,d,f,g,p,q,o,t,j,u,x,h2,z,n⟩;exact⟨a,d,f,g,p,q,r,o,j,u,x,y,h2,n⟩
end Vm
end
section
namespace Vm
open Go Go.Proofs
def qN{n:Nat}{x:V}(h:Xq Try.prog (n+1) 3 x):∃m,x=vi m/\Yt m:=by
 obtain⟨m,rfl,a,d⟩:=NX Try.underlying3 h;exact⟨m,rfl,a,d⟩
def NZ{n:Nat}{x:V}(h:Xq Try.prog (n+1) 24 x):∃m,x=vu m/\ZC m:=by
 obtain⟨m,rfl,a,d⟩:=NX Try.underlying24 h;exact⟨m,rfl,a,Int.lt_of_le_of_lt d Zd7⟩
def D6{n:Nat}{x:V}(h:Xq Try.prog (n+2) 23 x):∃l:Zc,x=.sl (l.map vi)/\P l<=maxLen/\∀p∈l,Yt p:=
 D5 Try.underlying23 h λy a=>qN a
def Z7Y{n:Nat}{x:V}(h:Xq Try.prog (n+2) 35 x):∃l:Zc,x=.sl (l.map vu)/\P l<=maxLen/\∀p∈l,ZC p:=
 D5 Try.underlying35 h λy a=>NZ a
def Nd.fits(x:Nd):Prop:=(P x.ptrs<=maxLen/\∀p∈x.ptrs,Yt p)/\P x.data<=maxLen/\∀p∈x.data,ZC p
def Z7V{n:Nat}{x:V}(h:Xq Try.prog (n+3) 105 x):∃a:Nd,x=Yj a/\a.fits:=by
 obtain⟨q,rfl,o,d⟩:=NY Try.underlying105 h
 match q,o with
 | [a,b],_=>
   obtain⟨p,rfl,g,j⟩:=D6 (d 0 _ a rfl rfl);obtain⟨f,rfl,k,l⟩:=Z7Y (d 1 _ b rfl rfl);exact⟨⟨p,f⟩,rfl,⟨g,j⟩,k,l⟩
def Z7W{n:Nat}{x:V}(h:Xq Try.prog (n+4) 22 x):∃l:List Nd,x=.sl (l.map Yj)/\P l<=maxLen/\∀a∈l,a.fits:=
 D5 Try.underlying22 h λy d=>Z7V d
def Z7X{n:Nat}{x:V}(h:Xq Try.prog (n+5) 26 x):∃r:Rw,x=WC r/\r.ok:=by
 obtain⟨F,rfl,B,j⟩:=NY Try.underlying26 h
 match F,B with
 | [a,b,c,d,e,f,g],_=>
   obtain⟨C,rfl,_,o⟩:=Z7W (j 0 _ a rfl rfl);obtain⟨D,rfl,_,t⟩:=D6 (j 1 _ b rfl rfl);obtain⟨q,rfl,_,u⟩:=D6 (j 2 _ c rfl rfl);obtain⟨d,rfl,w⟩:=NZ (j 3 _ d rfl rfl);obtain⟨e,rfl,y⟩:=qN (j 4 _ e rfl rfl);obtain⟨f,rfl,z⟩:=qN (j 5 _ f rfl rfl);obtain⟨g,rfl,A⟩:=qN (j 6 _ g rfl rfl);exact⟨⟨C,D,q,d,e,f,g⟩,rfl,λn k p l=>(o n k).1.2 p l,λn k p l=>(o n k).2.2 p l,t,u,w,y,z,A⟩
def own:ownKnob Try.prog.godebug=xw:=Z2
def laidOut:laidOutB Try.prog=xy:=Z2
end Vm
end
section
namespace Vm
open Go Go.Conc Go.ConcN
section
section
variable {P:Z4}{Stop:Zb}{b:Zg}{k:Zj}{cs:Z6}{a:Act}{w:Z3}
def Walk.two{x y:Code}(h:Walk P Stop (b.at a (.code x:: .code y::k)) cs w):Walk P Stop (b.at a (.code (.seq x y)::k)) cs w:=.go (λw=>stepG_seq) h
def Walk.region{id:Nat}{ops:Zo}(h:Walk P Stop (b.at a (.inRegion ops (List.range ops.size)::k)) cs w):Walk P Stop (b.at a (.code (.region id ops xh)::k)) cs w:=.go (λw=>stepG_region) h
def Walk.regEnd{ops:Zo}(h:Walk P Stop (b.at a k) cs w):Walk P Stop (b.at a (.inRegion ops []::k)) cs w:=.go (λw=>stepG_region_end) h
def Walk.val{ops:Zo}{i:Nat}{rest:Zd}{o:Oper}{v:Z7}(q:ops[i]?=xk o)(r:Region.wanted o (yielded ops a.tmps)=xy)(p:b.kind≠.early)(n:Qy P o.op=xy)(j:∀g:Z3,g.heap=w.heap->(execOp a.eval o).run P g=.ok (.value v) g)
  (h:Walk P Stop (b.at (a.put o.dst v) (.inRegion ops rest::k)) cs w):Walk P Stop (b.at a (.inRegion ops (i::rest)::k)) cs w:=by
 refine .one λd=> ?_;have f:EvsB (U (R (Yd ((execOp a.eval o).run P (w.at d))))) (listed P b.fn a o (w.at d)):=λe l=>F4 n a (w.at d) e (mem_listed l);rw[j (w.at d) rfl]at f;exact⟨_,_,_,_,stepG_value q r p (j (w.at d) rfl),ZdU _,f,h.at d⟩
def Walk.chan{ops:Zo}{i:Nat}{rest:Zd}{o:Oper}{t p:Z9}{dir:ChanDir}{inf:TypeInfo}{f:Zm}(z:ops[i]?=xk o)(B:Region.wanted o (yielded ops a.tmps)=xy)(y:b.kind≠.early)(j:o.op=.makeChan t (.const (.int f 0)))(l:P.underlying t=xk (.chan dir p))(g:P.info? p=xk inf)
  (h:Walk P Stop (b.at (a.put o.dst (.chan (xk (U (R w))))) (.inRegion ops rest::k)) cs (w.alloc (.chan 0 #[] xh 0 0 xh))):Walk P Stop (b.at a (.inRegion ops (i::rest)::k)) cs w:=by
 refine .one λd=> ?_;have n:execOp a.eval o=(do pure (.value (<-Instr.makeChan t (.int f (0:Nat)))):Sem Next):=by unfold execOp;simp only[j];rfl
 have A:(execOp a.eval o).run P (w.at d)=.ok (.value (.chan (xk (U (R w))))) ((w.alloc (.chan 0 #[] xh 0 0 xh)).at d):=by
  rw[n];simp only[Zet,run_makeChan (w:=w.at d) l g f 0 Z0 Z0,Zeo];rfl
 have x:(execOp a.eval o).events P (w.at d) #[]=#[]:=by
  rw[n];have q:=events_makeChan (P:=P) (w:=w.at d) l g f 0 Z0 Z0 #[];have r:(Instr.makeChan t (.int f (0:Nat))).runT P (w.at d) #[]=(.ok (.chan (xk (U (R w)))) ((w.alloc (.chan 0 #[] xh 0 0 xh)).at d), #[]):=by
   refine Zgh ?_ q;rw[ZfW];exact run_makeChan (w:=w.at d) l g f 0 Z0 Z0
  show((Sem.bind _ _).runT P (w.at d) #[]).2=_;rw[Zg4,r];rfl
 refine⟨_,_,_,_,stepG_value z B y A,by show U (R w)<=U (R (w.alloc _));simp,λe u=> ?_,h.at d⟩;have:=mem_listed u;simp_all
def Walk.fork{fr D:Zg}{l:Zk}(T:∀w:Z3,stepG P xy (G fr cs) w=.spawn (G D cs) l w #[])
  (H:∀(n d:Nat) (gs:Zh) (sl:Option (Nat×Nat)) (t:Trace) (q:Ze),0<n->gs.size=n+1->gs[0]?=xk (G D cs)->gs[n]?=xk l->YF P n gs q->(∀Y Z M,TI n Y Z M (xz (xj w)) t)->Win P (Ds P Stop) gs (w.at d) sl t):Walk P Stop fr cs w:=by
 intro d0 gs sl t q hl N r;have R:∀(f:Zh) g,f[f.size]? ≠xk g:=λf g e=>by
  simp_all
 refine skip hl (λi g O z=> ?_) ⟨0,_,.inl rfl,N,rfl⟩ λf d L q' i g a1 B Q O a2 a0=> ?_;obtain rfl|rfl:=O;rw[N]at z;cases z;exact⟨awake_of (.inl rfl),λg1 g2 d=>woken_run rfl⟩;simp_all;obtain rfl|rfl:=O;have F:f[0]?=xk (G fr cs):=by rw[B 0 (.inl rfl)];exact N
 have J:0<f.size:=(ZdV.1 F).1;have A:=runT_crowd_spawn (P:=P) (sl:=L) (i:=0) (w:=w.at d) F (T (w.at d));refine⟨_,_,_,_,A,?_⟩;generalize hx:({g:=0,fn:=(G fr cs).frame.fn,pos:=(G fr cs).frame.place,act:=.go f.size}:MemOp)=x;generalize hy:({g:=f.size,fn:=l.frame.fn,pos:=(G fr cs).frame.place,act:=.start}:MemOp)=y;have I:((MemOp.ofEvents 0 (G fr cs).frame.fn (G fr cs).frame.place #[]).push x).push y=#[x,y]:=by simp[MemOp.ofEvents]
 rw[I];have U:x.g=0/\x.act=.go f.size:=by rw[<-hx];exact⟨rfl,rfl⟩
 have W:y.g=f.size/\y.act=.start:=by rw[<-hy];exact⟨rfl,rfl⟩
 refine H f.size d _ L _ q' J Z1 ?_ ZcN (λj g hj a3 z=> ?_) λY Z M=> ?_;grind;rw[Zga]at z;simp only[Zg7]at z;rw[if_neg Z0,ZeL Z0]at z;exact Q j g hj Z0 z;have t0:TI f.size (λ_=>True) (λ_=>False) M (xz (xj w)) t:=⟨r.clean,r.hears,r.low,λi op x p o C=>.inl (r.known i op x p o C),λi op x p o C=>.inr (.inr ⟨λ_=>by simp_all[Hi,trivial],λb _ h=>h⟩)⟩;have X:=t0.comm (ZdU _) #[x,y] (λop S=>by
  have:op=x\/op=y:=by simpa using S
  obtain rfl|rfl:=this;simp_all[MemAct.touch?];simp_all[MemAct.touch?])
 have K:∀(i:Nat) (op:MemOp) (u:Touch),(t++ #[x,y])[i]?=xk op->op.act.touch?=xk u->t[i]?=xk op:=λi op u p o=>by
  obtain⟨_,h⟩|⟨_,h⟩:=getElem?_append_cases p;exact h;have:op=x\/op=y:=by simpa using h
  obtain rfl|rfl:=this;simp_all[MemAct.touch?];simp_all[MemAct.touch?]
 refine⟨X.clean,X.hears,X.low,λi op u p o C=>.inl ((r.known i op u (K i op u p o) o C).app _),λi op u p o C=>.inr (.inl ?_)⟩;exact fork_knows U W (r.hears 0) (r.hears _) (r.known i op u (K i op u p o) o C);simp_all
def Walk.meet{fr p:Zg}{f:Zk}{c:Nat}{KA KB OA0:Z5}{StopA:(Nat->Prop)->Goroutine->World->Prop}{vs:Zl}{z:Z7}(D:∀w:Z3,stepG P xy (G fr cs) w=.spawn (G p cs) f w #[])
  (O:Play P xy c KA StopA (vs.map .recv++[.closed z]) OA0 (G p cs) w) (Q:Play P xh c KB (UD P c) (vs.map .send) (λ_=>False) f w) (r:w.heap[c]?=xk (.chan 0 #[] xh 0 0 xh))
  (la:∀b,OA0 b->b<xz (xj w)) (ka:∀b,KA b->b<xz (xj w)) (kb:∀b,KB b->b<xz (xj w)) (I:∀b,OA0 b->¬KB b) (M:¬OA0 c) (y:¬KA c) (A:¬KB c)
  (u:∀x a j,StopA x a j->xz (xj w)<=xz (xj j)->j.tape=w.tape->(j.os,j.output)=(w.os,w.output)->(∀b,x b->(OA0 b\/xz (xj w)<=b)/\b<xz (xj j))->(∀b,b<xz (xj w)->¬OA0 b->b≠c->j.heap[b]?=w.heap[b]?)->∃o l,a=G o l/\Walk P Stop o l j):Walk P Stop fr cs w:=by
 refine .fork D λn d gs sl t q U F N C T H=> ?_;have R:Cfg P n c KA KB OA0 (w.at d) OA0 (λ_=>False) gs (w.at d) t q:=
  ⟨U,T,H _ _ _,la,λ_ h=>h.elim,ka,kb,λ_ _ h=>h,I,M,y,A,(ZdV.1 r).1,ZdU _,rfl,rfl,λ_ h=>.inl h,λ_ h=>h.elim,λ_ _ _ _=>rfl⟩
 have W:=(Z4V (P:=P) (n:=n) (KB:=KB) (OA0:=OA0) (w0:=w.at d) O).opn vs z (λ_=>False) f gs (w.at d) sl t q 0 0 xh rfl R F N C (Rely.at _ _ _ d) (.run (Q.rely (Rely.at _ _ _ d))) r;refine W.bind λB w1 J t1 ⟨L,x,OB,q1,X,k1,Y,g,Z,k5⟩=> ?_;obtain⟨o,l,rfl,S⟩:=u x L w1 Y g.b0 g.tape g.os (λb K=>⟨g.oa b K,g.la b K⟩) g.fr;exact S w1.drawn B J t1 q1 Z X ⟨g.ti.clean,g.ti.hears,g.ti.low,k5⟩
end
end
end Vm
end
section
namespace Vm
open Go Go.Conc
section
section
variable {Q:Z4}{c:Nat}{Post:Zb}{es:ZcM}{fr fr':Zg}{cs cs':Z6}{w w':Z3}
def LS.steps:∀ {es:ZcM} {fr fr':Zg} {cs cs':Z6} {w w':Z3},Steps Q (lone fr (cs++[YN Q]) w) (lone fr' (cs'++[YN Q]) w')->LS Q c Post es fr' cs' w'->LS Q c Post es fr cs w
 | [],_,_,_,_,_,_,h,⟨n,d,c2,w2,f,g⟩=>let⟨m,j⟩:=Steps.trans h ⟨n,f⟩;⟨m,d,c2,w2,j,g⟩
 |e::es,_,_,_,_,_,_,h,⟨n,d,c2,w2,f,g⟩=>let⟨m,j⟩:=Steps.trans h ⟨n,f⟩;⟨m,d,c2,w2,j,g⟩
def LS.ev{e:Ev}(h:VB Q c e fr)(k:LS Q c Post es (Xy e fr) cs w):LS Q c Post (e::es) fr cs w:=⟨0,fr,cs,w,rfl,h,k⟩
def LS.now(h:Post fr cs w):LS Q c Post [] fr cs w:=⟨0,fr,cs,w,rfl,h⟩
end
def Dj{P:Z4}{ops:Zo}{w:Z3}{Q g:Act->Prop}(h:∀a,Q a->g a):∀(l:List Oper) (a:Act),wpStill P ops w Q l a->wpStill P ops w g l a
 | [],a,d=>h a d
 |o::l,a,d=>by
  simp only[wpStill]at d⊢;split;rename_i f;rw[if_pos f]at d;exact Oper.still_mono (λa=>Dj h l a) d;rename_i f;rw[if_neg f]at d;exact Dj h l _ d
def Yo:Code->List Nat->Code
 |c,[]=>c
 |.seq a _,0::l=>Yo a l
 |.seq _ b,_::l=>Yo b l
 |.cond _ a _,0::l=>Yo a l
 |.cond _ _ b,_::l=>Yo b l
 |.block _ a,_::l=>Yo a l
 |.loop a,_::l=>Yo a l
 |.scope a,_::l=>Yo a l
 |c,_=>c
def Kz:Code->Array Oper
 |.region _ ops _=>ops
 |_=> #[]
def qW(Q:Z4)(c:Nat)(Post:Zb)(es:ZcM)(b:Zg)(k:Zj)(cs:Z6):Exit->Act->World->Prop
 |.normal,a,w=>LS Q c Post es (b.at a k) cs w
 |.exit id,a,w=>∃k',exitTo id k=xk k'/\LS Q c Post es (b.at a k') cs w
 |.ret,a,w=>∀d,LS Q c Post es {b.at a d with mode:=.returning} cs w
 |_,_,_=>False
def SC(Q:Z4)(c:Nat)(x:Code)(R:List Ev->Exit->Act->World->Prop)(es:ZcM)(a:Act)(w:Z3):Prop:=
 ∀(Post:Zb) (b:Zg) (k:Zj) (cs:Z6),(∀d e f w',R d e f w'->qW Q c Post d b k cs e f w')->LS Q c Post es (b.at a (.code x::k)) cs w
def ST(Q:Z4)(c:Nat)(ops:Zo)(R:List Ev->Exit->Act->World->Prop)(l:Zd)(es:ZcM)(a:Act)(w:Z3):Prop:=
 ∀(Post:Zb) (b:Zg) (k:Zj) (cs:Z6),(∀d e f w',R d e f w'->qW Q c Post d b k cs e f w')->LS Q c Post es (b.at a (.inRegion ops l::k)) cs w
section
variable {Q:Z4}{c:Nat}{R R':List Ev->Exit->Act->World->Prop}{es:ZcM}{a:Act}{w:Z3}{x y:Code}
variable {ops:Zo}{l:Zd}
def SC.draw{id:Nat}(h:∀t,ST Q c ops R (Region.schedule (Q.follows .mixedOrders) ops t) es a {w with drawn:=w.drawn+1}):SC Q c (.region id ops xy) R es a w:=λPost b k cs d=>LS.steps (.one step_region_draw) (h _ Post b k cs d)
def ST.nil(h:R es .normal a w):ST Q c ops R [] es a w:=λPost b k cs d=>LS.steps (.one step_region_end) (d _ _ _ _ h)
def ST.omit{i:Nat}(g:((ops[i]?).map (Region.wanted · (yielded ops a.tmps))).getD xh=xh)(f:ST Q c ops R l es (a.put ((ops[i]?).bind (·.dst)) undef) w):ST Q c ops R (i::l) es a w:=λPost b k cs d=>
 LS.steps (.one (step_op_skip g)) (f Post b k cs d)
def ST.still{i:Nat}{K:Act->Prop}(h:stOp Q ops w i K a)(t:∀a,K a->ST Q c ops R l es a w):ST Q c ops R (i::l) es a w:=by
 unfold stOp at h;cases q:ops[i]? with
 |none=>
  rw[q]at h;refine .omit (by simp[q]) ?_;simp_all[Option.bind_none,Act.put]
 |some o=>
  rw[q]at h;dsimp only at h;by_cases u:Region.wanted o (yielded ops a.tmps)=xy;rw[if_pos u]at h;unfold Oper.still at h;intro Post b k cs r;have B:=stepG_op (P:=Q) (b:=b) (k:=k) (cs:=cs++[YN Q]) (w:=w) (rest:=l) q u;have z:∀v,(b.at a (.inRegion ops (i::l)::k)).finish v=b.at (a.put o.dst v) (.inRegion ops l::k):=λv=>by grind [Frame.finish_at]
  revert h
  cases C:(execOp a.eval o).run Q w with
  |halt x w'=>exact False.elim
  |ok n w'=>
   cases n<;>first|exact False.elim|skip
   rename_i v;rintro⟨rfl,h⟩;refine LS.steps (.one (Zhl ?_)) (t _ h Post b k cs r);simp_all[stepG.apply];rintro⟨rfl,h⟩;refine LS.steps (.one (Zhl ?_)) (t _ h Post b k cs r);simp_all[stepG.apply];rename_i f args;rintro⟨rfl,v,A,h⟩;obtain⟨e,j,fr,⟨rfl,rfl⟩,g,_,p⟩:=A (b.at a (.inRegion ops (i::l)::k)::(cs++[YN Q]));have d:step Q (lone (b.at a (.inRegion ops (i::l)::k)) (cs++[YN Q]) j)=.next (lone (Frame.enter Q f args .normal) (b.at a (.inRegion ops (i::l)::k)::(cs++[YN Q])) j):=
    Zhl (by simp_all[stepG.apply,Frame.at])
   refine LS.steps (.head d (g.trans (.one ?_))) (t _ h Post b k cs r);grind [step_leave_returned]
  rw[if_neg u]at h;refine .omit ZcO ?_;simp_all
def ST.ev{i:Nat}{o:Oper}{e:Ev}(B:ops[i]?=xk o)(H:Region.wanted o (yielded ops a.tmps)=xy)(A:match e with
   |.recv _|.closed _=>∃t f d h inf z,o.op=.recv t f xy/\ZY f=xy/\a.eval f=.chan (xk c)/\Q.underlying t=xk (.chan d h)/\Q.info? h=xk inf/\inf.zero=xk z/\∀C,e=.closed C->C=z
   |.send v=>∃f x,o.op=.send f x/\ZY f=xy/\ZY x=xy/\a.eval f=.chan (xk c)/\a.eval x=v)
  (G:ST Q c ops R l es (a.put o.dst e.val) w):ST Q c ops R (i::l) (e::es) a w:=λPost b k cs F=>by
 refine LS.ev ⟨ops,i,l,k,o,rfl,rfl,B,H,?_⟩ ?_;have g:∀x,(b.at a (.inRegion ops (i::l)::k)).eval x=a.eval x:=Frame.eval_at b a _;cases e with
 |recv v=>obtain⟨t,f,d,h,inf,z,j,n,p,q,r,u,_⟩:=A;exact⟨t,f,d,h,inf,z,j,n,by rw[g];exact p,q,r,u⟩
 |closed v=>obtain⟨t,f,d,h,inf,z,j,n,p,q,r,u,D⟩:=A;exact⟨t,f,d,h,inf,j,n,by rw[g];exact p,q,r,by rw[D v rfl];exact u⟩
 |send v=>obtain⟨f,x,j,n,p,q,r⟩:=A;exact⟨f,x,j,n,p,by rw[g];exact q,by rw[g];exact r⟩
 have:Xy e (b.at a (.inRegion ops (i::l)::k))=b.at (a.put o.dst e.val) (.inRegion ops l::k):=by
  unfold Xy;rw[Zgj,B];rfl
 rw[this];exact G Post b k cs F
def ST.head{md:Region.Mode}{n g:Nat}{L:Array Bool->Act->Prop}:∀(f t:Nat) (listed:Array Bool) (a:Act),wpAnyL Q md ops w n L f listed a->(∀listed a t,L listed a->ST Q c ops R (Region.linearise.go md ops g t listed []) es a w)->
  ST Q c ops R (Region.linearise.go md ops (f+g) t listed []) es a w
 |0,t,listed,a,h,j=>by rw[ZeC];exact j _ _ _ h
 |f+1,t,listed,a,h,j=>by
  obtain⟨r,u⟩:=h;rw[show f+1+g=(f+g)+1 by omega];simp only[Region.linearise.go];change ST Q c ops R (match(Region.ready md ops listed)[t% P (Region.ready md ops listed)]? with
   |some i=>Region.linearise.go md ops (f+g) (t / P (Region.ready md ops listed)) (listed.setIfInBounds i xy) [i]
   |none=>[].reverse) es a w
  cases o:(Region.ready md ops listed)[t% P (Region.ready md ops listed)]? with
  |none=>
   exfalso;have d:0< P (Region.ready md ops listed):=ZfN.2 r;have:=Zgt.1 o;have:=Zh4 t d;omega
  |some i=>
   simp only[];rw[linearise_go_acc,ZhP,ZgX];exact ST.still (u i (ZdW o)).2 λp q=>ST.head f _ _ p q j
def ST.last{n:Nat}{listed:Array Bool}{t:Nat}(h:Region.seqB .any ops 1 n listed=xy)(d:ST Q c ops R [n] es a w):ST Q c ops R (Region.linearise.go .any ops 1 t listed []) es a w:=by
 simp only[Region.seqB,ZdS,Ze9]at h;simp only[Region.linearise.go];change ST Q c ops R (match(Region.ready .any ops listed)[t% P (Region.ready .any ops listed)]? with
   |some i=>[i]
   |none=>[]) es a w
 grind
def SC.last{id n:Nat}{l:List Oper}(F:Q.follows .mixedOrders=xy)(z:Region.lexTailB .any l.toArray n=xy)(r:P l=n+1)(h:wpStill Q l.toArray {w with drawn:=w.drawn+1} (λq=>ST Q c l.toArray R [n] es q {w with drawn:=w.drawn+1}) (l.take n) a):SC Q c (.region id l.toArray xy) R es a w:=by
 refine SC.draw λt=> ?_;simp only[Region.lexTailB,ZdS,Ze9]at z;obtain⟨⟨⟨⟨o,B⟩,I⟩,C⟩,f⟩:=z;have G:n<P l:=by simpa using B
 have u:P (l.take n)=n:=ZcP;have D:l.toArray.size-n=1:=ZcP;rw[D]at f;have p:HeadInv .any l.toArray n (Array.replicate l.toArray.size xh):=
  ⟨Z1,λj N _ K=>(by grind [getD_replicate_false]),λt _ M=>getD_in ZcN (getD_replicate_false _ _)⟩
 have H:=wpAnyL_lex (md:=.any) (g:=1) o I C B (l.take n) 0 _ a (λj J=>by
  simp_all) Z0 p ZcO h
 simp only[Region.schedule,F,Bool.true_or,ZeA,Region.linearise];have e:l.toArray.size=P (l.take n)+1:=by rw[u];simpa using r
 rw[e];exact ST.head (L:=λd q=>Region.seqB .any l.toArray 1 n d=xy/\ST Q c l.toArray R [n] es q {w with drawn:=w.drawn+1}) _ t _ a (by rw[<-e];exact H) λlisted q O A=>ST.last A.1 A.2
end
section
variable {Q:Z4}{c:Nat}{Post:Zb}{es:ZcM}{a:Act}{w:Z3}{x y:Code}{b:Zg}{k k':Zj}{cs:Z6}
def LS.two(h:LS Q c Post es (b.at a (.code x:: .code y::k)) cs w):LS Q c Post es (b.at a (.code (.seq x y)::k)) cs w:=LS.steps (.one step_seq) h
def LS.condT{o:Operand}(hc:a.eval o=.bool xy)(h:LS Q c Post es (b.at a (.code x::k)) cs w):LS Q c Post es (b.at a (.code (.cond o x y)::k)) cs w:=LS.steps (.one (step_cond hc)) h
def LS.condF{o:Operand}(hc:a.eval o=.bool xh)(h:LS Q c Post es (b.at a (.code y::k)) cs w):LS Q c Post es (b.at a (.code (.cond o x y)::k)) cs w:=LS.steps (.one (step_cond hc)) h
def LS.skip(h:LS Q c Post es (b.at a k) cs w):LS Q c Post es (b.at a (.code .skip::k)) cs w:=LS.steps (.one step_skip) h
def LS.block{id:Nat}(h:LS Q c Post es (b.at a (.code x:: .inBlock id::k)) cs w):LS Q c Post es (b.at a (.code (.block id x)::k)) cs w:=LS.steps (.one step_block) h
def LS.inBlock{id:Nat}(h:LS Q c Post es (b.at a k) cs w):LS Q c Post es (b.at a (.inBlock id::k)) cs w:=LS.steps (.one step_inBlock) h
theorem LS.inLoop(h:LS Q c Post es (b.at a (.code x:: .inLoop x::k)) cs w):LS Q c Post es (b.at a (.inLoop x::k)) cs w:=LS.steps (.one step_inLoop) h
def LS.exit{id:Nat}(d:exitTo id k=xk k')(h:LS Q c Post es (b.at a k') cs w):LS Q c Post es (b.at a (.code (.exit id)::k)) cs w:=LS.steps (.one (step_exit d)) h
def LS.loopI(I:Nat->List Ev->Act->World->Prop){n:Nat}(d:I n es a w)(f:∀n es a w,I n es a w->(∀m es a w,m<n->I m es a w->LS Q c Post es (b.at a (.inLoop x::k)) cs w)->LS Q c Post es (b.at a (.code x:: .inLoop x::k)) cs w):LS Q c Post es (b.at a (.code (.loop x)::k)) cs w:=by
 have key:∀n es a w,I n es a w->LS Q c Post es (b.at a (.code x:: .inLoop x::k)) cs w:=by
  intro n;induction n using Nat.strongRecOn with
  |_ n g=>grind [inLoop]
 exact LS.steps (.one step_loop) (key n es a w d)
def LS.wp{R:Zi}(h:x.wp Q R a w)(o:∀e f w',R e f w'->qW Q c Post es b k cs e f w'):LS Q c Post es (b.at a (.code x::k)) cs w:=by
 obtain⟨e,f,w',q,r⟩:=h b k (cs++[YN Q]);have g:=o e f w' q;cases e with
 |normal=>exact LS.steps r g
 |exit id=>obtain⟨k',j,n⟩:=g;exact LS.steps (r k' j) n
 |ret=>obtain⟨d,r⟩:=r;exact LS.steps r (g d)
 |_=>exact g.elim
def LS.regK(h:∀K:ZcJ,(∀a w,LS Q c Post es (b.at a k) cs w->K a w)->x.wp Q (λe a w=>e=.normal/\K a w) a w):LS Q c Post es (b.at a (.code x::k)) cs w:=
 LS.wp (h _ λ_ _ q=>q) λe g w' ⟨d,f⟩=>by subst d;exact f
def LS.send{id n:Nat}{l:List Oper}{v:Z7}(B:Q.follows .mixedOrders=xy)(z:Region.lexTailB .any l.toArray n=xy)(q:P l=n+1){o:Oper}{g j:Operand}(D:l[n]?=xk o)(A:o.guard=xw)(p:o.op=.send g j)(u:ZY g=xy)(h2:ZY j=xy)
  (h:wpStill Q l.toArray {w with drawn:=w.drawn+1} (λd=>d.eval g=.chan (xk c)/\d.eval j=v/\LS Q c Post es (b.at (d.put o.dst undef) k) cs {w with drawn:=w.drawn+1}) (l.take n) a):LS Q c Post (.send v::es) (b.at a (.code (.region id l.toArray xy)::k)) cs w:=
 SC.last (R:=λf e d w'=>e=.normal/\LS Q c Post f (b.at d k) cs w') B z q (Dj (λd ⟨r,t,C⟩=>ST.ev (o:=o) ZcN (by simp[Region.wanted,A]) ⟨g,j,p,u,h2,r,t⟩ (.nil ⟨rfl,C⟩)) _ _ h) Post b k cs λf e d w' ⟨r,t⟩=>by subst r;exact t
def LS.region{id:Nat}{ops:Zo}(h:LS Q c Post es (b.at a (.inRegion ops (List.range ops.size)::k)) cs w):LS Q c Post es (b.at a (.code (.region id ops xh)::k)) cs w:=LS.steps (.one step_region) h
def LS.value{ops:Zo}{i:Nat}{l:Zd}{o:Oper}{v:Z7}{w':Z3}(g:ops[i]?=xk o)(j:Region.wanted o (yielded ops a.tmps)=xy)(h:(execOp a.eval o).run Q w=.ok (.value v) w')(f:LS Q c Post es (b.at (a.put o.dst v) (.inRegion ops l::k)) cs w'):LS Q c Post es (b.at a (.inRegion ops (i::l)::k)) cs w:=by
 have d:(b.at a (.inRegion ops (i::l)::k)).finish v=b.at (a.put o.dst v) (.inRegion ops l::k):=by grind [Frame.finish_at]
 refine LS.steps (.one (Zhl ?_)) f;simp_all[stepG_op,stepG.apply]
def LS.regEnd{ops:Zo}(h:LS Q c Post es (b.at a k) cs w):LS Q c Post es (b.at a (.inRegion ops []::k)) cs w:=LS.steps (.one step_region_end) h
def LS.event{ops:Zo}{i:Nat}{l:Zd}{o:Oper}{e:Ev}(n:ops[i]?=xk o)(p:Region.wanted o (yielded ops a.tmps)=xy)(q:match e with
   |.recv _|.closed _=>∃t f d g inf z,o.op=.recv t f xy/\ZY f=xy/\a.eval f=.chan (xk c)/\Q.underlying t=xk (.chan d g)/\Q.info? g=xk inf/\inf.zero=xk z/\∀h,e=.closed h->h=z
   |.send v=>∃f x,o.op=.send f x/\ZY f=xy/\ZY x=xy/\a.eval f=.chan (xk c)/\a.eval x=v)
  (r:LS Q c Post es (b.at (a.put o.dst e.val) (.inRegion ops l::k)) cs w):LS Q c Post (e::es) (b.at a (.inRegion ops (i::l)::k)) cs w:=by
 refine LS.ev ⟨ops,i,l,k,o,rfl,rfl,n,p,?_⟩ ?_;have j:∀x,(b.at a (.inRegion ops (i::l)::k)).eval x=a.eval x:=Frame.eval_at b a _;grind;simp_all[Xy,Zgj]
end
end
end Vm
end
section
namespace Vm
open Go
open Go.Proofs
noncomputable def ofC:Code:=match Try.f15.body with|some c=>c|none=>.skip
def CH(f:Zp):Option (List OT):=if f=43 then xk [.fz,.mem [.fz],.mem [.fz]]else sig f
def O8:List Nat:=[0,1,2,3,16,4,5,6,7,23,25,8,24,29,9,10,48,47,49,12,46,13]
def Z88:List Nat:=[15,63,76,79]
def vf(P:Z4):FC:= {P,ix:=pos (O8++Z88),fresh,sig:=CH,tr:=[3],fix:=[4,23],n:=82,keep:=O8}
def yU:SS:=[(0,.fz)]
def r0N:SS:=[(0,.fz),(1,(.mem [.fz,.fz,.fz,.fz,.fz,.fz,.fz,.fz,.fz,.fz])),(2,(.mem [.nil,.nil])),(3,.fz)]
def r0:Stm:=
(.reg ⟨[],[],[(1,.m [(.fld (.sz (.s 0) 10) 0),(.fld (.sz (.s 0) 10) 1),(.fld (.sz (.s 0) 10) 2),(.fld (.sz (.s 0) 10) 3),(.fld (.sz (.s 0) 10) 4),(.fld (.sz (.s 0) 10) 5),(.fld (.sz (.s 0) 10) 6),(.fld (.sz (.s 0) 10) 7),(.fld (.sz (.s 0) 10) 8),(.fld (.sz (.s 0) 10) 9)]),(2,.m [(.c (.sl [])),(.c (.sl []))]),(3,.v (.c (.int .i64 (0))))]⟩)
def r0c:comp (vf (YK Try.prog)) (Yo ofC [0]) yU=xk (r0,⟨xk r0N,[],[]⟩):=Z2
def rXS:SS:=[(0,.fz),(1,(.mem [.fz,.fz,.fz,.fz,.fz,.fz,.fz,.fz,.fz,.fz])),(2,(.mem [.nil,.nil])),(3,.fz)]
def MF:SS:=[(0,.fz),(1,(.mem [.fz,.fz,.fz,.fz,.fz,.fz,.fz,.fz,.fz,.fz])),(2,(.mem [.nil,.nil])),(3,.fz),(16,.fz)]
def Cd:SS:=[(0,.fz),(1,(.mem [.fz,.fz,.fz,.fz,.fz,.fz,.fz,.fz,.fz,.fz])),(2,(.mem [.nil,.nil])),(3,.fz),(16,.fz)]
def rX:Stm:=
(.seq
(.reg ⟨[.call 22 [] (.id 25) xh xh [(.mm 1 0 10)]],[],[(4,.v (.un .not (.s 22)))]⟩)
(.cond (.s 4)
 (.seq
 (.reg ⟨[],[([],(.ag [(.c (.sl [])),(.c (.sl []))]))],[(2,.m [(.c (.sl [])),(.c (.sl []))]),(3,.v (.c (.int .i64 (1))))]⟩)
 .ret)
 .skip))
def rXc:comp (vf (YK Try.prog)) (Yo ofC [1,0]) rXS=xk (rX,⟨xk MF,[],[Cd]⟩):=Z2
def KV:SS:=[(1,(.mem [.fz,.fz,.fz,.fz,.fz,.fz,.fz,.fz,.fz,.fz])),(2,(.mem [.fz,.fz])),(3,.fz)]
def r5N:SS:=[(1,(.mem [.fz,.fz,.fz,.fz,.fz,.fz,.fz,.fz,.fz,.fz])),(2,(.mem [.fz,.fz])),(3,.fz),(5,.nil)]
def r5:Stm:=
(.reg ⟨[],[],[(6,.v (.c (.sl [])))]⟩)
def r5c:comp (vf (Sol.prog)) (Yo ofC [1,1,1,1,0]) KV=xk (r5,⟨xk r5N,[],[]⟩):=Z2
def r6S:SS:=[(1,(.mem [.fz,.fz,.fz,.fz,.fz,.fz,.fz,.fz,.fz,.fz])),(2,(.mem [.fz,.fz])),(3,.fz),(5,.nil)]
def r6N:SS:=[(1,(.mem [.fz,.fz,.fz,.fz,.fz,.fz,.fz,.fz,.fz,.fz])),(2,(.mem [.fz,.fz])),(3,.fz),(5,.nil),(6,(.mem [(.own 84)]))]
def r6:Stm:=
(.reg ⟨[],[],[(7,.m [(.c (.mp 0 [] []))])]⟩)
def r6c:comp (vf (Sol.prog)) (Yo ofC [1,1,1,1,1,0]) r6S=xk (r6,⟨xk r6N,[],[]⟩):=Z2
def r7S:SS:=[(1,(.mem [.fz,.fz,.fz,.fz,.fz,.fz,.fz,.fz,.fz,.fz])),(2,(.mem [.fz,.fz])),(3,.fz),(5,.nil),(6,(.mem [(.own 84)]))]
def r7N:SS:=[(1,(.mem [.fz,.fz,.fz,.fz,.fz,.fz,.fz,.fz,.fz,.fz])),(2,(.mem [.fz,.fz])),(3,.fz),(5,.nil),(6,(.mem [(.own 84)])),(7,(.mem [(.own 85)]))]
def r7:Stm:=
(.reg ⟨[],[],[(8,.m [(.c (.mp 0 [] []))])]⟩)
def r7c:comp (vf (Sol.prog)) (Yo ofC [1,1,1,1,1,1,0]) r7S=xk (r7,⟨xk r7N,[],[]⟩):=Z2
def Ca:SS:=[(1,(.mem [.fz,.fz,.fz,.fz,.fz,.fz,.fz,.fz,.fz,.fz])),(2,(.mem [.fz,.fz])),(3,.fz),(5,(.own 87)),(6,(.mem [(.own 84)])),(7,(.mem [(.own 85)])),(24,.fz),(25,.fz)]
def rDN:SS:=[(1,(.mem [.fz,.fz,.fz,.fz,.fz,.fz,.fz,.fz,.fz,.fz])),(2,(.mem [.fz,.fz])),(3,.fz),(5,(.own 87)),(6,(.mem [(.own 84)])),(7,(.mem [(.own 85)])),(25,.fz),(8,(.mem [.fz,.fz,.fz,.fz,.fz,.fz,.fz])),(24,.fz),(29,.fz)]
def Cb:SS:=[(1,(.mem [.fz,.fz,.fz,.fz,.fz,.fz,.fz,.fz,.fz,.fz])),(2,(.mem [.fz,.fz])),(3,.fz),(5,(.own 87)),(6,(.mem [(.own 84)])),(7,(.mem [(.own 85)])),(24,.fz),(25,.fz)]
def rD:Stm:=
(.seq
(.cond (.s 10)
 .skip
 (.exit 0))
(.block 1
 (.seq
 (.reg ⟨[],[],[(11,.m [(.fld (.sz (.ext (.s 12) 0) 7) 0),(.fld (.sz (.ext (.s 12) 0) 7) 1),(.fld (.sz (.ext (.s 12) 0) 7) 2),(.fld (.sz (.ext (.s 12) 0) 7) 3),(.fld (.sz (.ext (.s 12) 0) 7) 4),(.fld (.sz (.ext (.s 12) 0) 7) 5),(.fld (.sz (.ext (.s 12) 0) 7) 6)])]⟩)
 (.seq
 (.seq
 (.reg ⟨[],[],[(13,.v (.m 11 3))]⟩)
 (.cond (.s 13)
  (.seq
  (.reg ⟨[],[],[(8,.m [(.mput (.i .u64) (.m 8 0) (.m 11 5) (.m 11 4))])]⟩)
  (.exit 1))
  .skip))
 (.seq
 (.reg ⟨[],[],[(7,.m [(.mput (.i .u64) (.m 7 0) (.m 11 5) (.len (.s 6)))])]⟩)
 (.reg ⟨[],[],[(6,.v (.app (.s 6) (.lit [(.mm 11 0 7)]) 7))]⟩))))))
def ME:comp (vf (Sol.prog)) (Yo ofC [1,1,1,1,1,1,1,0,1,0,0,1]) Ca=xk (rD,⟨xk rDN,[(0,Cb)],[]⟩):=Z2
def MD:SS:=[(1,(.mem [.fz,.fz,.fz,.fz,.fz,.fz,.fz,.fz,.fz,.fz])),(2,(.mem [.fz,.fz])),(3,.fz),(5,.fz),(6,(.mem [.fz])),(7,(.mem [.fz]))]
def C9:SS:=[(1,(.mem [.fz,.fz,.fz,.fz,.fz,.fz,.fz,.fz,.fz,.fz])),(2,(.mem [.fz,.fz])),(3,.fz),(5,.fz),(6,(.mem [.fz])),(7,(.mem [.fz])),(9,(.clo 43 [7,6])),(10,(.mem [.fz,.fz])),(48,.fz),(47,.fz),(49,.fz),(46,.fz)]
def rC:Stm:=
(.seq
(.reg ⟨[],[],[(14,.no)]⟩)
(.seq
(.reg ⟨[],[],[(14,.no),(15,.m [(.c (.sl [])),(.c (.sl []))])]⟩)
(.seq
(.seq
(.reg ⟨[],[],[(14,.no),(16,.v (.c (.int .i64 (0)))),(17,.v (.len (.s 6))),(20,.v (.s 6))]⟩)
(.block 2
 (.loop [1,2,3,6,7,8,14,15,16,17,20]
  (.seq
  (.reg ⟨[],[],[(14,.no),(18,.v (.bin .lss (.s 16) (.s 17)))]⟩)
  (.seq
  (.cond (.s 18)
   .skip
   (.exit 2))
  (.seq
  (.block 3
   (.seq
   (.reg ⟨[],[],[(14,.no),(19,.m [(.fld (.flds (.idx (.s 20) (.s 16) 7) 0 7) 0),(.fld (.flds (.idx (.s 20) (.s 16) 7) 0 7) 1),(.fld (.flds (.idx (.s 20) (.s 16) 7) 0 7) 2),(.fld (.flds (.idx (.s 20) (.s 16) 7) 0 7) 3),(.fld (.flds (.idx (.s 20) (.s 16) 7) 0 7) 4),(.fld (.flds (.idx (.s 20) (.s 16) 7) 0 7) 5),(.fld (.flds (.idx (.s 20) (.s 16) 7) 0 7) 6)])]⟩)
   (.seq
   (.reg ⟨[],[],[(14,.no),(21,.v (.m 19 2))]⟩)
   (.reg ⟨[.callm 23 [] (.id 43) [.fz,(.mem [.fz]),(.mem [.fz])] [(.slc (.m 19 6) (.c (.int .i64 (0))) (.s 21) 1),(.ag [(.m 8 0)]),(.ag [(.m 7 0)])]],[],[(7,.m [(.fld (.ext (.s 23) 2) 0)]),(8,.m [(.fld (.ext (.s 23) 1) 0)]),(14,.no),(15,.m [(.app (.m 15 0) (.lit [(.ag [(.one (.ext (.s 23) 0)),(.slcl (.m 19 6) (.s 21) 1)])]) 2),(.m 15 1)])]⟩))))
  (.reg ⟨[],[],[(14,.no),(16,.v (.bin .add (.s 16) (.c (.int .i64 (1)))))]⟩)))))))
(.seq
(.reg ⟨[.callm 24 [] (.id 43) [.fz,(.mem [.fz]),(.mem [.fz])] [(.m 1 9),(.ag [(.m 8 0)]),(.ag [(.m 7 0)])]],[],[(7,.m [(.fld (.ext (.s 24) 2) 0)]),(8,.m [(.fld (.ext (.s 24) 1) 0)]),(14,.no),(15,.m [(.m 15 0),(.one (.ext (.s 24) 0))])]⟩)
(.seq
(.reg ⟨[.call 25 [] (.id 17) xh xh [(.mm 15 0 2)]],[],[(2,.m [(.fld (.sz (.ext (.s 25) 0) 2) 0),(.fld (.sz (.ext (.s 25) 0) 2) 1)]),(3,.v (.fl (.ext (.s 25) 1))),(14,.no)]⟩)
.ret)))))
def rCc:comp (vf (Sol.prog)) (Yo ofC [1,1,1,1,1,1,1,1]) MD=xk (rC,⟨xw,[],[C9]⟩):=Z2
def Mb:Fn:=⟨16,[0,1,2,4,5,14,13,15,7,12,19,8,9,10,11,34],
(.seq
(.reg ⟨[],[],[(3,.v (.c (.sl [])))]⟩)
(.seq
(.reg ⟨[],[],[(4,.v (.c (.sl [])))]⟩)
(.seq
(.seq
(.reg ⟨[],[],[(5,.v (.c (.int .i64 (0)))),(6,.v (.len (.s 0))),(9,.v (.s 0))]⟩)
(.block 0
 (.loop [0,1,2,3,4,5,6,9]
  (.seq
  (.reg ⟨[],[],[(7,.v (.bin .lss (.s 5) (.s 6)))]⟩)
  (.seq
  (.cond (.s 7)
   .skip
   (.exit 0))
  (.seq
  (.block 1
   (.seq
   (.reg ⟨[],[],[(8,.v (.fld (.idx (.s 9) (.s 5) 1) 0))]⟩)
   (.seq
   (.seq
   (.reg ⟨[],[],[(10,.v (.bin .eql (.s 8) (.c (.int .u64 (0)))))]⟩)
   (.cond (.s 10)
    (.seq
    (.reg ⟨[],[],[(4,.v (.app (.s 4) (.lit [(.c (.int .i64 (-1)))]) 1))]⟩)
    (.exit 1))
    .skip))
   (.seq
   (.reg ⟨[.call 16 [] (.id 44) xh xh [(.s 8)]],[],[(11,.v (.ext (.s 16) 0)),(12,.v (.ext (.s 16) 1))]⟩)
   (.seq
   (.seq
   (.reg ⟨[],[],[(13,.v (.ext (.lk (.i .u64) (.m 1 0) (.s 11) (.int .u64 (0)) xy) 0)),(14,.v (.ext (.lk (.i .u64) (.m 1 0) (.s 11) (.int .u64 (0)) xy) 1))]⟩)
   (.seq
   (.reg ⟨[],[],[(15,.v (.s 14))]⟩)
   (.cond (.s 15)
    (.reg ⟨[],[],[(11,.v (.s 13))]⟩)
    .skip)))
   (.reg ⟨[],[],[(4,.v (.app (.s 4) (.lit [(.one (.lk (.i .u64) (.m 2 0) (.s 11) (.int .i64 (0)) xh))]) 1))]⟩))))))
  (.reg ⟨[],[],[(5,.v (.bin .add (.s 5) (.c (.int .i64 (1)))))]⟩)))))))
(.seq
(.reg ⟨[],[],[(3,.v (.s 4)),(4,.no)]⟩)
.ret)))),
[(3,.v)]⟩
def cTo:ZM Sol.prog fresh sig [.fz,(.mem [.fz]),(.mem [.fz])] (Sf [.fz,(.mem [.fz]),(.mem [.fz])]) Try.f43=xk Mb:=Z2
end Vm
end
section
namespace Vm
open Go Go.Proofs
def Hp.zero_ok:Hp.zero.ok:=by
 refine⟨?_,?_,?_,?_,?_,?_,?_,?_,?_,?_,?_,?_,?_,?_⟩<;>simp[Hp.zero,ZC,Yt]
def Hq{h:Hp}(d:h.ok){part:Int}{a n:Nat}(o:a+n<=P (Zx h part))(h2:(n:Int)<=Xx (Zv h))(p:0<n):(Xw h part a n).ok:=by
 have g:ZI (Zv h)=xy:=by
  cases j:ZI (Zv h);have:Xx (Zv h)=0:=by unfold Xx;rw[j];rfl
  omega;rfl
 have l:Xx (Zv h)=(Zv h).cap- (Zv h).low- (Zv h).high:=by unfold Xx;rw[g];rfl
 have k:=WB.1 g;have q:(Zv h).low=P h.low:=rfl;have r:(Zv h).high=P h.high:=rfl;refine⟨d.base,d.cap,d.to,d.scan,?_,d.high,d.old,d.far,d.roots,?_,d.highW,d.oldW,d.farW,d.rootsW⟩;simp only[Xw,ZeK,ZfG,ZeZ];omega;intro w f;simp only[Xw]at f;obtain f|f:=Zel.1 f;exact d.lowW w f;exact(XM d part).1 w (ZeD (Zfn f))
def OO{ws:Zc}{a:Nat}(h:∀w∈ws,ZC w):∀n,∀w∈zr ws a n,ZC w
 |0=>h
 |n+1=>by
  intro w d;obtain d|d:=Zfr d;exact OO h n w d;subst d;unfold ZC;omega
def Z1q{h:Hp}(f:h.ok){part:Int}{a n:Nat}(g:0<n):(TU h part a n).2.1.ok/\ZC (TU h part a n).1:=by
 unfold TU;split;exact⟨Hp.zero_ok,by simp[ZC]⟩;split;exact⟨Hp.zero_ok,by simp[ZC]⟩;rename_i g1 g2;have j:=XM f part;refine⟨Z8i (Hq f Z0 Z0 g) ZcP ?_,Mt⟩;intro w d;obtain d|d:=Zfr d;exact OO j.1 _ w d;subst d;exact Mt
def FJ{h:Hp}(a:h.ok){w:Int}(j:ZC w):(fwd h w).2.1.ok/\ZC (fwd h w).1:=by
 unfold fwd;split;exact⟨Hp.zero_ok,by simp[ZC]⟩;split;exact⟨a,by simp[ZC]⟩;split;exact⟨Hp.zero_ok,by simp[ZC]⟩;split;exact⟨Hp.zero_ok,by simp[ZC]⟩;split;exact⟨a,j⟩;split;refine⟨a,?_⟩;generalize (Ye (Zv h) (adr w).1).2.1.toNat=k;have g:=(XM a (Ye (Zv h) (adr w).1).1).1;generalize Zx h (Ye (Zv h) (adr w).1).1=d at*;by_cases f:k<P d;have e:d.getD k 0=d[k]:=by simp[List.getD,f]
 simp only[e];exact g _ (Ze5 f);have e:d.getD k 0=0:=by simp[List.getD,f]
 simp only[e];unfold ZC;omega;split;exact⟨Hp.zero_ok,by simp[ZC]⟩;exact Z1q a Z0
end Vm
end
section
namespace Vm
open Go
open Go.Proofs
def II:Fn:=⟨6,[0,1,2,3,4,11],
pQ [pR [(1,pS 0 10),pV 2 (pI 0)],pC [pK 6 51 [.mm 1 0 10]] [pV 3 (.ext (.s 6) 0),pV 4 (.ext (.s 6) 1)],pQ [pR [pV 5 (.un .not (.s 4))]] (.cond (.s 5) (pQ [pR [pV 2 (pI 0)]] .ret) .skip),pC [pK 7 52 [.s 3]] [pV 2 (.s 7)]] .ret,[(2,.v)]⟩
def c22:ZM Sol.prog fresh sig [.fz] [] Try.f22=xk II:=Z2
def IK:Fn:=⟨5,[0,1,2,3,4],
pQ [pR [(1,pS 0 10),pV 2 pF],pC [pK 5 51 [.mm 1 0 10]] [pV 3 (.ext (.s 5) 0),pV 4 (.ext (.s 5) 1)],pR [pV 2 (.s 4)]] .ret,[(2,.v)]⟩
def c25:ZM Sol.prog fresh sig [.fz] [] Try.f25=xk IK:=Z2
def IL:Fn:=⟨8,[0,1,2,4,5,6,7,22],
pQ [pR [(2,pS 0 10),pV 3 pN,pV 4 (pI 0)],pC [pK 8 51 [.mm 2 0 10]] [pV 5 (.ext (.s 8) 0),pV 6 (.ext (.s 8) 1)],pQ [.reg ⟨[.lt 9 [] (.un .not (.s 6)),.lt 10 [] (.ite (.s 9) pT (.bin .lss (.s 1) (pI 1)))],[([(9,xh)],.bin .lss (.s 1) (pI 1)),([(10,xh)],.bin .gtr (.s 1) (pI 4))],[pV 7 (.ite (.s 10) pT (.bin .gtr (.s 1) (pI 4)))]⟩] (.cond (.s 7) (pQ [pR [pV 4 (pI 1)]] .ret) .skip),pR [pV 3 (.fld (.ai (.flds (.star (.s 5)) 17 4) (.bin .sub (.s 1) (pI 1)) 4 1 xy) 0),pV 4 (pI 0)]] .ret,[(3,.v),(4,.v)]⟩
def c27:ZM Sol.prog fresh sig [.fz,.fz] [] Try.f27=xk IL:=Z2
def IV:Fn:=⟨12,[0,1,2,3,13,4,16,15,17,6,14,24],
pQ [pR [(1,pS 0 10),pV 2 (.c (.nul 0)),pV 3 pF],.reg ⟨[pK 12 64 [.mm 1 0 10]],[([],.ag [.fld (.mm 1 0 10) 0,.fld (.mm 1 0 10) 1,.fld (.mm 1 0 10) 2,.fld (.mm 1 0 10) 3,.fld (.mm 1 0 10) 4,.fld (.mm 1 0 10) 5,.fld (.mm 1 0 10) 6,.fld (.mm 1 0 10) 7,.fld (.mm 1 0 10) 8,.fld (.mm 1 0 10) 9,.fld (.sz (.s 12) 7) 0,.fld (.sz (.s 12) 7) 1,.fld (.sz (.s 12) 7) 2,.fld (.sz (.s 12) 7) 3,.fld (.sz (.s 12) 7) 4,.fld (.sz (.s 12) 7) 5,.fld (.sz (.s 12) 7) 6,pN,pN,pN,pN,.c (.mp 0 [] []),.c (.mp 0 [] [])])],[(5,.m [.fld (.mm 1 0 10) 0,.fld (.mm 1 0 10) 1,.fld (.mm 1 0 10) 2,.fld (.mm 1 0 10) 3,.fld (.mm 1 0 10) 4,.fld (.mm 1 0 10) 5,.fld (.mm 1 0 10) 6,.fld (.mm 1 0 10) 7,.fld (.mm 1 0 10) 8,.fld (.mm 1 0 10) 9,.fld (.sz (.s 12) 7) 0,.fld (.sz (.s 12) 7) 1,.fld (.sz (.s 12) 7) 2,.fld (.sz (.s 12) 7) 3,.fld (.sz (.s 12) 7) 4,.fld (.sz (.s 12) 7) 5,.fld (.sz (.s 12) 7) 6,pN,pN,pN,pN,.c (.mp 0 [] []),.c (.mp 0 [] [])])]⟩,pQ [pC [pK 10 82 []] [pV 6 (pI 0),pV 7 (.len (.s 10))]] (.block 0 (.loop [0,1,2,3,5,6,7,10] (pQ [pR [pV 8 (.bin .lss (.s 6) (.s 7))],.cond (.s 8) .skip (.exit 0),.block 1 (pQ [pR [(9,.m [.fld (.flds (.idx (.s 10) (.s 6) 1) 0 1) 0])],pC [.callm 13 [] (.e (.m 9 0)) [.mem [.fz,.fz,.fz,.fz,.fz,.fz,.fz,.fz,.fz,.fz,.fz,.fz,.fz,.fz,.fz,.fz,.fz,.fz,.fz,.fz,.fz,.own 84,.own 115]] [.ag [.m 5 0,.m 5 1,.m 5 2,.m 5 3,.m 5 4,.m 5 5,.m 5 6,.m 5 7,.m 5 8,.m 5 9,.m 5 10,.m 5 11,.m 5 12,.m 5 13,.m 5 14,.m 5 15,.m 5 16,.m 5 17,.m 5 18,.m 5 19,.m 5 20,.m 5 21,.m 5 22]]] [(5,pM (.ext (.s 13) 1) 23),pV 11 (.un .not (.ext (.s 13) 0))]] (.cond (.s 11) (pQ [pR [pV 2 (.c (.nul 0)),pV 3 pF]] .ret) .skip))] (pR [pV 6 (.bin .add (.s 6) (pI 1))])))),pR [pV 2 (.pt xw [.m 5 0,.m 5 1,.m 5 2,.m 5 3,.m 5 4,.m 5 5,.m 5 6,.m 5 7,.m 5 8,.m 5 9,.m 5 10,.m 5 11,.m 5 12,.m 5 13,.m 5 14,.m 5 15,.m 5 16,.m 5 17,.m 5 18,.m 5 19,.m 5 20,.m 5 21,.m 5 22]),pV 3 pT,(5,.no)]] .ret,[(2,.v),(3,.v)]⟩
def c51:ZM Sol.prog fresh sig [.fz] [] Try.f51=xk IV:=Z2
def IW:Fn:=⟨11,[0,2,3,4,8,19,18,20,6,17,25],
pQ [pR [pV 1 (pI 0)],pR [pV 2 (pI 0)],pQ [pR [pV 3 (pI 3)]] (.block 0 (.loop [0,1,2,3] (pQ [pQ [pR [pV 4 (.bin .leq (.s 3) (pI 4))]] (.cond (.s 4) .skip (.exit 0)),.block 1 (pQ [pR [pV 5 (pI 0),pV 6 (.len (.fld (.ai (.flds (.star (.s 0)) 17 4) (.bin .sub (.s 3) (pI 1)) 4 1 xy) 0)),pV 9 (.fld (.ai (.flds (.star (.s 0)) 17 4) (.bin .sub (.s 3) (pI 1)) 4 1 xy) 0)]] (.block 2 (.loop [0,1,2,3,4,5,6,9] (pQ [pR [pV 7 (.bin .lss (.s 5) (.s 6))],.cond (.s 7) .skip (.exit 2),.block 3 (pQ [pR [(8,pM (.flds (.idx (.s 9) (.s 5) 5) 0 5) 5)],pR [pV 10 (.un .not (.m 8 3))]] (.cond (.s 10) (pR [pV 2 (.bin .add (.s 2) (.bin .add (pI 1) (.m 8 1)))]) .skip))] (pR [pV 5 (.bin .add (.s 5) (pI 1))])))))] (pR [pV 3 (.bin .add (.s 3) (pI 1))])))),pR [pV 1 (.s 2)]] .ret,[(1,.v)]⟩
def c52:ZM Sol.prog fresh sig [.fz] [] Try.f52=xk IW:=Z2
def M7:Fn:=⟨1,[0],
pQ [pR [pV 0 pN],pR [pV 0 (.lit [.ag [.c (.fn 103)],.ag [.c (.fn 104)],.ag [.c (.fn 105)],.ag [.c (.fn 106)],.ag [.c (.fn 107)],.ag [.c (.fn 108)],.ag [.c (.fn 109)],.ag [.c (.fn 110)]])]] .ret,[(0,.v)]⟩
def c82:ZM Sol.prog fresh sig [] [] Try.f82=xk M7:=Z2
def Ir:Fn:=⟨2,[0,2],
pQ [pR [pV 1 pF],.reg ⟨[pK 2 65 [.flds (.star (.s 0)) 10 7],.lt 3 [] (.s 2),.lt 4 [] (.ite (.s 3) (.bin .leq (.len (.fld (.star (.s 0)) 9)) (pI 16)) pF),.lt 5 [] (.ite (.s 4) (.bin .geq (.fld (.star (.s 0)) 4) (pI 0)) pF)],[([(3,xy)],.bin .leq (.len (.fld (.star (.s 0)) 9)) (pI 16)),([(4,xy)],.bin .geq (.fld (.star (.s 0)) 4) (pI 0)),([(5,xy)],.bin .leq (.fld (.star (.s 0)) 4) (.len (.fld (.star (.s 0)) 5)))],[pV 1 (.ite (.s 5) (.bin .leq (.fld (.star (.s 0)) 4) (.len (.fld (.star (.s 0)) 5))) pF)]⟩] .ret,[(1,.v)]⟩
def v5:ZM Sol.prog fresh sig [.fz] [] Try.f103=xk Ir:=Z2
def KG:Fn:=⟨3,[0,2,7],
pQ [pR [pV 1 pF],pQ [pR [pV 2 (.fld (.star (.s 0)) 3)]] (.cond (.s 2) (pQ [pR [pV 1 (.bin .lss (.fld (.star (.s 0)) 4) (.len (.fld (.star (.s 0)) 5)))]] .ret) .skip),.reg ⟨[.lt 3 [] (.bin .eql (.len (.fld (.star (.s 0)) 7)) (pI 0)),.lt 4 [] (.ite (.s 3) (.bin .eql (.len (.fld (.star (.s 0)) 8)) (pI 0)) pF)],[([(3,xy)],.bin .eql (.len (.fld (.star (.s 0)) 8)) (pI 0)),([(4,xy)],.bin .eql (.fld (.star (.s 0)) 4) (.len (.fld (.star (.s 0)) 5)))],[pV 1 (.ite (.s 4) (.bin .eql (.fld (.star (.s 0)) 4) (.len (.fld (.star (.s 0)) 5))) pF)]⟩] .ret,[(1,.v)]⟩
def v9:ZM Sol.prog fresh sig [.fz] [] Try.f104=xk KG:=Z2
def Is:Fn:=⟨11,[0,2,3,8,9,4,5,6,7,18,39],
pQ [pR [pV 1 pF],pR [pV 2 pT],.skip,pQ [pR [pV 3 (pI 0)]] (.block 0 (.loop [0,1,2,3] (pQ [pR [pV 4 (.bin .lss (.s 3) (pI 4))],.cond (.s 4) .skip (.exit 0),.block 1 (pQ [pR [pV 5 (.s 3)],pR [pV 6 (.bin .add (.s 5) (pI 1))],pR [pV 7 pN],pR [pV 8 (pI 0)],pQ [.reg ⟨[.lt 11 [] (.bin .eql (.s 6) (pI 1))],[([(11,xh)],.bin .eql (.s 6) (pI 2))],[pV 9 (.ite (.s 11) pT (.bin .eql (.s 6) (pI 2)))]⟩] (.cond (.s 9) (pC [pK 12 118 [.pt xw [.m 0 0,.m 0 1,.m 0 2,.m 0 3,.m 0 4,.m 0 5,.m 0 6,.m 0 7,.m 0 8,.m 0 9,.m 0 10,.m 0 11,.m 0 12,.m 0 13,.m 0 14,.m 0 15,.m 0 16,.m 0 17,.m 0 18,.m 0 19,.m 0 20,.m 0 21,.m 0 22],.s 6],.call 13 [] (.id 117) xy xh [.s 12]] [pV 7 (.ext (.s 13) 0),pV 8 (.ext (.s 13) 1)]) (pC [pK 14 118 [.pt xw [.m 0 0,.m 0 1,.m 0 2,.m 0 3,.m 0 4,.m 0 5,.m 0 6,.m 0 7,.m 0 8,.m 0 9,.m 0 10,.m 0 11,.m 0 12,.m 0 13,.m 0 14,.m 0 15,.m 0 16,.m 0 17,.m 0 18,.m 0 19,.m 0 20,.m 0 21,.m 0 22],.s 6],pK 15 118 [.pt xw [.m 0 0,.m 0 1,.m 0 2,.m 0 3,.m 0 4,.m 0 5,.m 0 6,.m 0 7,.m 0 8,.m 0 9,.m 0 10,.m 0 11,.m 0 12,.m 0 13,.m 0 14,.m 0 15,.m 0 16,.m 0 17,.m 0 18,.m 0 19,.m 0 20,.m 0 21,.m 0 22],.s 6],pK 16 120 [.pt xw [.m 0 0,.m 0 1,.m 0 2,.m 0 3,.m 0 4,.m 0 5,.m 0 6,.m 0 7,.m 0 8,.m 0 9,.m 0 10,.m 0 11,.m 0 12,.m 0 13,.m 0 14,.m 0 15,.m 0 16,.m 0 17,.m 0 18,.m 0 19,.m 0 20,.m 0 21,.m 0 22],.s 15],.call 17 [] (.id 119) xy xh [.s 14,.s 16]] [pV 7 (.ext (.s 17) 0),pV 8 (.ext (.s 17) 1)])),pQ [pR [pV 10 (.bin .neq (.s 8) (pI 0))]] (.cond (.s 10) (pQ [pR [pV 2 pF]] (.exit 0)) .skip)] (pC [.callm 18 [] (.id 121) [.mem [.fz,.fz,.fz,.fz,.fz,.fz,.fz,.fz,.fz,.fz,.fz,.fz,.fz,.fz,.fz,.fz,.fz,.fz,.fz,.fz,.fz,.own 84,.own 115],.fz,.fz] [.ag [.m 0 0,.m 0 1,.m 0 2,.m 0 3,.m 0 4,.m 0 5,.m 0 6,.m 0 7,.m 0 8,.m 0 9,.m 0 10,.m 0 11,.m 0 12,.m 0 13,.m 0 14,.m 0 15,.m 0 16,.m 0 17,.m 0 18,.m 0 19,.m 0 20,.m 0 21,.m 0 22],.s 6,.s 7]] [(0,pM (.ext (.s 18) 1) 23)]))] (pR [pV 3 (.bin .add (.s 3) (pI 1))])))),pR [pV 1 (.s 2)]] .ret,[(1,.v)]⟩
def x0:ZM Sol.prog fresh sig [(.mem [.fz,.fz,.fz,.fz,.fz,.fz,.fz,.fz,.fz,.fz,.fz,.fz,.fz,.fz,.fz,.fz,.fz,.fz,.fz,.fz,.fz,(.own 84),(.own 115)])] [(0,(.mem [.fz,.fz,.fz,.fz,.fz,.fz,.fz,.fz,.fz,.fz,.fz,.fz,.fz,.fz,.fz,.fz,.fz,.fz,.fz,.fz,.fz,(.own 84),(.own 115)]))] Try.f105=xk Is:=Z2
def Bs:Fn:=⟨13,[0,2,12,3,4,15,26,25,27,6,24,32,46],
pQ [pR [pV 1 pF],pQ [pR [pV 2 (.un .not (.fld (.star (.s 0)) 3))]] (.cond (.s 2) (pQ [pR [pV 1 pT]] .ret) .skip),pR [pV 3 (.c (.mp 0 [] []))],pQ [pR [pV 4 (pI 3)]] (.block 0 (.loop [0,1,2,3,4] (pQ [pQ [pR [pV 5 (.bin .leq (.s 4) (pI 4))]] (.cond (.s 5) .skip (.exit 0)),.block 1 (pQ [pR [pV 6 (pI 0),pV 7 (.len (.fld (.ai (.flds (.star (.s 0)) 17 4) (.bin .sub (.s 4) (pI 1)) 4 1 xy) 0)),pV 10 (.fld (.ai (.flds (.star (.s 0)) 17 4) (.bin .sub (.s 4) (pI 1)) 4 1 xy) 0)]] (.block 2 (.loop [0,1,2,3,4,5,6,7,10] (pQ [pR [pV 8 (.bin .lss (.s 6) (.s 7))],.cond (.s 8) .skip (.exit 2),.block 3 (pQ [pR [(9,pM (.flds (.idx (.s 10) (.s 6) 5) 0 5) 5)],pQ [pR [pV 11 (.un .not (.m 9 3))]] (.cond (.s 11) (.exit 3) .skip),pQ [.reg ⟨[.lt 13 [] (.bin .neq (.lk (.i .u64) (.fld (.star (.s 0)) 21) (.m 9 4) (.int .i64 0) xh) (pI 1))],[([(13,xh)],.fl (.lk (.i .u64) (.s 3) (.m 9 4) (.bool xh) xh))],[pV 12 (.ite (.s 13) pT (.fl (.lk (.i .u64) (.s 3) (.m 9 4) (.bool xh) xh)))]⟩] (.cond (.s 12) (pQ [pR [pV 1 pF]] .ret) .skip)] (pR [pV 3 (.mput (.i .u64) (.s 3) (.m 9 4) pT)]))] (pR [pV 6 (.bin .add (.s 6) (pI 1))])))))] (pR [pV 4 (.bin .add (.s 4) (pI 1))])))),pR [pV 1 (.bin .eql (.mlen (.s 3)) (.len (.fld (.ai (.flds (.star (.s 0)) 17 4) (pI 0) 4 1 xy) 0)))]] .ret,[(1,.v)]⟩
def x5:ZM Sol.prog fresh sig [.fz] [] Try.f106=xk Bs:=Z2
def It:Fn:=⟨9,[0,1,2,11,10,12,4,9,18],
pQ [pR [(1,.m [.one (.s 0)]),pV 2 pF],pQ [pR [pV 3 (pI 0),pV 4 (.len (.fld (.star (.m 1 0)) 9)),pV 7 (.fld (.star (.m 1 0)) 9)]] (.block 0 (.loop [0,1,2,3,4,7] (pQ [pR [pV 5 (.bin .lss (.s 3) (.s 4))],.cond (.s 5) .skip (.exit 0),.block 1 (pQ [pR [pV 6 (.fld (.idx (.s 7) (.s 3) 1) 0)],pC [pK 9 122 [.m 1 0,.s 6,pI 1,pI 2]] [pV 8 (.un .not (.s 9))]] (.cond (.s 8) (pQ [pR [pV 2 pF]] .ret) .skip))] (pR [pV 3 (.bin .add (.s 3) (pI 1))])))),pC [.call 10 [] (.id 123) xh xy [.m 1 0,pI 2,.pt (xk 124) [.pt xw [.m 1 0]]],.lt 11 [] (.s 10),.call 12 [(11,xy)] (.id 123) xh xy [.m 1 0,pI 1,.pt (xk 125) [.pt xw [.m 1 0]]]] [pV 2 (.ite (.s 11) (.s 12) pF)]] .ret,[(2,.v)]⟩
def x6:ZM Sol.prog fresh sig [.fz] [] Try.f107=xk It:=Z2
def Iu:Fn:=⟨3,[0,1,2],
pQ [pR [(1,.m [.one (.s 0)]),pV 2 pF],pC [.call 3 [] (.id 123) xh xy [.m 1 0,pI 1,.pt (xk 126) [.pt xw [.m 1 0]]]] [pV 2 (.s 3)]] .ret,[(2,.v)]⟩
def Z00:ZM Sol.prog fresh sig [.fz] [] Try.f108=xk Iu:=Z2
def Iv:Fn:=⟨4,[0,1,2,3],
pQ [pR [(1,.m [.one (.s 0)]),pV 2 pF],pR [(3,.no)],pC [.call 4 [] (.id 123) xh xy [.m 1 0,pI 3,.pt (xk 127) [.pt xw [.m 1 0]]],.lt 5 [] (.s 4),.call 6 [(5,xy)] (.id 123) xh xy [.m 1 0,pI 4,.pt (xk 127) [.pt xw [.m 1 0]]]] [pV 2 (.ite (.s 5) (.s 6) pF),(3,.no)]] .ret,[(2,.v)]⟩
def Z01:ZM Sol.prog fresh sig [.fz] [] Try.f109=xk Iv:=Z2
def Iw:Fn:=⟨2,[0,2],
pQ [pR [pV 1 pF],pC [pK 2 52 [.s 0]] [pV 1 (.bin .leq (.bin .add (.bin .add (.len (.fld (.star (.s 0)) 5)) (.len (.fld (.star (.s 0)) 6))) (.s 2)) (.fld (.star (.s 0)) 1))]] .ret,[(1,.v)]⟩
def Z02:ZM Sol.prog fresh sig [.fz] [] Try.f110=xk Iw:=Z2
def Iy:Fn:=⟨3,[0,1,4],
pQ [pR [pV 2 pN],pR [pV 2 (.ai (.ag [.fld (.star (.s 0)) 5,.fld (.star (.s 0)) 6,.fld (.star (.s 0)) 7,.fld (.star (.s 0)) 8]) (.bin .sub (.s 1) (pI 1)) 4 1 xh)]] .ret,[(2,.v)]⟩
def Z05:ZM Sol.prog fresh sig [.fz,.fz] [] Try.f118=xk Iy:=Z2
def Iz:Fn:=⟨14,[0,1,4,5,6,15,7,8,9,25,10,11,36,52],
pQ [pR [pV 2 pN],pR [pV 3 pN],pQ [pR [pV 4 (pI 0)]] (.block 0 (.loop [0,1,2,3,4] (pQ [pQ [pR [pV 5 (.bin .lss (.s 4) (.len (.s 1)))]] (.cond (.s 5) .skip (.exit 0))] (.block 1 (pQ [pR [(6,.m [pI 0,pI 0])],pQ [pC [pK 14 44 [.fld (.idx (.s 1) (.s 4) 1) 0]] [pV 7 (.ext (.s 14) 0),pV 8 (.ext (.s 14) 1)],pR [pV 9 (.bin .eql (.s 8) (pI 0))]] (.cond (.s 9) (pQ [pR [(10,pM (.sz (.ext (.lk (.i .u64) (.fld (.star (.s 0)) 22) (.s 7) (.agg [.int .i64 0,.int .i64 0]) xy) 0) 2) 2),pV 11 (.ext (.lk (.i .u64) (.fld (.star (.s 0)) 22) (.s 7) (.agg [.int .i64 0,.int .i64 0]) xy) 1)],pQ [pR [pV 12 (.un .not (.s 11))]] (.cond (.s 12) (pQ [pR [pV 2 (.s 3),(3,.no)]] .ret) .skip),pR [(6,pM (.mm 10 0 2) 2)]] (pR [pV 3 (.app (.s 3) (.lit [.mm 6 0 2]) 2)])) (pQ [pC [pK 15 69 [.fld (.idx (.s 1) (.s 4) 1) 0]] [(6,pM (.sz (.ext (.s 15) 0) 2) 2),pV 8 (.ext (.s 15) 1)],pR [pV 13 (.bin .neq (.s 8) (pI 0))]] (.cond (.s 13) (pQ [pR [pV 2 (.s 3),(3,.no)]] .ret) .skip)))] (pR [pV 4 (.bin .add (.s 4) (.bin .add (pI 1) (.m 6 0)))])))))),pR [pV 2 (.s 3),(3,.no)]] .ret,[(2,.v)]⟩
def Z06:ZM Sol.prog fresh sig [.fz,.fz] [] Try.f120=xk Iz:=Z2
def KI:Fn:=⟨11,[0,1,2,19,18,20,7,17,8,9,42],
pQ [.reg ⟨[],[([],.ai (.c (.agg [(.bool xy),(.bool xy),(.bool xy),(.bool xy)])) (.bin .sub (.s 1) (pI 1)) 4 1 xh)],[(0,.m [.m 0 0,.m 0 1,.m 0 2,.m 0 3,.m 0 4,.m 0 5,.m 0 6,.m 0 7,.m 0 8,.m 0 9,.m 0 10,.m 0 11,.m 0 12,.m 0 13,.m 0 14,.m 0 15,.m 0 16,.fld (.aput (.mm 0 17 4) (.bin .sub (.s 1) (pI 1)) 4 1 (.one (.s 2))) 0,.fld (.aput (.mm 0 17 4) (.bin .sub (.s 1) (pI 1)) 4 1 (.one (.s 2))) 1,.fld (.aput (.mm 0 17 4) (.bin .sub (.s 1) (pI 1)) 4 1 (.one (.s 2))) 2,.fld (.aput (.mm 0 17 4) (.bin .sub (.s 1) (pI 1)) 4 1 (.one (.s 2))) 3,.m 0 21,.m 0 22])]⟩,pR [pV 3 (pI 0),pV 4 (.len (.s 2)),pV 7 (.s 2)]] (.block 0 (.loop [0,1,2,3,4,7] (pQ [pR [pV 5 (.bin .lss (.s 3) (.s 4))],.cond (.s 5) .skip (.exit 0),.block 1 (pQ [pR [(6,pM (.flds (.idx (.s 7) (.s 3) 5) 0 5) 5)],pC [pK 11 75 [.mm 0 10 7,.ag [.one (.s 1),.m 6 0]]] [pV 8 (.ext (.s 11) 0),pV 9 (.ext (.s 11) 1)],pR [(0,.m [.m 0 0,.m 0 1,.m 0 2,.m 0 3,.m 0 4,.m 0 5,.m 0 6,.m 0 7,.m 0 8,.m 0 9,.m 0 10,.m 0 11,.m 0 12,.m 0 13,.m 0 14,.m 0 15,.m 0 16,.m 0 17,.m 0 18,.m 0 19,.m 0 20,.mput (.i .u64) (.m 0 21) (.s 8) (.s 1),.m 0 22])],pR [pV 10 (.bin .eql (.s 1) (pI 1))]] (.cond (.s 10) (pR [(0,.m [.m 0 0,.m 0 1,.m 0 2,.m 0 3,.m 0 4,.m 0 5,.m 0 6,.m 0 7,.m 0 8,.m 0 9,.m 0 10,.m 0 11,.m 0 12,.m 0 13,.m 0 14,.m 0 15,.m 0 16,.m 0 17,.m 0 18,.m 0 19,.m 0 20,.m 0 21,.mput (.i .u64) (.m 0 22) (.s 8) (.mm 6 1 2)])]) .skip))] (pR [pV 3 (.bin .add (.s 3) (pI 1))])))),[]⟩
def Z07:ZM Sol.prog fresh sig [(.mem [.fz,.fz,.fz,.fz,.fz,.fz,.fz,.fz,.fz,.fz,.fz,.fz,.fz,.fz,.fz,.fz,.fz,.fz,.fz,.fz,.fz,(.own 84),(.own 115)]),.fz,.fz] [(0,(.mem [.fz,.fz,.fz,.fz,.fz,.fz,.fz,.fz,.fz,.fz,.fz,.fz,.fz,.fz,.fz,.fz,.fz,.fz,.fz,.fz,.fz,(.own 84),(.own 115)]))] Try.f121=xk KI:=Z2
def Bu:Fn:=⟨11,[0,1,2,3,8,14,9,10,21,11,12],
pQ [pR [pV 4 pF],pQ [pR [pV 5 (.bin .eql (.s 1) (pU 0))]] (.cond (.s 5) (pQ [pR [pV 4 pT]] .ret) .skip),pC [pK 11 44 [.s 1]] [pV 6 (.ext (.s 11) 0),pV 7 (.ext (.s 11) 1)],pQ [pR [pV 8 (.bin .neq (.s 7) (pI 0))]] (.cond (.s 8) (pQ [pR [pV 4 pF]] .ret) .skip),pR [pV 9 (.ext (.lk (.i .u64) (.fld (.star (.s 0)) 21) (.s 6) (.int .i64 0) xy) 0),pV 10 (.ext (.lk (.i .u64) (.fld (.star (.s 0)) 21) (.s 6) (.int .i64 0) xy) 1)],.reg ⟨[.lt 12 [] (.s 10),.lt 13 [] (.ite (.s 12) (.bin .geq (.s 9) (.s 2)) pF)],[([(12,xy)],.bin .geq (.s 9) (.s 2)),([(13,xy)],.bin .leq (.s 9) (.s 3))],[pV 4 (.ite (.s 13) (.bin .leq (.s 9) (.s 3)) pF)]⟩] .ret,[(4,.v)]⟩
def Z08:ZM Sol.prog fresh sig [.fz,.fz,.fz,.fz] [] Try.f122=xk Bu:=Z2
def IA:Fn:=⟨17,[0,1,2,6,7,23,22,24,9,21,28,32,31,33,10,11,47],
pQ [pR [pV 3 pF],pC [pK 17 118 [.s 0,.s 1]] [pV 4 (.s 17)],pQ [pR [pV 5 (pI 0),pV 6 (.len (.fld (.ai (.flds (.star (.s 0)) 17 4) (.bin .sub (.s 1) (pI 1)) 4 1 xy) 0)),pV 9 (.fld (.ai (.flds (.star (.s 0)) 17 4) (.bin .sub (.s 1) (pI 1)) 4 1 xy) 0)]] (.block 0 (.loop [0,1,2,3,4,5,6,9] (pQ [pR [pV 7 (.bin .lss (.s 5) (.s 6))],.cond (.s 7) .skip (.exit 0),.block 1 (pQ [pR [(8,pM (.flds (.idx (.s 9) (.s 5) 5) 0 5) 5)],pQ [pR [pV 10 (.m 8 3)]] (.cond (.s 10) (.exit 1) .skip),pR [pV 11 (pI 0),pV 12 (.m 8 2)]] (.block 2 (.loop [0,1,2,3,4,5,6,7,8,9,10,11,12] (pQ [pR [pV 13 (.bin .lss (.s 11) (.s 12))],.cond (.s 13) .skip (.exit 2),.block 3 (pQ [pR [pV 14 (.s 11)],pR [pV 15 (.bin .add (.bin .add (.m 8 0) (pI 1)) (.s 14))],pC [.call 18 [] (.e (.s 2)) xh xh [.s 15,.fld (.idx (.s 4) (.s 15) 1) 0]] [pV 16 (.un .not (.s 18))]] (.cond (.s 16) (pQ [pR [pV 3 pF]] .ret) .skip))] (pR [pV 11 (.bin .add (.s 11) (pI 1))])))))] (pR [pV 5 (.bin .add (.s 5) (pI 1))])))),pR [pV 3 pT]] .ret,[(3,.v)]⟩
def Z09:ZM Sol.prog fresh sig [.fz,.fz,.fz] [] Try.f123=xk IA:=Z2
def IB:Fn:=⟨4,[0,1,2,5],
pQ [pR [pV 3 pF],pC [pK 4 122 [.fld (.star (.s 2)) 0,.s 1,pI 1,pI 2]] [pV 3 (.s 4)]] .ret,[(3,.v)]⟩
def Z0a:ZM Sol.prog fresh sig [.fz,.fz,.fz] [] Try.f124=xk IB:=Z2
def Bv:Fn:=⟨4,[0,1,2,5],
pQ [pR [pV 3 pF],pC [.lt 4 [] (.bin .geq (.s 0) (.fld (.star (.fld (.star (.s 2)) 0)) 4)),.call 5 [(4,xh)] (.id 122) xh xh [.fld (.star (.s 2)) 0,.s 1,pI 1,pI 2]] [pV 3 (.ite (.s 4) pT (.s 5))]] .ret,[(3,.v)]⟩
def Z0b:ZM Sol.prog fresh sig [.fz,.fz,.fz] [] Try.f125=xk Bv:=Z2
def Bw:Fn:=⟨4,[0,1,2,5],
pQ [pR [pV 3 pF],pC [.lt 4 [] (.bin .lss (.s 0) (.fld (.star (.fld (.star (.s 2)) 0)) 4)),.call 5 [(4,xh)] (.id 122) xh xh [.fld (.star (.s 2)) 0,.s 1,pI 1,pI 4]] [pV 3 (.ite (.s 4) pT (.s 5))]] .ret,[(3,.v)]⟩
def Z0c:ZM Sol.prog fresh sig [.fz,.fz,.fz] [] Try.f126=xk Bw:=Z2
def IC:Fn:=⟨4,[0,1,2,5],
pQ [pR [pV 3 pF],pC [pK 4 122 [.fld (.star (.s 2)) 0,.s 1,pI 3,pI 4]] [pV 3 (.s 4)]] .ret,[(3,.v)]⟩
def Z0d:ZM Sol.prog fresh sig [.fz,.fz,.fz] [] Try.f127=xk IC:=Z2
end Vm
end
section
namespace Vm
open Go Go.Proofs
def XO{α:Type}(l:List (Int×α))(k:Int)(v:α):List (Int×α):=match l.findIdx? (·.1==k)with
 |some i=>l.set i (k,v)
 |none=>l++[(k,v)]
def Y1{α:Type}(l:List (Int×α))(k:Int):Option α:=(l.find? (·.1==k)).map (·.2)
def Yf{α:Type}(f:α->V)(l:List (Int×α)):V:=.mp 0 (l.map λx=>vu x.1) (l.map λx=>f x.2)
def jP{α:Type}{k:Int}:∀ {l:List (Int×α)},Te (vu k) (l.map λx=>vu x.1)=xk (l.findIdx? (·.1==k))
 | []=>rfl
 |y::l=>by
  simp only[Zeb,Te,Ke,ZeA,ZgE];by_cases h:k=y.1;simp[h];have a:(k==y.1)=xh:=by simpa using h
  have d:(y.1==k)=xh:=by simpa using ZfF h
  simp[a,d,jP]
def JT{α:Type}{p:α->Bool}:∀ {l:List α},l.find? p=(l.findIdx? p).bind λi=>l[i]?
 | []=>rfl
 |x::l=>by
  rw[Zhc,ZgE];cases h:p x;simp only[Ze3,Zex];rw[JT (l:=l)];cases l.findIdx? p<;>simp;simp
theorem RY{α:Type}{f:α->V}{l:List (Int×α)}{k:Int}{z:V}{ok:Bool}:Us (.i .u64) (Yf f l) (vu k) z ok=match Y1 l k with
  |some x=>xk (if ok then .tup [f x,.bool xy]else f x)
  |none=>xk (if ok then .tup [z,.bool xh]else z):=by
 unfold Us Yf Y1;simp only[Vc,ZgQ,Zfv,Zex,jP,JT];grind [List.findIdx?_eq_some_iff_getElem]
def Km{α:Type}{f:α->V}{l:List (Int×α)}{k:Int}{x:α}:UO (.i .u64) (Yf f l) (vu k) (f x)=xk (Yf f (XO l k x)):=by
 unfold UO Yf XO;simp only[Vc,ZgQ,Zfv,Zex,jP];cases h:l.findIdx? (·.1==k)with
 |none=>simp
 |some i=>
  have g:=ZeG.1 h;obtain⟨d,n,_⟩:=g;have a:(l[i]).1=k:=by simpa using n
  simp only[ZdP,V.mp.injEq,true_and];constructor;rw[ZgA];apply Zgo;intro j;rw[List.getElem?_set];split;rename_i e;subst e;simp[d,a];rfl;rw[ZgA]
@[simp]theorem Zbr{α:Type}(f:α->V)(l:List (Int×α)):YR (Yf f l)=xk (Yf f l):=rfl
@[simp]theorem Z9w{α:Type}(f:α->V)(l:List (Int×α)):(Yf f l).cells=[Yf f l]:=rfl
@[simp]theorem ZbC{α:Type}(f:α->V)(l:List (Int×α)):(Yf f l).one=xy:=rfl
@[simp]theorem Zbg{α:Type}(f:α->V)(l:List (Int×α)):SX (Yf f l)=xk (vi (P l)):=by simp[Yf]
def QL{α:Type}{l:List (Int×α)}{k j:Int}{x:α}:Y1 (XO l k x) j=if k=j then xk x else Y1 l j:=by
 unfold Y1 XO;cases h:l.findIdx? (·.1==k)with
 |none=>
  grind
 |some i=>
  obtain⟨n,g,d⟩:=ZeG.1 h;have a:(l[i]).1=k:=by simpa using g
  simp only;by_cases e:k=j;subst e;rw[if_pos rfl,JT];grind [List.findIdx?_eq_some_iff_getElem,List.getElem_set_ne];rw[if_neg e,JT,JT];have:(l.set i (k,x)).findIdx? (·.1==j)=l.findIdx? (·.1==j):=by
   apply Option.ext;intro q;rw[ZeG,ZeG];have t:((k,x).1==j)=xh:=by simpa using e
   have f:((l[i]).1==j)=xh:=by rw[a];simpa using e
   constructor;grind;grind
  rw[this];cases o:l.findIdx? (·.1==j)with
  |none=>rfl
  |some q=>
   obtain⟨p,r,_⟩:=ZeG.1 o;grind
structure Ck where
 h:Hp
 o1:List Ob
 o2:List Ob
 o3:List Ob
 o4:List Ob
 pm:List (Int×Int)
 lm:List (Int×(Int×Int))
def Ck.obs(s:Ck)(k:Int):List Ob:=if k=1 then s.o1 else if k=2 then s.o2 else if k=3 then s.o3 else s.o4
def ZU(s:Ck):List V:=[vu s.h.base,vi s.h.cap,vi s.h.to,.bool s.h.cycle,vi s.h.scan,.sl (s.h.low.map vu),.sl (s.h.high.map vu),.sl (s.h.old.map vu),.sl (s.h.far.map vu),.sl (s.h.roots.map vu),
 vu s.h.base,vi s.h.cap,vi s.h.to,vi (P s.h.low),vi (P s.h.high),vi (P s.h.old),vi (P s.h.far),
 .sl (s.o1.map ZL),.sl (s.o2.map ZL),.sl (s.o3.map ZL),.sl (s.o4.map ZL),Yf vi s.pm,Yf Wh s.lm]
def Xd(s:Ck):V:=.ptr (ZU s)
def Ri:IntKind.i64.wrap 0=0:=Zd7
def UX:IntKind.i64.wrap 1=1:=Zd7
def VV:IntKind.i64.wrap 2=2:=Zd7
def Uf:IntKind.i64.wrap 3=3:=Zd7
def Ov{s:Ck}{k:Int}(a:1<=k/\k<=4):VC Sol.prog 118 xh [Xd s,vi k] (.sl ((Zx s.h k).map vu)):=by
 refine Y2 Sol.func118 follows Z2 Z05 rfl ?_;have:k=1\/k=2\/k=3\/k=4:=Z0;obtain rfl|rfl|rfl|rfl:=this<;>simp[Iy,Xd,ZU,Zx,Y9,Ri,UX,VV,Uf]
def YO(s:Ck)(w first last:Int):Bool:=decide (w=0)||(decide ((adr w).2=0)&&match Y1 s.pm (adr w).1 with
 |some k=>decide (first<=k)&&decide (k<=last)
 |none=>xh)
def KP{s:Ck}{w first last:Int}(f:ZC w):VC Sol.prog 122 xh [Xd s,vu w,vi first,vi last] (.bool (YO s w first last)):=by
 refine Y2 Sol.func122 follows Z2 Z08 rfl ?_;unfold YO;by_cases a:w=0;simp[Bu,a];simp[Bu,a,Xd,ZU];refine Zz (Jz f) Z1 ?_;by_cases d:(adr w).2=0;case neg=>simp[d]
 simp[d,RY];cases g:Y1 s.pm (adr w).1 with
 |none=>simp
 |some k=>
  simp_all
def Wv(h:Hp)(k:Int):List (Int×Int)->List Ob->List (Int×Int)
 |m,[]=>m
 |m,o::l=>Wv h k (XO m (Y4 (Zv h) k o.at_).1 k) l
def Xi(h:Hp)(k:Int):List (Int×(Int×Int))->List Ob->List (Int×(Int×Int))
 |m,[]=>m
 |m,o::l=>Xi h k (if k=1 then XO m (Y4 (Zv h) k o.at_).1 (o.size,o.ptrs)else m) l
def Ck.put(s:Ck)(k:Int)(l:List Ob):Ck:=if k=1 then {s with o1:=l}else if k=2 then {s with o2:=l}else if k=3 then {s with o3:=l}else {s with o4:=l}
def XU(s:Ck)(k:Int)(l:List Ob):Ck:= {s.put k l with pm:=Wv s.h k s.pm l,lm:=Xi s.h k s.lm l}
def Kt{h:Hp}{k:Int}:∀ {l:List Ob} {i:Nat} {o:Ob} {m:List (Int×Int)},l[i]?=xk o->Wv h k m (l.take (i+1))=XO (Wv h k m (l.take i)) (Y4 (Zv h) k o.at_).1 k
 | [],_,_,_,h=>Zds
 |x::l,0,o,m,h=>by simp_all[Wv]
 |x::l,i+1,o,m,h=>by
  simp_all[Zhe,Wv,Kt]
def Kr{h:Hp}{k:Int}:∀ {l:List Ob} {i:Nat} {o:Ob} {m:List (Int×(Int×Int))},l[i]?=xk o->Xi h k m (l.take (i+1))=if k=1 then XO (Xi h k m (l.take i)) (Y4 (Zv h) k o.at_).1 (o.size,o.ptrs)else Xi h k m (l.take i)
 | [],_,_,_,h=>Zds
 |x::l,0,o,m,h=>by simp_all[Xi]
 |x::l,i+1,o,m,h=>by
  simp_all[Zhe,Xi,Kr]
abbrev LQ:List CK:=[.fz,.fz,.fz,.fz,.fz,.fz,.fz,.fz,.fz,.fz,.fz,.fz,.fz,.fz,.fz,.fz,.fz,.fz,.fz,.fz,.fz,.own 84,.own 115]
@[simp]theorem Z5x(s:Ck)(k:Int)(l:List Ob):(s.put k l).h=s.h:=by
 unfold Ck.put;split;rfl;split;rfl;split<;>rfl
def ye{l:List (Int×Int)}{k x:Int}:UO (.i .u64) (Yf vi l) (vu k) (vi x)=xk (Yf vi (XO l k x)):=Km
def yf{l:List (Int×(Int×Int))}{k a b:Int}:UO (.i .u64) (Yf Wh l) (vu k) (.agg [vi a,vi b])=xk (Yf Wh (XO l k (a,b))):=Km (f:=Wh) (x:=(a,b))
def yl{s:Ck}(r:s.h.ok){k:Int}(w:1<=k/\k<=4){l:List Ob}(x:P l<=1000000):Vj Sol.prog 121 [.mem LQ,.fz,.fz] [.agg (ZU s),vi k,.sl (l.map ZL)] (.tup [.tup [],.agg (ZU (XU s k l))]):=by
 refine Jp Sol.func121 follows Z2 Z07 Z2 ?_;have t:k=1\/k=2\/k=3\/k=4:=Z0;have q:P l<=Y5:=by unfold Y5;omega
 have u:∀k,({s.put k l with pm:=s.pm,lm:=s.lm}:Ck)=s.put k l:=by
  intro k;unfold Ck.put;split;rfl;split;rfl;split<;>rfl
 have o:=λ(k at_:Int)=>DN r.lay (part:=k) (at_:=at_);unfold Zv X8 at o;obtain rfl|rfl|rfl|rfl:=t
 .simp[KI,ZU,Y9,UH,Ri,UX,VV,Uf,setCells];refine Vh 3 (P l) (λi=>[(0,.m (ZU {s.put 1 l with pm:=Wv s.h 1 s.pm (l.take i),lm:=Xi s.h 1 s.lm (l.take i)})),(3,.v (vi i))]) (λ_=>True) (by simp[ZU,Ck.put,Wv,Xi]) Z1 trivial ?_;intro i p _;have d:=Zy ((i:Int)+1) Z0 Z0;by_cases a:i<P l
  .have f:l[i]?=xk l[i]:=ZdO a;have g:=Kt (h:=s.h) (k:=1) (m:=s.pm) f;have j:=Kr (h:=s.h) (k:=1) (m:=s.lm) f;have n:=o 1 (l[i]).at_;simp[a,f,d,ZU,Xe];refine Zz n Z1 ?_;simp[ye,yf,g,j,d,a];first|done|rfl|exact⟨rfl,rfl⟩
  have:i=P l:=Z0;subst this;simp[ZU,XU,ZeX]
 .simp[KI,ZU,Y9,UH,Ri,UX,VV,Uf,setCells];refine Vh 3 (P l) (λi=>[(0,.m (ZU {s.put 2 l with pm:=Wv s.h 2 s.pm (l.take i),lm:=Xi s.h 2 s.lm (l.take i)})),(3,.v (vi i))]) (λ_=>True) (by simp[ZU,Ck.put,Wv,Xi]) Z1 trivial ?_;intro i p _;have d:=Zy ((i:Int)+1) Z0 Z0;by_cases a:i<P l
  .have f:l[i]?=xk l[i]:=ZdO a;have g:=Kt (h:=s.h) (k:=2) (m:=s.pm) f;have j:=Kr (h:=s.h) (k:=2) (m:=s.lm) f;have n:=o 2 (l[i]).at_;simp[a,f,d,ZU,Xe];refine Zz n Z1 ?_;simp[ye,yf,g,j,d,a];first|done|rfl|exact⟨rfl,rfl⟩
  have:i=P l:=Z0;subst this;simp[ZU,XU,ZeX]
 .simp[KI,ZU,Y9,UH,Ri,UX,VV,Uf,setCells];refine Vh 3 (P l) (λi=>[(0,.m (ZU {s.put 3 l with pm:=Wv s.h 3 s.pm (l.take i),lm:=Xi s.h 3 s.lm (l.take i)})),(3,.v (vi i))]) (λ_=>True) (by simp[ZU,Ck.put,Wv,Xi]) Z1 trivial ?_;intro i p _;have d:=Zy ((i:Int)+1) Z0 Z0;by_cases a:i<P l
  .have f:l[i]?=xk l[i]:=ZdO a;have g:=Kt (h:=s.h) (k:=3) (m:=s.pm) f;have j:=Kr (h:=s.h) (k:=3) (m:=s.lm) f;have n:=o 3 (l[i]).at_;simp[a,f,d,ZU,Xe];refine Zz n Z1 ?_;simp[ye,yf,g,j,d,a];first|done|rfl|exact⟨rfl,rfl⟩
  have:i=P l:=Z0;subst this;simp[ZU,XU,ZeX]
 .simp[KI,ZU,Y9,UH,Ri,UX,VV,Uf,setCells];refine Vh 3 (P l) (λi=>[(0,.m (ZU {s.put 4 l with pm:=Wv s.h 4 s.pm (l.take i),lm:=Xi s.h 4 s.lm (l.take i)})),(3,.v (vi i))]) (λ_=>True) (by simp[ZU,Ck.put,Wv,Xi]) Z1 trivial ?_;intro i p _;have d:=Zy ((i:Int)+1) Z0 Z0;by_cases a:i<P l
  .have f:l[i]?=xk l[i]:=ZdO a;have g:=Kt (h:=s.h) (k:=4) (m:=s.pm) f;have j:=Kr (h:=s.h) (k:=4) (m:=s.lm) f;have n:=o 4 (l[i]).at_;simp[a,f,d,ZU,Xe];refine Zz n Z1 ?_;simp[ye,yf,g,j,d,a];first|done|rfl|exact⟨rfl,rfl⟩
  have:i=P l:=Z0;subst this;simp[ZU,XU,ZeX]
end Vm
namespace Vm
open Go Go.Proofs
def V7(s:Ck):V:=.ptr [Xd s]
def Z70{s:Ck}{a w:Int}(d:ZC w):VC Sol.prog 124 xh [vi a,vu w,V7 s] (.bool (YO s w 1 2)):=by
 refine Y2 Sol.func124 follows Z2 Z0a rfl ?_;have k:=KP (s:=s) (first:=1) (last:=2) d;unfold V7 Xd at*;simp[IB,YR,V.one];refine Zz k Z1 ?_;simp
def Z71{s:Ck}{a w:Int}(d:ZC w):VC Sol.prog 125 xh [vi a,vu w,V7 s] (.bool (decide (s.h.scan<=a)||YO s w 1 2)):=by
 refine Y2 Sol.func125 follows Z2 Z0b rfl ?_;have k:=KP (s:=s) (first:=1) (last:=2) d;unfold V7 Xd at*;by_cases h:s.h.scan<=a;simp[Bv,YR,V.one,ZU,h];simp[Bv,YR,V.one,ZU,h];refine Zz k (by simp[ZU]) ?_;simp[h]
def Z80{s:Ck}{a w:Int}(d:ZC w):VC Sol.prog 126 xh [vi a,vu w,V7 s] (.bool (decide (a<s.h.scan)||YO s w 1 4)):=by
 refine Y2 Sol.func126 follows Z2 Z0c rfl ?_;have k:=KP (s:=s) (first:=1) (last:=4) d;unfold V7 Xd at*;by_cases h:a<s.h.scan;simp[Bw,YR,V.one,ZU,h];simp[Bw,YR,V.one,ZU,h];refine Zz k (by simp[ZU]) ?_;simp[h]
def GT{s:Ck}{a w:Int}(d:ZC w):VC Sol.prog 127 xh [vi a,vu w,V7 s] (.bool (YO s w 3 4)):=by
 refine Y2 Sol.func127 follows Z2 Z0d rfl ?_;have k:=KP (s:=s) (first:=3) (last:=4) d;unfold V7 Xd at*;simp[IC,YR,V.one];refine Zz k Z1 ?_;simp
structure Ck.ok (s:Ck):Prop where
 h:s.h.ok
 ob:∀k,∀o∈s.obs k,Jy (P (Zx s.h k)) o/\ZC o.target
 len:∀k,P (s.obs k)<=1000000
def VW(ws:List Int)(k:Nat):Int:=(ws[k]?).getD 0
def obQ(s:Ck)(k:Int)(q:Int->Int->Bool)(o:Ob):Bool:=o.gone||(List.range o.ptrs.toNat).all λj=>q ((o.at_.toNat+1+j:Nat):Int) (VW (Zx s.h k) (o.at_.toNat+1+j))
def WP(s:Ck)(k:Int)(q:Int->Int->Bool):Bool:=(s.obs k).all (obQ s k q)
def KO{s:Ck}(u:s.ok){k:Int}(S:1<=k/\k<=4){f:FuncId}{cs:List V}{q:Int->Int->Bool}(X:∀a w,ZC w->VC Sol.prog f xh ([vi a,vu w]++cs) (.bool (q a w))):
  VC Sol.prog 123 xh [Xd s,vi k,.clo f cs] (.bool (WP s k q)):=by
 refine Y2 Sol.func123 follows Z2 Z09 rfl ?_;simp[-List.all_eq_true,-List.all_eq_false,IA];refine Zz (Ov S) Z1 ?_;have W:Y0 (.agg [.sl (s.o1.map ZL),.sl (s.o2.map ZL),.sl (s.o3.map ZL),.sl (s.o4.map ZL)]) 0=xk (.sl (s.o1.map ZL)):=rfl;have O:=u.len k;have D:=u.ob k;have Z:=(XM u.h k).1;have U:=(XM u.h k).2;have x:Y9 (.agg [.sl (s.o1.map ZL),.sl (s.o2.map ZL),.sl (s.o3.map ZL),.sl (s.o4.map ZL)]) (.int .i64 (IntKind.i64.wrap (k-1))) 4 1 xy=xk (.agg [.sl ((s.obs k).map ZL)]):=by
  have:k=1\/k=2\/k=3\/k=4:=Z0;obtain rfl|rfl|rfl|rfl:=this<;>simp[Y9,Ck.obs,Ri,UX,VV,Uf]
 unfold WP;generalize hL:s.obs k=L at*;generalize Q:Zx s.h k=r at*;simp[-List.all_eq_true,-List.all_eq_false,Xd,ZU,x];refine Ln 5 (xq L) (λi=>(L.take i).all (obQ s k q)=xy) Z1 Z1 Z1 ?_;intro i hi M;have a0:=Zy ((i:Int)+1) Z0 Z0;by_cases l:i<xq L;have J:L[i]?=xk L[i]:=ZdO l;obtain⟨⟨⟨a,K,N⟩,F⟩,_⟩:=D _ (Ze5 l);generalize L[i]=o at*;obtain⟨s1,s2,s3,s4⟩:=YM.1 F;obtain⟨m,P⟩:=Zea s3;have G:=Zy ((a:Int)+1) Z0 Z0;have C:obQ s k q o=xy->(L.take (i+1)).all (obQ s k q)=xy:=λh=>by simp_all[DU]
 have y:obQ s k q o=xh->L.all (obQ s k q)=xh:=λg=>DT J g;cases z:o.gone;have t:obQ s k q o=(List.range m).all λj=>q ((a+1+j:Nat):Int) (VW r (a+1+j)):=by
  unfold obQ;rw[P,K,Q,z];rfl
 simp[-List.all_eq_true,-List.all_eq_false,l,J,Yh J,Xe,z,K,P];refine Ln 11 m (λj=>((List.range j).all λj=>q ((a+1+j:Nat):Int) (VW r (a+1+j)))=xy) Z1 Z1 Z1 ?_;intro j hj R;have a1:=Zy ((j:Int)+1) Z0 Z0;by_cases A:j<m;obtain⟨w,d,Y⟩:∃w,r[a+1+j]?=xk w/\ZC w:=⟨_,ZdO Z0,Z _ (Ze5 _)⟩;have I:VW r (a+1+j)=w:=by unfold VW;rw[d];rfl
 have p:((List.range (j+1)).all λj=>q ((a+1+j:Nat):Int) (VW r (a+1+j)))=(((List.range j).all λj=>q ((a+1+j:Nat):Int) (VW r (a+1+j)))&&q ((a+1+j:Nat):Int) w):=by
  rw[Zg9,ZhZ];simp[I]
 have g:q ((a+1+j:Nat):Int) w=xh->L.all (obQ s k q)=xh:=λg=>y (by
  grind)
 obtain⟨n,T⟩:∃n,a+1+j=n:=⟨_,rfl⟩;have B:(a:Int)+1+(j:Int)=(n:Int):=Z0;have H:=Zy (n:Int) Z0 Z0;rw[T]at d p g;have kq:=X (n:Int) w Y;simp[-List.all_eq_true,-List.all_eq_false,A,G,B,H,d,Yh d,Xe];refine Zz kq Z1 ?_;simp_all;have:j=m:=Z0;simp_all;have t:obQ s k q o=xy:=by unfold obQ;rw[z];rfl
 simp_all;have:i=xq L:=Z0;simp_all
@[simp]theorem ZbK(l:List V):(V.ptr l).one=xy:=rfl
@[simp]theorem Zbz(l:List V):YR (.ptr l)=xk (.ptr l):=rfl
@[simp]theorem ZbG(f:FuncId)(l:List V):(V.clo f l).one=xy:=rfl
@[simp]theorem Zbv(f:FuncId)(l:List V):YR (.clo f l)=xk (.clo f l):=rfl
@[simp]theorem Zbu(s:Ck):YR (Xd s)=xk (Xd s):=rfl
@[simp]theorem ZbF(s:Ck):(Xd s).one=xy:=rfl
@[simp]theorem Zc7(s:Ck):UW (Xd s)=xk (.agg (ZU s)):=rfl
@[simp]theorem Z9N(s:Ck):(ZU s)[4]?=xk (vi s.h.scan):=rfl
@[simp]theorem Z9G(s:Ck):(ZU s)[3]?=xk (.bool s.h.cycle):=rfl
@[simp]theorem Z9M(s:Ck):(ZU s)[9]?=xk (.sl (s.h.roots.map vu)):=rfl
@[simp]theorem Z9K(s:Ck):(ZU s)[5]?=xk (.sl (s.h.low.map vu)):=rfl
@[simp]theorem Z9I(s:Ck):(ZU s)[6]?=xk (.sl (s.h.high.map vu)):=rfl
@[simp]theorem Z9L(s:Ck):(ZU s)[7]?=xk (.sl (s.h.old.map vu)):=rfl
@[simp]theorem Z9H(s:Ck):(ZU s)[8]?=xk (.sl (s.h.far.map vu)):=rfl
@[simp]theorem Z9F(s:Ck):(ZU s)[1]?=xk (vi s.h.cap):=rfl
def Qh(s:Ck):Bool:=s.h.roots.all (λw=>YO s w 1 2)&&(WP s 2 (λ_ w=>YO s w 1 2)&&WP s 1 (λa w=>decide (s.h.scan<=a)||YO s w 1 2))
def Z72{s:Ck}(n:s.ok):VC Sol.prog 107 xh [Xd s] (.bool (Qh s)):=by
 refine Y2 Sol.func107 follows Z2 x6 rfl ?_;have k1:=KO n (k:=2) Z0 (f:=124) (cs:=[V7 s]) (q:=λ_ w=>YO s w 1 2) (λa w l=>Z70 l);have y:=KO n (k:=1) Z0 (f:=125) (cs:=[V7 s]) (q:=λa w=>decide (s.h.scan<=a)||YO s w 1 2) (λa w l=>Z71 l);have C:=λw (l:ZC w)=>KP (s:=s) (first:=1) (last:=2) l;have A:=n.h.roots;have t:=n.h.rootsW;unfold Qh;unfold V7 at k1 y;generalize WP s 2 (λ_ w=>YO s w 1 2)=z at*;generalize WP s 1 (λa w=>decide (s.h.scan<=a)||YO s w 1 2)=D at*;simp[-List.all_eq_true,-List.all_eq_false,It];refine Ln 3 (P s.h.roots) (λi=>(s.h.roots.take i).all (λw=>YO s w 1 2)=xy) Z1 Z1 Z1 ?_;intro i F g;have u:=Zy ((i:Int)+1) Z0 Z0;by_cases j:i<P s.h.roots;have o:s.h.roots[i]?=xk s.h.roots[i]:=ZdO j;have B:=t _ (Ze5 j);generalize s.h.roots[i]=w at*;have p:YO s w 1 2=xh->s.h.roots.all (λw=>YO s w 1 2)=xh:=λr=>DT o r;have d:=DU (q:=λw=>YO s w 1 2) o;rw[g]at d;simp[-List.all_eq_true,-List.all_eq_false,j,o,Yh o,Xe];refine Zz (C w B) Z1 ?_;cases x:YO s w 1 2;simp[-List.all_eq_true,-List.all_eq_false,p x];rw[x]at d;simp[-List.all_eq_true,-List.all_eq_false,u,j,d];have:i=P s.h.roots:=Z0;subst this;rw[Zft]at g;simp[-List.all_eq_true,-List.all_eq_false,g];refine Zz k1 (by simp[Wt,V.flatc]) ?_;cases z;simp;simp;refine Zz y (by simp[Wt,V.flatc]) ?_;simp
def Qk(s:Ck):Bool:=WP s 1 (λa w=>decide (a<s.h.scan)||YO s w 1 4)
def Z81{s:Ck}(d:s.ok):VC Sol.prog 108 xh [Xd s] (.bool (Qk s)):=by
 refine Y2 Sol.func108 follows Z2 Z00 rfl ?_;have k1:=KO d (k:=1) Z0 (f:=126) (cs:=[V7 s]) (q:=λa w=>decide (a<s.h.scan)||YO s w 1 4) (λa w g=>Z80 g);unfold Qk;unfold V7 at k1;simp[Iu];refine Zz k1 (by simp[Wt,V.flatc]) ?_;simp
def RW(s:Ck):Bool:=WP s 3 (λ_ w=>YO s w 3 4)&&WP s 4 (λ_ w=>YO s w 3 4)
def Z35{s:Ck}(g:s.ok):VC Sol.prog 109 xh [Xd s] (.bool (RW s)):=by
 refine Y2 Sol.func109 follows Z2 Z01 rfl ?_;have k1:=KO g (k:=3) Z0 (f:=127) (cs:=[V7 s]) (q:=λ_ w=>YO s w 3 4) (λa w d=>GT d);have h:=KO g (k:=4) Z0 (f:=127) (cs:=[V7 s]) (q:=λ_ w=>YO s w 3 4) (λa w d=>GT d);unfold RW;unfold V7 at k1 h;generalize WP s 3 (λ_ w=>YO s w 3 4)=j at*;generalize WP s 4 (λ_ w=>YO s w 3 4)=l at*;simp[Iv];refine Zz k1 (by simp[Wt,V.flatc]) ?_;cases j;simp;simp;refine Zz h (by simp[Wt,V.flatc]) ?_;simp
end Vm
namespace Vm
open Go Go.Proofs
def SE(s:Ck):Bool:=ZI (Zv s.h)&&(decide (P s.h.roots<=16)&&(decide (0<=s.h.scan)&&decide (s.h.scan<=P s.h.low)))
def t8{s:Ck}(f:s.h.ok):VC Sol.prog 103 xh [Xd s] (.bool (SE s)):=by
 refine Y2 Sol.func103 follows Z2 v5 rfl ?_;have k:=L4 f.lay;unfold SE;unfold Zv X8 at k;simp[Ir];simp[ZU];refine Zz k Z1 ?_;have e:ZI {base:=s.h.base,cap:=s.h.cap,to:=s.h.to,low:=(P s.h.low:Int),high:=(P s.h.high:Int),old:=(P s.h.old:Int),far:=(P s.h.far:Int)}=ZI (Zv s.h):=rfl;rw[e];cases ZI (Zv s.h);simp;by_cases d:P s.h.roots<=16;have a:(P s.h.roots:Int)<=16:=Z0;simp_all;have a:¬(P s.h.roots:Int)<=16:=Z0;simp[d,a]
def Qd(s:Ck):Bool:=if s.h.cycle then decide (s.h.scan<P s.h.low)else decide (P s.h.old=0)&&(decide (P s.h.far=0)&&decide (s.h.scan=P s.h.low))
def Z6g{s:Ck}:VC Sol.prog 104 xh [Xd s] (.bool (Qd s)):=by
 refine Y2 Sol.func104 follows Z2 v9 rfl ?_;unfold Qd;cases f:s.h.cycle;by_cases g:P s.h.old=0;have a:s.h.old=[]:=Zfx.1 g;by_cases j:P s.h.far=0;have d:s.h.far=[]:=Zfx.1 j;simp[KG,f,a,d];have d:¬s.h.far=[]:=λe=>j (by simp[e]);simp[KG,f,a,j,d];have a:¬s.h.old=[]:=λe=>g (by simp[e]);simp[KG,f,g,a];simp[KG,f]
def Sw(s:Ck):Nat:=Ys s.o3+Ys s.o4
@[simp]theorem Zbl(s:Ck):((ZU s).drop 17).take 4=[.sl (s.o1.map ZL),.sl (s.o2.map ZL),.sl (s.o3.map ZL),.sl (s.o4.map ZL)]:=rfl
@[simp]theorem Z9J(s:Ck):P (ZU s)=23:=rfl
def Oc{s:Ck}(t:s.ok):VC Sol.prog 52 xh [Xd s] (vi (Sw s)):=by
 refine Y2 Sol.func52 follows Z2 c52 rfl ?_;have p:∀k,∀o∈s.obs k,Yz o.size o.ptrs=xy:=λk o n=>(t.ob k o n).1.2;have I:P s.o3<=1000000:=t.len 3;have J:P s.o4<=1000000:=t.len 4;have a:∀o∈s.o3,Yz o.size o.ptrs=xy:=p 3;have d:∀o∈s.o4,Yz o.size o.ptrs=xy:=p 4;have F:=Js a;have G:=Js d;have A:Y9 (.agg [.sl (s.o1.map ZL),.sl (s.o2.map ZL),.sl (s.o3.map ZL),.sl (s.o4.map ZL)]) (.int .i64 2) 4 1 xy=xk (.agg [.sl (s.o3.map ZL)]):=by simp[Y9]
 have B:Y9 (.agg [.sl (s.o1.map ZL),.sl (s.o2.map ZL),.sl (s.o3.map ZL),.sl (s.o4.map ZL)]) (.int .i64 3) 4 1 xy=xk (.agg [.sl (s.o4.map ZL)]):=by simp[Y9]
 simp[IW];refine Sz (λ(i:Nat)=>[(2,.v (vi ((if 0<i then Ys s.o3 else 0)+(if 1<i then Ys s.o4 else 0):Nat))),(3,.v (vi ((i+3:Nat):Int)))]) (λi=>i<=2) (Xm 3 5) 0 Z1 Z1 ?_;rintro i K;have q:i=0\/i=1\/i=2:=Z0;obtain rfl|rfl|rfl:=q;simp[VV,A];refine Vh 5 (P s.o3) (λj=>[(2,.v (vi (Ys (s.o3.take j)))),(5,.v (vi j))]) (λ_=>True) (by simp[Ys]) (λi=>Z1) trivial ?_;rintro j H-;have w:=Zy ((j:Int)+1) Z0 Z0;by_cases h:j<P s.o3;have x:s.o3[j]?=xk s.o3[j]:=ZdO h;have f:=a _ (Ze5 h);have u:=OF x;generalize s.o3[j]=o at*;have r:Ys (s.o3.take j)<=256*P s.o3:=by
  refine Zes (Js λo n=>a o (ZeD n)) ?_;simp;omega
 obtain⟨g1,g2,C,D⟩:=YM.1 f;obtain⟨z,y⟩:=Zea g1;have w1:=Zy (1+(z:Int)) Z0 Z0;have w2:=Zy ((Ys (s.o3.take j):Int)+(1+z)) Z0 Z0;cases l:o.gone;have g:WX o=1+z:=by simp[WX,l,y]
 simp_all;have g:WX o=0:=by simp[WX,l]
 simp_all;have:j=P s.o3:=Z0;subst this;rw[Zft];simp[Xe,Zy];exact⟨1,Z0,Z1,ZdK⟩;simp[Uf,B];refine Vh 5 (P s.o4) (λj=>[(2,.v (vi (Ys s.o3+Ys (s.o4.take j):Nat))),(5,.v (vi j))]) (λ_=>True) (by simp[Ys]) (λi=>Z1) trivial ?_;rintro j H-;have w:=Zy ((j:Int)+1) Z0 Z0;by_cases h:j<P s.o4;have x:s.o4[j]?=xk s.o4[j]:=ZdO h;have f:=d _ (Ze5 h);have u:=OF x;generalize s.o4[j]=o at*;have r:Ys (s.o4.take j)<=256*P s.o4:=by
  refine Zes (Js λo n=>d o (ZeD n)) ?_;simp;omega
 obtain⟨g1,g2,C,D⟩:=YM.1 f;obtain⟨z,y⟩:=Zea g1;have w1:=Zy (1+(z:Int)) Z0 Z0;have w2:=Zy ((Ys s.o3:Int)+Ys (s.o4.take j)+(1+z)) Z0 Z0;cases l:o.gone;have g:WX o=1+z:=by simp[WX,l,y]
 simp_all;omega;have g:WX o=0:=by simp[WX,l]
 simp_all;have:j=P s.o4:=Z0;subst this;rw[Zft];simp[Xe,Zy];exact⟨2,Z0,Z1,ZdK⟩;simp[Sw]
def Qf(s:Ck):Bool:=decide ((P s.h.low:Int)+P s.h.high+Sw s<=s.h.cap)
def Z89{s:Ck}(a:s.ok):Sw s<=512*1000000:=by
 have f:=Js (l:=s.o3) λo d=>(a.ob 3 o d).1.2;have g:=Js (l:=s.o4) λo d=>(a.ob 4 o d).1.2;have h:P s.o3<=1000000:=a.len 3;have j:P s.o4<=1000000:=a.len 4;grind [Sw]
def Z6m{s:Ck}(a:s.ok):VC Sol.prog 110 xh [Xd s] (.bool (Qf s)):=by
 refine Y2 Sol.func110 follows Z2 Z02 rfl ?_;have d:=Z89 a;have f:=a.h.low;have g:=a.h.high;have w1:=Zy ((P s.h.low:Int)+P s.h.high) Z0 Z0;have w2:=Zy ((P s.h.low:Int)+P s.h.high+Sw s) Z0 Z0;simp[Iw];refine Zz (Oc a) Z1 ?_;simp[w1,w2,Qf]
end Vm
namespace Vm
open Go Go.Proofs
def WK(lm:List (Int×(Int×Int)))(ws:List Int):Nat->Nat->List (Int×Int)->List (Int×Int)
 |0,_,a=>a
 |f+1,i,a=>
  match ws[i]? with
  |none=>a
  |some w=>if(adr w).2=0 then(match Y1 lm (adr w).1 with|none=>a|some sh=>WK lm ws f (i+1+sh.1.toNat) (a++[sh]))
   else if(ZS w).2.2=0 then WK lm ws f (i+1+(ZS w).1.toNat) a else a
def VU(lm:List (Int×(Int×Int)))(ws:List Int):List (Int×Int):=WK lm ws (P ws+1) 0 []
def FM{α:Type}{l:List (Int×α)}{k:Int}{x:α}(h:Y1 l k=xk x):(k,x)∈l:=by
 unfold Y1 at h;obtain⟨y,a,rfl⟩:=ZdR.1 h;grind
def Z73{s:Ck}(D:∀x∈s.lm,Yz x.2.1 x.2.2=xy){ws:List Int}(K:P ws<=1000000)(J:∀w∈ws,ZC w):
  VC Sol.prog 120 xh [Xd s,.sl (ws.map vu)] (.sl ((VU s.lm ws).map Wh)):=by
 refine Y2 Sol.func120 follows Z2 Z06 rfl ?_;have C:∀k,Us (.i .u64) (Yf Wh s.lm) (vu k) (.agg [vi 0,vi 0]) xy=match Y1 s.lm k with
  |some x=>xk (.tup [Wh x,.bool xy])
  |none=>xk (.tup [.agg [vi 0,vi 0],.bool xh]):=λk=>by grind [RY,Y1]
 have B:(ZU s)[22]?=xk (Yf Wh s.lm):=rfl;simp[Iz];refine Sz (λ(p:Nat×List (Int×Int))=>[(3,.v (.sl (p.2.map Wh))),(4,.v (vi p.1))])
  (λp=>p.1<=P ws+256/\P p.2<=p.1/\∃f,P ws<f+p.1/\0<f/\VU s.lm ws=WK s.lm ws f p.1 p.2) (Xm 4 (P ws)) (0,[]) Z1 ⟨Z1,Z1,P ws+1,Z1,Z0,rfl⟩ ?_
 rintro⟨i,g⟩ ⟨I,r,f,G,H,a⟩;simp only at I r G a;cases f with
 |zero=>omega
 |succ f=>
 by_cases d:i<P ws;have y:ws[i]?=xk ws[i]:=ZdO d;have F:=J _ (Ze5 d);generalize ws[i]=w at*;simp only[WK,y]at a;have u:P g+1<=Y5:=Zdk;simp[d,y,Yh y,Xe];refine Zz (Jz F) Z1 ?_;by_cases A:(adr w).2=0;rw[if_pos A]at a;simp[A,B,C];cases t:Y1 s.lm (adr w).1 with
 |none=>
  simp_all
 |some q=>
  rw[t]at a;simp only at a;have h:0<=q.1/\q.1<=255/\0<=q.2/\q.2<=q.1:=YM.1 (D _ (FM t));obtain⟨z,o⟩:=Zea h.1;have l:=Zy (1+(z:Int)) Z0 Z0;have n:=Zy ((i:Int)+(1+z)) Z0 Z0;rw[o,Zee]at a;simp[u,o,l,n];refine⟨i+1+z,g++[q],⟨Z0,ZcP,f,Z0,?_,a⟩,⟨by simp[Wh,o],Z0⟩,ZdH⟩;omega
 rw[if_neg A]at a;simp[A,y,Yh y,d,Xe];refine Zz (O2 F) Z1 ?_;by_cases j:(ZS w).2.2=0;rw[if_pos j]at a;have h:=YM.1 (D7 j);obtain⟨z,o⟩:=Zea h.1;have l:=Zy (1+(z:Int)) Z0 Z0;have n:=Zy ((i:Int)+(1+z)) Z0 Z0;rw[o,Zee]at a;simp[j,o,l,n];refine⟨i+1+z,g,⟨Z0,Z0,f,Z0,?_,a⟩,⟨rfl,Z0⟩,ZdH⟩;omega;simp_all;simp_all[Zf2,WK]
end Vm
namespace Vm
open Go Go.Proofs
def Wl(pm:List (Int×Int)):List Ob->List (Int×Bool)->Option (List (Int×Bool))
 | [],m=>xk m
 |o::l,m=>if o.gone=xy then(if(Y1 pm o.target).getD 0=1/\(Y1 m o.target).getD xh=xh then Wl pm l (XO m o.target xy)else xw)else Wl pm l m
def Rz(s:Ck):Bool:= !s.h.cycle||match(Wl s.pm s.o3 []).bind (Wl s.pm s.o4)with
 |none=>xh
 |some m=>decide (P m=P s.o1)
def Ht{l:List (Int×Bool)}{k:Int}{x:Bool}:UO (.i .u64) (Yf .bool l) (vu k) (.bool x)=xk (Yf .bool (XO l k x)):=Km
def QU{l:List (Int×Bool)}{k:Int}:Us (.i .u64) (Yf .bool l) (vu k) (.bool xh) xh=xk (.bool ((Y1 l k).getD xh)):=by
 grind [RY,Y1]
def QV{l:List (Int×Int)}{k:Int}:Us (.i .u64) (Yf vi l) (vu k) (vi 0) xh=xk (vi ((Y1 l k).getD 0)):=by
 grind [RY,Y1]
def Z3O{α:Type}(f:α->V):Yf f []=.mp 0 [] []:=rfl
def Z0I{s:Ck}(t:s.ok):VC Sol.prog 106 xh [Xd s] (.bool (Rz s)):=by
 refine Y2 Sol.func106 follows Z2 x5 rfl ?_;have I:P s.o3<=1000000:=t.len 3;have J:P s.o4<=1000000:=t.len 4;have A:∀o∈s.o3,ZC o.target:=λo z=>(t.ob 3 o z).2;have B:∀o∈s.o4,ZC o.target:=λo z=>(t.ob 4 o z).2;have G:Y9 (.agg [.sl (s.o1.map ZL),.sl (s.o2.map ZL),.sl (s.o3.map ZL),.sl (s.o4.map ZL)]) (.int .i64 2) 4 1 xy=xk (.agg [.sl (s.o3.map ZL)]):=by simp[Y9]
 have H:Y9 (.agg [.sl (s.o1.map ZL),.sl (s.o2.map ZL),.sl (s.o3.map ZL),.sl (s.o4.map ZL)]) (.int .i64 3) 4 1 xy=xk (.agg [.sl (s.o4.map ZL)]):=by simp[Y9]
 have F:Y9 (.agg [.sl (s.o1.map ZL),.sl (s.o2.map ZL),.sl (s.o3.map ZL),.sl (s.o4.map ZL)]) (.int .i64 0) 4 1 xy=xk (.agg [.sl (s.o1.map ZL)]):=by simp[Y9]
 have k:(ZU s)[21]?=xk (Yf vi s.pm):=rfl;have y:=(Z3O V.bool).symm;unfold Rz;cases D:s.h.cycle;simp[Bs,D];simp[Bs,D,y];refine Sz (λ(p:Nat×List (Int×Bool))=>[(3,.v (Yf .bool p.2)),(4,.v (vi ((p.1+3:Nat):Int)))])
  (λp=>(p.1=0/\p.2=[])\/(p.1=1/\Wl s.pm s.o3 []=xk p.2)\/(p.1=2/\(Wl s.pm s.o3 []).bind (Wl s.pm s.o4)=xk p.2)) (Xm 4 5) (0,[]) Z1 Z1 ?_
 rintro⟨i,m⟩ (⟨rfl,rfl⟩|⟨rfl,x⟩|⟨rfl,x⟩);simp[VV,G];refine Sz (λ(p:Nat×List (Int×Bool))=>[(3,.v (Yf .bool p.2)),(6,.v (vi p.1))]) (λp=>p.1<=P s.o3/\Wl s.pm s.o3 []=Wl s.pm (s.o3.drop p.1) p.2) (Xm 6 (P s.o3)) (0,[]) Z1 Z1 ?_;rintro⟨j,r⟩ ⟨w,a⟩;simp only at w a;have d:=Zy ((j:Int)+1) Z0 Z0;by_cases g:j<P s.o3;have f:s.o3[j]?=xk s.o3[j]:=ZdO g;have u:=ZeN g;have C:=A _ (Ze5 g);generalize s.o3[j]=o at*;rw[u,Wl]at a;cases l:o.gone;rw[l]at a;rw[if_neg Z1]at a;simp[Xe,g,f,Yh f,l,d];exact⟨j+1,r,⟨Z0,a⟩,⟨rfl,Z0⟩,ZdH⟩;rw[l]at a;rw[if_pos rfl]at a;by_cases n:(Y1 s.pm o.target).getD 0=1;cases q:(Y1 r o.target).getD xh;rw[if_pos ⟨n,q⟩]at a;simp[Xe,g,f,Yh f,l,d,k,QV,QU,Wt,V.flatc,n,q,Ht];exact⟨j+1,XO r o.target xy,⟨Z0,a⟩,⟨rfl,Z0⟩,ZdH⟩;rw[if_neg (by simp[q])]at a;simp[Xe,g,f,Yh f,l,d,k,QV,QU,Wt,V.flatc,n,q,a];rw[if_neg (by simp[n])]at a;simp[Xe,g,f,Yh f,l,d,k,QV,QU,Wt,V.flatc,n,a];have:j=P s.o3:=Z0;subst this;rw[List.drop_length,Wl]at a;simp[Zy];exact⟨1,r,by simp[a],Z1,ZdK⟩;simp[Uf,H];refine Sz (λ(p:Nat×List (Int×Bool))=>[(3,.v (Yf .bool p.2)),(6,.v (vi p.1))]) (λp=>p.1<=P s.o4/\Wl s.pm s.o4 m=Wl s.pm (s.o4.drop p.1) p.2) (Xm 6 (P s.o4)) (0,m) Z1 Z1 ?_;rintro⟨j,r⟩ ⟨w,a⟩;simp only at w a;have d:=Zy ((j:Int)+1) Z0 Z0;by_cases g:j<P s.o4;have f:s.o4[j]?=xk s.o4[j]:=ZdO g;have u:=ZeN g;have C:=B _ (Ze5 g);generalize s.o4[j]=o at*;rw[u,Wl]at a;cases l:o.gone;rw[l]at a;rw[if_neg Z1]at a;simp[Xe,g,f,Yh f,l,d];exact⟨j+1,r,⟨Z0,a⟩,⟨rfl,Z0⟩,ZdH⟩;rw[l]at a;rw[if_pos rfl]at a;by_cases n:(Y1 s.pm o.target).getD 0=1;cases q:(Y1 r o.target).getD xh;rw[if_pos ⟨n,q⟩]at a;simp[Xe,g,f,Yh f,l,d,k,QV,QU,Wt,V.flatc,n,q,Ht];exact⟨j+1,XO r o.target xy,⟨Z0,a⟩,⟨rfl,Z0⟩,ZdH⟩;rw[if_neg (by simp[q])]at a;simp[Xe,g,f,Yh f,l,d,k,QV,QU,Wt,V.flatc,n,q,x,a];rw[if_neg (by simp[n])]at a;simp[Xe,g,f,Yh f,l,d,k,QV,QU,Wt,V.flatc,n,x,a];have:j=P s.o4:=Z0;subst this;rw[List.drop_length,Wl]at a;simp[Zy];exact⟨2,r,ZcN,Z1,ZdK⟩;simp[Ri,VV,F];grind
end Vm
namespace Vm
open Go Go.Proofs
def Rn:Prop:=∀a:List Int,P a<=1000000->(∀w∈a,ZC w)->VC Sol.prog 117 xy [.sl (a.map vu)] (.tup [.sl ((ZP a [] xh).1.map ZL),vi (ZP a [] xh).2])
def Ro:Prop:=∀(d:List Int) (a:List (Int×Int)),P d<=1000000->P a<=1000000->(∀w∈d,ZC w)->(∀x∈a,Yz x.1 x.2=xy)->
 VC Sol.prog 119 xy [.sl (d.map vu),.sl (a.map Wh)] (.tup [.sl ((ZP d a xy).1.map ZL),vi (ZP d a xy).2])
def Xv(s:Ck)(k:Int):List Ob×Int:=if k<=2 then ZP (Zx s.h k) [] xh else ZP (Zx s.h k) (VU s.lm (Zx s.h k)) xy
def WW:List Int->Ck->Bool×Ck
 | [],s=>(xy,s)
 |k::l,s=>if(Xv s k).2=0 then WW l (XU s k (Xv s k).1)else(xh,s)
def XY(s:Ck):Bool×Ck:=WW [1,2,3,4] s
def Q3(s:Ck)(k:Int)(l:List Ob):(XU s k l).h=s.h:=Z5x s k l
def Z5u{α:Type}{l:List (Int×α)}{k:Int}{x:α}{y:Int×α}(h:y∈XO l k x):y=(k,x)\/y∈l:=by
 grind [XO,List.mem_or_eq_of_mem_set]
def J1{h:Hp}{k:Int}:∀ {l:List Ob} {m:List (Int×(Int×Int))},(∀o∈l,Yz o.size o.ptrs=xy)->(∀x∈m,Yz x.2.1 x.2.2=xy)->∀x∈Xi h k m l,Yz x.2.1 x.2.2=xy
 | [],m,_,a=>a
 |o::l,m,f,a=>by
  rw[Xi];refine J1 (λp g=>f p (Zeu _ g)) ?_;split;intro x d;obtain rfl|d:=Z5u d;simp_all;grind;exact a
def Lm{s:Ck}(a:s.h.ok){k:Int}:(∀o∈(Xv s k).1,Jy (P (Zx s.h k)) o/\ZC o.target)/\(Xv s k).1.length<=P (Zx s.h k):=by
 unfold Xv;split;exact⟨Oh (XM a k).1,Oi⟩;exact⟨Oh (XM a k).1,Oi⟩
def CE{lm:List (Int×(Int×Int))}{ws:List Int}:∀ {f i:Nat} {a:List (Int×Int)},P a<=i->P a<=P ws->P (WK lm ws f i a)<=P ws
 |0,i,a,_,h=>h
 |f+1,i,a,j,h=>by
  rw[WK];cases g:ws[i]? with
  |none=>exact h
  |some w=>
   have d:i<P ws:=(ZdQ.1 g).1;simp only;split;split;exact h;exact CE ZcP ZcP;split;exact CE Z0 h;exact h
def Nu{lm:List (Int×(Int×Int))}{ws:List Int}:P (VU lm ws)<=P ws:=CE Z1 Z1
def qx{lm:List (Int×(Int×Int))}{ws:List Int}(d:∀x∈lm,Yz x.2.1 x.2.2=xy):∀ {f i:Nat} {a:List (Int×Int)},(∀x∈a,Yz x.1 x.2=xy)->∀x∈WK lm ws f i a,Yz x.1 x.2=xy
 |0,i,a,h=>h
 |f+1,i,a,h=>by
  rw[WK];cases g:ws[i]? with
  |none=>exact h
  |some w=>
   simp only;split;split;exact h;rename_i k j;refine qx d ?_;intro x g;obtain g|g:=Zel.1 g;grind;simp at g;subst g;exact d _ (FM j);split;exact qx d h;exact h
def qO:IntKind.i64.wrap 4=4:=Zd7
def Z8f(F:Rn)(B:Ro){s:Ck}(G:s.h.ok)(D:∀x∈s.lm,Yz x.2.1 x.2.2=xy):Vj Sol.prog 105 [.mem LQ] [.agg (ZU s)] (.tup [.bool (XY s).1,.agg (ZU (XY s).2)]):=by
 refine Jp Sol.func105 follows Z2 x0 Z2 ?_;simp[Is];refine Sz (λ(p:Nat×Ck)=>[(0,.m (ZU p.2)),(3,.v (vi p.1))]) (λp=>p.1<=4/\p.2.h=s.h/\(∀x∈p.2.lm,Yz x.2.1 x.2.2=xy)/\XY s=WW ([1,2,3,4].drop p.1) p.2) (Xm 3 4) (0,s) Z1 ⟨Z1,rfl,D,rfl⟩ ?_;rintro⟨i,q⟩ ⟨H,A,n,f⟩;simp only at H A n f;have d:q.h.ok:=A▸G;have C:i=0\/i=1\/i=2\/i=3\/i=4:=Z0;have j:=λk I=>Ov (s:=q) (k:=k) I;have w:=λk=>Z73 (s:=q) n (XM d k).2 (XM d k).1;obtain rfl|rfl|rfl|rfl|rfl:=C;replace j:=j 1 Z0;have st:=Lm d (k:=1);have t:=yl (s:=q) d (k:=1) Z0 (l:=(Xv q 1).1) (Zes st.2 (XM d 1).2);have k1:=F _ (XM d 1).2 (XM d 1).1;have g:=J1 (h:=q.h) (k:=1) (l:=(Xv q 1).1) (m:=q.lm) (λo y=>(st.1 o y).1.2) n;replace f:XY s=WW (1:: [2,3,4]) q:=f;rw[WW]at f;have r:Xv q 1=ZP (Zx q.h 1) [] xh:=rfl;rw[<-r]at k1;generalize Xv q 1=z at*;obtain⟨l,e⟩:=z;simp only at k1 t f g st;unfold Xd ZU at j;unfold ZU at t;simp[ZU,UX,VV,Uf,qO];refine Zz j Z1 ?_;simp;refine Zz k1 Z1 ?_;simp;by_cases u:e=0;rw[if_pos u]at f;simp[u];refine VZ t ?_;simp[Zy];exact⟨1,XU q 1 l,⟨Z0,by rw[Q3,A],λa b c h=>g (a,b,c) h,f⟩,⟨Z1,rfl⟩,ZdK⟩;simp_all;replace j:=j 2 Z0;have st:=Lm d (k:=2);have t:=yl (s:=q) d (k:=2) Z0 (l:=(Xv q 2).1) (Zes st.2 (XM d 2).2);have k1:=F _ (XM d 2).2 (XM d 2).1;have g:=J1 (h:=q.h) (k:=2) (l:=(Xv q 2).1) (m:=q.lm) (λo y=>(st.1 o y).1.2) n;replace f:XY s=WW (2:: [3,4]) q:=f;rw[WW]at f;have r:Xv q 2=ZP (Zx q.h 2) [] xh:=rfl;rw[<-r]at k1;generalize Xv q 2=z at*;obtain⟨l,e⟩:=z;simp only at k1 t f g st;unfold Xd ZU at j;unfold ZU at t;simp[ZU,UX,VV,Uf,qO];refine Zz j Z1 ?_;simp;refine Zz k1 Z1 ?_;simp;by_cases u:e=0;rw[if_pos u]at f;simp[u];refine VZ t ?_;simp[Zy];exact⟨2,XU q 2 l,⟨Z0,by rw[Q3,A],λa b c h=>g (a,b,c) h,f⟩,⟨Z1,rfl⟩,ZdK⟩;simp_all;replace j:=j 3 Z0;have st:=Lm d (k:=3);have t:=yl (s:=q) d (k:=3) Z0 (l:=(Xv q 3).1) (Zes st.2 (XM d 3).2);have k1:=B _ (VU q.lm (Zx q.h 3)) (XM d 3).2 (Zes Nu (XM d 3).2) (XM d 3).1 (qx n Z1);replace w:=w 3;have g:=J1 (h:=q.h) (k:=3) (l:=(Xv q 3).1) (m:=q.lm) (λo y=>(st.1 o y).1.2) n;replace f:XY s=WW (3:: [4]) q:=f;rw[WW]at f;have r:Xv q 3=ZP (Zx q.h 3) (VU q.lm (Zx q.h 3)) xy:=rfl;rw[<-r]at k1;generalize Xv q 3=z at*;obtain⟨l,e⟩:=z;simp only at k1 t f g st;unfold Xd ZU at j w;unfold ZU at t;simp[ZU,UX,VV,Uf,qO];refine Zz j Z1 ?_;simp;refine Zz j Z1 ?_;simp;refine Zz w Z1 ?_;simp;refine Zz k1 Z1 ?_;simp;by_cases u:e=0;rw[if_pos u]at f;simp[u];refine VZ t ?_;simp[Zy];exact⟨3,XU q 3 l,⟨Z0,by rw[Q3,A],λa b c h=>g (a,b,c) h,f⟩,⟨Z1,rfl⟩,ZdK⟩;simp_all;replace j:=j 4 Z0;have st:=Lm d (k:=4);have t:=yl (s:=q) d (k:=4) Z0 (l:=(Xv q 4).1) (Zes st.2 (XM d 4).2);have k1:=B _ (VU q.lm (Zx q.h 4)) (XM d 4).2 (Zes Nu (XM d 4).2) (XM d 4).1 (qx n Z1);replace w:=w 4;have g:=J1 (h:=q.h) (k:=4) (l:=(Xv q 4).1) (m:=q.lm) (λo y=>(st.1 o y).1.2) n;replace f:XY s=WW (4:: []) q:=f;rw[WW]at f;have r:Xv q 4=ZP (Zx q.h 4) (VU q.lm (Zx q.h 4)) xy:=rfl;rw[<-r]at k1;generalize Xv q 4=z at*;obtain⟨l,e⟩:=z;simp only at k1 t f g st;unfold Xd ZU at j w;unfold ZU at t;simp[ZU,UX,VV,Uf,qO];refine Zz j Z1 ?_;simp;refine Zz j Z1 ?_;simp;refine Zz w Z1 ?_;simp;refine Zz k1 Z1 ?_;simp;by_cases u:e=0;rw[if_pos u]at f;simp[u];refine VZ t ?_;simp[Zy];exact⟨4,XU q 4 l,⟨Z0,by rw[Q3,A],λa b c h=>g (a,b,c) h,f⟩,⟨Z1,rfl⟩,ZdK⟩;simp_all;replace f:XY s=(xy,q):=f;simp[f,ZU]
end Vm
namespace Vm
open Go Go.Proofs
def Z86{P:Program}{f:FuncId}{ks:List CK}{cs:List V}{r:V}(hv:VC P f xh [.ptr cs] r)(G:r.flatc=xy)(l:xq cs=xq ks)(u:cs.all V.one=xy)(D:ks.all (λk=> !(k==.dead))=xy):
  Vj P f [.mem ks] [.agg cs] (.tup [r,.agg cs]):=by
 obtain⟨O,Q⟩:=hv;refine⟨O,λB w h vs a R=> ?_⟩;obtain⟨a2,a1,C⟩:=R;obtain⟨tk,j,z⟩:=C 0 (.mem ks) (.agg cs) rfl rfl;simp only[Wi]at j;rw[if_pos l]at j;simp only[ZdP]at j;subst j;obtain⟨b,M,T,q,K,Y,o⟩:=z;have n:∀(ks:List CK) (cs:List V),xq cs=xq ks->YA [] (((ks.zip cs).map λy=>(y.1,E.c y.2)).map (·.2))=xk cs:=by
  intro ks;induction ks with
  |nil=>simp
  |cons k ks ih=>
   intro cs hl;obtain _|⟨c,cs⟩:=cs;simp at hl;simp_all
 have hz:eval [] (.pt xw (((ks.zip cs).map λy=>(y.1,E.c y.2)).map (·.2)))=xk (.ptr cs):=by
  simp only[eval,n ks cs l,Ze0,KQ,u,ZeA]
 have W:Wq ((ks.zip cs).map λy=>(y.1,E.c y.2))=xh:=by
  rw[Wq,ZgO];intro x L;obtain⟨y,A,rfl⟩:=Ze4.1 L;have:=ZdZ.1 D y.1 (List.of_mem_zip A).1;simpa using this
 have a0:=Kk (G':=λb=>h.F b\/∃t i,h.bl t i=xk b) q Y o W hz (λb d=>.inl d) λi b d=>.inr ⟨0,i,d⟩;refine ZgN (Q w (λb=>h.F b\/∃t i,h.bl t i=xk b) vs (λb d=> ?_) Z0 λi x L=> ?_) λe N X=> ?_;obtain d|⟨t,i,d⟩:=d;exact a.f_lt b d;exact(a.b_lt t i b d).2.1;grind;obtain⟨v,rfl,g,J⟩:=X;have p:=g.size;have U:Same h.F w N:=λb d=>g.block b (a.f_lt b d);have S:∀t i b,h.bl t i=xk b->N.heap[b]?=w.heap[b]? :=λt i b d=>g.block b (a.b_lt t i b d).2.1;have I:M.size=xq cs:=by
  have:=o.1;simp[l]at this;omega
 refine⟨v,r,[.agg cs],h,rfl,g.mono a.base,λb d=>g.block b (a.k_lt b d),⟨Zes a.base p,λb d=>Ze1 (a.f_lt b d) p,a.f_or,a.g_F,λt i b d=> ?_,a.inj,λb d=>Ze1 (a.k_lt b d) p,a.k_bl,a.k_F⟩,rfl,J.flat G,⟨rfl,λi k y H Z A=> ?_⟩,rfl⟩;obtain⟨q1,q2,q3⟩:=a.b_lt t i b d;grind;cases i with
 |zero=>
  simp at H A;subst H;subst A;refine⟨.mem ((ks.zip cs).map λy=>(y.1,.c y.2)),by rw[Wi,if_pos l],b,M,T,q,K,?_,o.keep U (λ_ d=>d) (λ_=>rfl) λi b d=>S 0 _ b d⟩;grind
 |succ i=>simp at H
end Vm
namespace Vm
open Go Go.Proofs
def UV:List FuncId:=[103,104,105,106,107,108,109,110]
def A0(f:FuncId):V:=.agg [.fn f]
def Z6v:VC Sol.prog 82 xh [] (.sl (UV.map A0)):=by
 refine Y2 Sol.func82 follows Z2 c82 rfl ?_;simp[M7,UV,A0]
def So(f:FuncId)(s:Ck):Bool×Ck:=
 if f=103 then(SE s,s)else if f=104 then(Qd s,s)else if f=105 then XY s
 else if f=106 then(Rz s,s)else if f=107 then(Qh s,s)else if f=108 then(Qk s,s)else if f=109 then(RW s,s)else(Qf s,s)
structure Ck.okk (s:Ck):Prop where
 ok:s.ok
 lm:∀x∈s.lm,Yz x.2.1 x.2.2=xy
def Ck.obs_put(s:Ck)(k:Int)(l:List Ob)(a:1<=k/\k<=4)(j:Int):(s.put k l).obs j=if j=k\/(k=4/\¬(j=1\/j=2\/j=3))then l else s.obs j:=by
 have:k=1\/k=2\/k=3\/k=4:=Z0;obtain rfl|rfl|rfl|rfl:=this<;>simp[Ck.put,Ck.obs]<;>(split<;>simp_all)<;>(grind)<;>(grind)
def Z48{s:Ck}(d:s.okk){k:Int}(g:1<=k/\k<=4):(XU s k (Xv s k).1).okk:=by
 have st:=Lm d.ok.h (k:=k);have l:=(XM d.ok.h k).2;have a:∀j,(XU s k (Xv s k).1).obs j=((s.put k (Xv s k).1).obs j):=λj=>rfl;refine⟨⟨by rw[Q3];exact d.ok.h,λj o f=> ?_,λj=> ?_⟩,J1 (λo f=>(st.1 o f).1.2) d.lm⟩;rw[Q3];rw[a,Ck.obs_put _ _ _ g]at f;split at f;rename_i h;have:Zx s.h j=Zx s.h k:=by
  obtain rfl|⟨rfl,h⟩:=h;rfl;simp_all[not_or,Zx]
 simp_all;exact d.ok.ob j o f;rw[a,Ck.obs_put _ _ _ g];split;omega;exact d.ok.len j
def Ol:∀ {l:List Int} {s:Ck},(∀k∈l,1<=k/\k<=4)->s.okk->(WW l s).2.okk/\(WW l s).2.h=s.h
 | [],s,_,a=>⟨a,rfl⟩
 |k::l,s,d,a=>by
  rw[WW];split;simp_all[Ol,Zeu,Z48,Zey,trans,Q3];simp_all
def Z8d{s:Ck}(a:s.okk):(XY s).2.okk/\(XY s).2.h=s.h:=Ol Z1 a
def N4{s:Ck}(a:s.okk){f:FuncId}:(So f s).2.okk/\(So f s).2.h=s.h:=by
 unfold So;repeat' split
 all_goals first|exact⟨a,rfl⟩|exact Z8d a
def Z6u(j:Rn)(d:Ro){s:Ck}(a:s.okk){f:FuncId}(g:f∈UV):Vj Sol.prog f [.mem LQ] [.agg (ZU s)] (.tup [.bool (So f s).1,.agg (ZU (So f s).2)]):=by
 have go:∀ {f b},VC Sol.prog f xh [Xd s] (.bool b)->Vj Sol.prog f [.mem LQ] [.agg (ZU s)] (.tup [.bool b,.agg (ZU s)]):=λh=>Z86 h rfl rfl rfl rfl;simp only[UV,Zec,Zfk,ZgT]at g;obtain rfl|rfl|rfl|rfl|rfl|rfl|rfl|rfl:=g;exact go (t8 a.ok.h);exact go Z6g;exact Z8f j d a.ok.h a.lm;exact go (Z0I a.ok);exact go (Z72 a.ok);exact go (Z81 a.ok);exact go (Z35 a.ok);exact go (Z6m a.ok)
def RZ:List FuncId->Ck->Option Ck
 | [],s=>xk s
 |f::l,s=>if(So f s).1=xy then RZ l (So f s).2 else xw
def Xh(h:Hp):Ck:= {h:=h,o1:=[],o2:=[],o3:=[],o4:=[],pm:=[],lm:=[]}
def Vt(h:Hp):Option Ck:=RZ UV (Xh h)
def GD{h:Hp}(a:h.ok):(Xh h).okk:=by
 have f:∀k,(Xh h).obs k=[]:=λk=>by simp[Xh,Ck.obs]
 refine⟨⟨a,λk o g=> ?_,λk=> ?_⟩,λx d=>(by simp[Xh]at d)⟩;simp_all;simp_all
def AN(w:Rn)(k:Ro){h:Hp}(y:h.ok):VC Sol.prog 51 xh [ZQ h] (.tup [match Vt h with|some s=>Xd s|none=>.nul 0,.bool (Vt h).isSome]):=by
 refine Y2 Sol.func51 follows Z2 c51 rfl ?_;have k1:=Dx (h:=h);have B:=Z6v;have a:P UV=8:=rfl;unfold ZQ at k1;simp[IV];refine Zz k1 Z1 ?_;simp[X8,Zv];refine Zz B Z1 ?_;simp;refine Sz (λ(p:Nat×Ck)=>[(5,.m (ZU p.2)),(6,.v (vi p.1))]) (λp=>p.1<=8/\p.2.okk/\Vt h=RZ (UV.drop p.1) p.2) (Xm 6 8) (0,Xh h) ZdJ ⟨Z1,GD y,rfl⟩ ?_;rintro⟨i,q⟩ ⟨z,n,g⟩;simp only at z n g;have o:=Zy ((i:Int)+1) Z0 Z0;by_cases d:i<P UV;have t:UV[i]?=xk UV[i]:=ZdO d;have x:=ZeN d;have A:=Ze5 d;generalize UV[i]=f at*;rw[x,RZ]at g;have u:=Z6u w k n A;have l:=(N4 n (f:=f)).1;rw[a]at d;have j:(i:Int)<8:=Z0;simp[Xe,d,j,t,Yh t,a,A0,ZU];unfold ZU at u;refine VZ u ?_;cases r:(So f q).1;rw[if_neg (by simp[r])]at g;simp[g];rw[if_pos r]at g;simp[o];exact⟨i+1,(So f q).2,⟨Z0,l,g⟩,⟨Z1,Z0⟩,ZdH⟩;have:i=8:=Z0;subst this;replace g:Vt h=xk q:=g;simp[a,g,ZU,Xd]
def H5:∀ {l:List FuncId} {s q:Ck},s.okk->RZ l s=xk q->q.okk/\q.h=s.h
 | [],s,q,a,h=>by simp only[RZ,ZdP]at h;subst h;exact⟨a,rfl⟩
 |f::l,s,q,a,h=>by
  rw[RZ]at h;split at h;have d:=N4 a (f:=f);have g:=H5 d.1 h;exact⟨g.1,g.2.trans d.2⟩;cases h
def Z3c{h:Hp}(a:h.ok){q:Ck}(d:Vt h=xk q):q.okk/\q.h=h:=H5 (GD a) d
def OW(d:Rn)(a:Ro){h:Hp}(f:h.ok):VC Sol.prog 25 xh [ZQ h] (.bool (Vt h).isSome):=by
 refine Y2 Sol.func25 follows Z2 c25 rfl ?_;simp[IK];refine Zz (AN d a f) Z1 ?_;simp
def Kw(h:Hp)(k:Int):List Ob×Int:=match Vt h with
 |some s=>if 1<=k/\k<=4 then(s.obs k,0)else([],1)
 |none=>([],1)
def OQ(l:Rn)(f:Ro){h:Hp}(n:h.ok){k:Int}:VC Sol.prog 27 xh [ZQ h,vi k] (.tup [.sl ((Kw h k).1.map ZL),vi (Kw h k).2]):=by
 refine Y2 Sol.func27 follows Z2 c27 rfl ?_;simp[IL];refine Zz (AN l f n) Z1 ?_;unfold Kw;cases o:Vt h with
 |none=>simp
 |some s=>
  by_cases g:1<=k;by_cases j:k<=4;have:k=1\/k=2\/k=3\/k=4:=Z0;obtain rfl|rfl|rfl|rfl:=this<;>simp[Y9,Ri,UX,VV,Uf,Ck.obs];have a:¬k<1:=Z0;have d:4<k:=Z0;simp[g,j,a,d];have a:k<1:=Z0;simp[g,a]
def qP(h:Hp):Nat:=match Vt h with
 |some s=>Sw s
 |none=>0
def OZ(f:Rn)(a:Ro){h:Hp}(d:h.ok):VC Sol.prog 22 xh [ZQ h] (vi (qP h)):=by
 refine Y2 Sol.func22 follows Z2 c22 rfl ?_;simp[II];refine Zz (AN f a d) Z1 ?_;unfold qP;cases g:Vt h with
 |none=>simp
 |some s=>
  simp;refine Zz (Oc (Z3c d g).1.ok) Z1 ?_;simp
end Vm
end
section
namespace Vm
open Go Go.Proofs
structure Stands (ws:List Int) (old:Bool) (o:Ob):Prop where
 nat:0<=o.at_
 shape:Yz o.size o.ptrs=xy
 fits:o.at_+1+o.size<=P ws
 slots:XQ ((ws.drop (o.at_.toNat+1)).take o.size.toNat) o.gone o.ptrs 0=xy
 word:∃w,ws[o.at_.toNat]?=xk w/\(if o.gone then old=xy/\(adr w).2=0/\o.target=(adr w).1 else(old=xy->¬(adr w).2=0)/\ZS w=(o.size,o.ptrs,0)/\o.target=0)
def Tiles(ws:List Int)(old:Bool):Nat->List Ob->Prop
 |a,[]=>P ws<=a
 |a,o::l=>o.at_=a/\Stands ws old o/\Tiles ws old (a+1+o.size.toNat) l
def Z4b{ws:List Int}{shs:List (Int×Int)}{old:Bool}{a g t:Nat}{w:Int}{o:Ob}(k:ws[a]?=xk w)(f:Wc shs old a g w=xk (o,t))(h:¬(P ws:Int)<a+1+o.size)
  (j:¬XQ ((ws.drop (a+1)).take o.size.toNat) o.gone o.ptrs 0=xh):o.at_=a/\Stands ws old o:=by
 have d:=yn f;refine⟨d.2,?_,d.1,?_,?_,w,?_,?_⟩;omega;omega;simp_all;simp_all;unfold Wc at f;grind
def Og{ws:List Int}{shs:List (Int×Int)}{old:Bool}:∀(f a j:Nat) (d l:List Ob),Xu ws shs old f a j d=(l,0)->∃r,l=d++r/\Tiles ws old a r
 |0,_,_,_,_,h=>by simp[Xu]at h
 |f+1,a,j,d,l,h=>by
  unfold Xu at h;split at h;rename_i p;split at h;grind;simp only[Ze2,and_true]at h;subst h;exact⟨[],Z1,Zgt.1 p⟩;rename_i w x;split at h;grind;rename_i o t q;split at h;grind;rename_i k;split at h;grind;rename_i n;obtain⟨r,rfl,u⟩:=Og f _ _ _ _ h;have g:=Z4b x q k n;exact⟨o::r,Z1,g.1,g.2,u⟩
def Sx{ws:List Int}{shs:List (Int×Int)}{old:Bool}{l:List Ob}(h:ZP ws shs old=(l,0)):Tiles ws old 0 l:=by
 obtain⟨r,a,d⟩:=Og _ _ _ _ _ h;simp_all
def Tiles.stands{ws:List Int}{old:Bool}:∀ {a:Nat} {l:List Ob},Tiles ws old a l->∀o∈l,Stands ws old o/\(a:Int)<=o.at_
 |_,[],_,_,h=>Zds
 |a,o::l,h,x,d=>by
  have f:=YM.1 h.2.1.shape;obtain rfl|d:=Zec.1 d;exact⟨h.2.1,by rw[h.1];omega⟩;have:=Tiles.stands h.2.2 x d;grind
def Tiles.apart{ws:List Int}{old:Bool}:∀ {a:Nat} {l:List Ob},Tiles ws old a l->∀o∈l,∀q∈l,o=q\/o.at_+1+o.size<=q.at_\/q.at_+1+q.size<=o.at_
 |_,[],_,_,h,_,_=>Zds
 |a,x::l,h,o,f,q,d=>by
  have g:=YM.1 h.2.1.shape;have e:=h.1;obtain rfl|f:=Zec.1 f;obtain rfl|d:=Zec.1 d;simp;have:=(Tiles.stands h.2.2 q d).2;omega;obtain d|d:=Zec.1 d;have:=(Tiles.stands h.2.2 o f).2;grind;exact Tiles.apart h.2.2 o f q d
structure RightH (h:Hp) (p:Pts):Prop where
 parts:XD h=xk p
 num:Tr h=xy
 ok:Sm h p=xy
 low:Tiles h.low xh 0 p.low
 high:Tiles h.high xh 0 p.high
 old:Tiles h.old xy 0 p.old
 far:Tiles h.far xy 0 p.far
def Z6h{h:Hp}(o:YS h=xy):∃p,RightH h p:=by
 obtain⟨p,a,n,j⟩:=Z6j o;refine⟨p,a,j,n,?_,?_,?_,?_⟩;all_goals
  clear j;unfold XD at a;dsimp only at a;split at a;cases a;rename_i g;split at a;cases a;rename_i c2;cases a;have c3:(ZP h.low [] xh).2=0/\(ZP h.high [] xh).2=0:=by
   refine⟨ZeU λf=>g (.inl f),ZeU λf=>g (.inr f)⟩
  have c4:∀x:Int,¬x≠0->x=0:=λx d=>ZeU d;have k:=c4 _ (λd=>c2 (.inr (.inr (.inl d))));have l:=c4 _ (λd=>c2 (.inr (.inr (.inr d))));first|exact Sx (Zgh rfl c3.1)|exact Sx (Zgh rfl c3.2)|exact Sx (Zgh rfl k)|exact Sx (Zgh rfl l)
def RightH.tiles{h:Hp}{p:Pts}(r:RightH h p){k:Int}(a:1<=k/\k<=4):Tiles (Zx h k) (decide (2<k)) 0 (p.at k):=by
 have:k=1\/k=2\/k=3\/k=4:=Z0;obtain rfl|rfl|rfl|rfl:=this;exact r.low;exact r.high;exact r.old;exact r.far
def RightH.lay{h:Hp}{p:Pts}(r:RightH h p):ZI (Zv h)=xy:=by
 have:=r.num;simp_all[Tr,ZdS]
def ZT(l:Ly)(k a:Int):Int:=2*(ZB l k+a)+1
theorem T9{l:Ly}(d:ZI l=xy){k a:Int}(f:0<=a):adr (ZT l k a)=(ZB l k+a,0):=by
 have:=WG d k;unfold adr ZT;grind
theorem Rp{l:Ly}(g:ZI l=xy){k a:Int}(f:1<=k/\k<=4)(d:0<=a/\a<X0 l k):Y4 l k a=(ZB l k+a,0):=by
 simp_all[Y4,if_neg]
theorem QE{l:Ly}(g:ZI l=xy){k a:Int}(j:1<=k/\k<=4)(d:0<=a/\a<X0 l k):Ye l (ZB l k+a)=(k,a,0):=by
 have h:=WB.1 g;have n:=qL g;unfold Ye X7;rw[if_neg (by simp[g])];simp only[ZdS,Ze9];have f:k=1\/k=2\/k=3\/k=4:=Z0;obtain rfl|rfl|rfl|rfl:=f;grind;simp only[ZB,X0]at d⊢;grind;simp only[ZB,X0]at d⊢;grind;simp only[ZB,X0]at d⊢;grind
end Vm
namespace Vm
open Go Go.Proofs
def Z1r{g:Hp}(a:ZI (Zv g)=xy):fwd g 0=(0,g,0):=by simp[fwd,a]
theorem KZ{l:Ly}(f:ZI l=xy){k a:Int}(d:0<=a):¬ZT l k a=0:=by
 grind [WG,ZT]
def fwd_here{g:Hp}(h:ZI (Zv g)=xy){k a:Int}(f:1<=k/\k<=2)(d:0<=a/\a< P (Zx g k)):fwd g (ZT (Zv g) k a)=(ZT (Zv g) k a,g,0):=by
 grind [KZ,T9,QE,TC,fwd]
def fwd_gone{g:Hp}(d:ZI (Zv g)=xy){k:Int}{a:Nat}(p:3<=k/\k<=4){u:Int}(f:(Zx g k)[a]?=xk u)(h:(adr u).2=0):fwd g (ZT (Zv g) k a)=(u,g,0):=by
 have q:a< P (Zx g k):=(ZdQ.1 f).1;have j:=KZ d (k:=k) (a:=(a:Int)) Z0;have l:=T9 d (k:=k) (a:=(a:Int)) Z0;have n:=QE d (k:=k) (a:=(a:Int)) Z0 (by rw[TC Z0];omega);have o:(Zx g k).getD a 0=u:=by simp[List.getD,f]
 unfold fwd;simp[-List.getD_eq_getElem?_getD,d,j,l,n,show ¬k<3 by omega,o,h]
def YJ(g:Hp)(k:Int)(a n:Nat):Hp:=Xr (Xw g k a n) k ((zr (Zx g k) a n).set a (ZT (Zv g) 1 (P g.low)))
def QY{g:Hp}{k:Int}{a n:Nat}(d:a+n<=P (Zx g k)):Zv (Xw g k a n)= {Zv g with low:=(P g.low+n:Nat)}:=by
 simp_all[Zv,Xw,Ly.mk.injEq,true_and,and_true]
theorem Hr{g:Hp}(d:ZI (Zv g)=xy){k:Int}{a n:Nat}(f:a+n<=P (Zx g k))(l:(n:Int)<=Xx (Zv g)):ZI (Zv (Xw g k a n))=xy:=by
 rw[QY f];have h:=WB.1 d;have e:Xx (Zv g)=(Zv g).cap- (Zv g).low- (Zv g).high:=by unfold Xx;rw[d];rfl
 have j:(Zv g).low=P g.low:=rfl;grind [WB]
def B3{g:Hp}{k:Int}(f:3<=k/\k<=4){a n:Nat}(d:a+n<=P (Zx g k)):Zv (YJ g k a n)= {Zv g with low:=(P g.low+n:Nat)}:=by
 rw[<-QY d];unfold YJ;apply Di;rw[ZgG,qV];have:k=3\/k=4:=Z0;obtain rfl|rfl:=this<;>rfl
def Z3M{g:Hp}(j:ZI (Zv g)=xy){k:Int}(f:3<=k/\k<=4){a n:Nat}(d:a+n<=P (Zx g k))(h:(n:Int)<=Xx (Zv g)):ZI (Zv (YJ g k a n))=xy:=by
 rw[B3 f d,<-QY d];grind [Hr]
def Z61{g:Hp}{k:Int}(d:3<=k/\k<=4){a n:Nat}(f:a+n<=P (Zx g k))(j b:Int):ZT (Zv (YJ g k a n)) j b=ZT (Zv g) j b:=by
 rw[B3 d f];rfl
def fwd_wait{g:Hp}(h:ZI (Zv g)=xy){k:Int}{a:Nat}(C:3<=k/\k<=4){u:Int}(B:(Zx g k)[a]?=xk u)(q:¬(adr u).2=0){n:Nat}{pt:Int}(p:ZS u=((n:Int),pt,0))
  (j:a+(n+1)<=P (Zx g k)) (A:((n+1:Nat):Int)<=Xx (Zv g)):fwd g (ZT (Zv g) k a)=(ZT (Zv g) 1 (P g.low),YJ g k a (n+1),0):=by
 have r:=KZ h (k:=k) (a:=(a:Int)) Z0;have t:=T9 h (k:=k) (a:=(a:Int)) Z0;have w:=QE h (k:=k) (a:=(a:Int)) Z0 (by grind [TC]);have x:(Zx g k).getD a 0=u:=by simp[List.getD,B]
 have f:=Hr h j A;have y:Y4 (Zv (Xw g k a (n+1))) 1 (P g.low)=(ZB (Zv g) 1+P g.low,0):=by
  have:=Rp f (k:=1) (a:=(P g.low:Int)) Z0 (by rw[QY j];simp only[X0,ZeA];omega);rw[this,QY j];rfl
 have d:=WG f 1;rw[QY j]at d;simp only[X0,ZeA]at d;have l:ZB {Zv g with low:=(P g.low+(n+1):Nat)} 1=ZB (Zv g) 1:=rfl;rw[l]at d;have z:XN (ZB (Zv g) 1+P g.low)=(ZT (Zv g) 1 (P g.low),0):=by
  unfold XN ZT;rw[if_neg Z0]
 unfold fwd;have o:¬k<3:=Z0;simp only[h,r,t,w,if_neg o,Zfv,Zex,ne_eq,ZhC,Zee,x,q,p];unfold TU;rw[if_neg Z0,if_neg Z0];simp only[y,z];rfl
theorem Dp{ws:List Int}{a:Nat}:∀(n j:Nat),j<a\/a+n<=j->(zr ws a n)[j]?=ws[j]?
 |0,_,_=>rfl
 |n+1,j,h=>by
  unfold zr;rw[Zf4 Z0];exact Dp n j Z0
def Ho{g:Hp}{k:Int}(o:3<=k/\k<=4){a n:Nat}(p:0<n){j:Int}(l:3<=j/\j<=4){b:Nat}(h:j≠k\/b<a\/a+n<=b):(Zx (YJ g k a n) j)[b]?=(Zx g j)[b]? :=by
 have f:k=3\/k=4:=Z0;have d:j=3\/j=4:=Z0;obtain rfl|rfl:=f<;>obtain rfl|rfl:=d<;>simp only[YJ,Xw,Z8g,Z8h,yL,yM]
 grind [List.getElem?_set_ne,Dp];grind [List.getElem?_set_ne,Dp]
def B4{g:Hp}{k:Int}(l:3<=k/\k<=4){a n:Nat}{j:Int}(h:3<=j/\j<=4):P (Zx (YJ g k a n) j)=P (Zx g j):=by
 have f:k=3\/k=4:=Z0;have d:j=3\/j=4:=Z0;obtain rfl|rfl:=f<;>obtain rfl|rfl:=d<;>simp[YJ,Xw]
def Z3L{g:Hp}{k:Int}(h:3<=k/\k<=4){a n:Nat}(f:a+n<=P (Zx g k)):(YJ g k a n).low.length=P g.low+n/\(YJ g k a n).high=g.high:=by
 have d:k=3\/k=4:=Z0;obtain rfl|rfl:=d<;>simp only[yL,yM]at f<;>simp[YJ,Xw]<;>omega
end Vm
namespace Vm
open Go Go.Proofs
def CG{h:Hp}{ws:List Int}{low:List Ob}:∀(f i:Nat) (d l:List (Int×Int)),V5 h ws low f i d=xk l->∃r,l=d++r
 |0,_,_,_,a=>by simp[V5]at a
 |f+1,i,d,l,a=>by
  unfold V5 at a;split at a;cases a;exact⟨[],Z1⟩;split at a;split at a;cases a;obtain⟨r,g⟩:=CG f _ _ _ a;exact⟨_,by rw[g,ZeH]⟩;split at a;exact CG f _ _ _ a;cases a
def qz{h:Hp}{ws:List Int}{low:List Ob}:∀(f i:Nat) (d k:List (Int×Int)),V5 h ws low f i d=xk k->∀(p:Nat) (g l:List Ob),Xu ws k xy p i (P d) g=(l,0)->
  ∃r,l=g++r/\∀o∈r,o.gone=xy->∃q,Yx h 1 low o.target=xk q/\q.size=o.size/\q.ptrs=o.ptrs
 |0,_,_,_,j=>by simp[V5]at j
 |f+1,i,d,k,j=>by
  intro p g l a;cases p with
  |zero=>simp[Xu]at a
  |succ p=>
   unfold V5 at j;unfold Xu at a;cases x:ws[i]? with
   |none=>
    simp_all
   |some w=>
    simp only[x]at j a;by_cases t:(adr w).2=0;simp only[t,ZeA]at j;cases C:Yx h 1 low (adr w).1 with
    |none=>simp_all
    |some q=>
     simp only[C]at j;obtain⟨r,D⟩:=CG _ _ _ _ j;have F:k[P d]?=xk (q.size,q.ptrs):=by rw[D];simp
     unfold Wc at a;rw[if_pos ⟨rfl,t⟩]at a;simp only[F]at a;by_cases u:Yz q.size q.ptrs=xy;rw[if_pos u]at a;simp only at a;split at a;simp at a;split at a;simp at a;have n:P d+1=P (d++[(q.size,q.ptrs)]):=Z1;rw[n]at a;obtain⟨G,z,A⟩:=qz f _ _ _ j _ _ _ a;grind;simp_all
    simp only[t,Zex]at j;by_cases y:(ZS w).2.2=0;simp only[y,ZeA]at j;unfold Wc at a;rw[if_neg (λB=>t B.2),if_pos y]at a;simp only at a;split at a;simp at a;split at a;simp at a;obtain⟨G,z,A⟩:=qz f _ _ _ j _ _ _ a;simp_all;simp_all
def RightH.gone_low{h:Hp}{p:Pts}(r:RightH h p){k:Int}(D:3<=k/\k<=4){o:Ob}(d:o∈p.at k)(A:o.gone=xy):∃q∈p.low,X1 h 1 q.at_=o.target/\q.size=o.size/\q.ptrs=o.ptrs:=by
 have a:=r.parts;unfold XD at a;dsimp only at a;split at a;cases a;split at a;cases a;rename_i c2;have g:∀(f:List Int) (x:Option (List (Int×Int))),x=Vy h f (ZP h.low [] xh).1->¬x=xw->(ZP f (x.getD []) xy).2=0->o∈(ZP f (x.getD []) xy).1->
   ∃q∈(ZP h.low [] xh).1,X1 h 1 q.at_=o.target/\q.size=o.size/\q.ptrs=o.ptrs:=by
  intro f x C F n d;obtain _|j:=x;simp_all;simp only[Zei]at n d;obtain⟨H,l,t⟩:=qz _ _ _ _ C.symm (P f+1) [] (ZP f j xy).1 (Zgh rfl n);simp only[ZeR]at l;rw[l]at d;obtain⟨q,B,G⟩:=t o d A;have:=Zhd B;grind [Ek]
 have u:¬Vy h h.old (ZP h.low [] xh).1=xw:=λe=>c2 (.inl e);have w:¬Vy h h.far (ZP h.low [] xh).1=xw:=λe=>c2 (.inr (.inl e));have y:(ZP h.old ((Vy h h.old (ZP h.low [] xh).1).getD []) xy).2=0:=ZeU λe=>c2 (.inr (.inr (.inl e)));have z:(ZP h.far ((Vy h h.far (ZP h.low [] xh).1).getD []) xy).2=0:=ZeU λe=>c2 (.inr (.inr (.inr e)));cases a;have:k=3\/k=4:=Z0;obtain rfl|rfl:=this;exact g _ _ rfl u y Zd8;exact g _ _ rfl w z Zd8
def OE{l:List Ob}{o:Ob}(h:o∈l):WX o<=Ys l:=by
 unfold Ys;induction l with
 |nil=>simp at h
 |cons x l a=>
  grind
def Z8a{p:Pts}{k:Int}(a:3<=k/\k<=4){o:Ob}(h:o∈p.at k):WX o<=Wp p:=by
 have:k=3\/k=4:=Z0;unfold Wp;obtain rfl|rfl:=this;have:=OE (l:=p.old) h;omega;have:=OE (l:=p.far) h;omega
def Z60{l:Ly}(d:ZI l=xy){k j a b:Int}(o:1<=k/\k<=4)(n:1<=j/\j<=4)(f:0<=a/\a<X0 l k)(g:0<=b/\b<X0 l j)(h:ZT l k a=ZT l j b):k=j/\a=b:=by
 have p:=QE d o f;have q:=QE d n g;have:ZB l k+a=ZB l j+b:=by unfold ZT at h;omega
 simp_all
def Ot{u a:Int}(d:(adr u).2=0)(h:(adr u).1=a):u=2*a+1:=by
 unfold adr at d h;grind
def DO{u:Int}(h:(ZS u).2.2=0):¬(adr u).2=0:=by
 unfold ZS at h;split at h;rename_i a;unfold adr;grind;grind
end Vm
namespace Vm
open Go Go.Proofs
end Vm
end
section
namespace Vm
open Go Go.Proofs
def Tiles.order{ws:List Int}{old:Bool}:∀ {a:Nat} {l:List Ob},Tiles ws old a l->l.Pairwise λx y=>x.at_<y.at_
 |_,[],_=>.nil
 |a,o::l,h=>by
  have f:=YM.1 h.2.1.shape;refine .cons (λx d=> ?_) (Tiles.order h.2.2);have:=(Tiles.stands h.2.2 x d).2;have:=h.1;omega
def CS{h:Hp}(f:ZI (Zv h)=xy){k:Int}(d:1<=k/\k<=4){old:Bool}{o:Ob}(a:Stands (Zx h k) old o):X1 h k o.at_=ZB (Zv h) k+o.at_:=by
 have:=YM.1 a.shape;have:=a.fits;have:=a.nat;grind [X1,Rp,TC]
def Z7z{h:Hp}(f:ZI (Zv h)=xy){k:Int}(d:1<=k/\k<=4){old:Bool}{o:Ob}(a:Stands (Zx h k) old o):Ye (Zv h) (X1 h k o.at_)=(k,o.at_,0):=by
 have:=YM.1 a.shape;have:=a.fits;have:=a.nat;rw[CS f d a];grind [QE,TC]
def Tiles.starts{h:Hp}(f:ZI (Zv h)=xy){k:Int}(d:1<=k/\k<=4){old:Bool}{l:List Ob}(a:Tiles (Zx h k) old 0 l):l.Pairwise λx y=>X1 h k x.at_≠X1 h k y.at_:=by
 refine List.Pairwise.imp_of_mem ?_ a.order;intro x y j n g;rw[CS f d (a.stands x j).1,CS f d (a.stands y n).1];omega
def HJ{h:Hp}{a:Int}:∀ {l:List Ob} {m:List (Int×(Int×Int))},(l.Pairwise λx y=>X1 h 1 x.at_≠X1 h 1 y.at_)->Y1 (Xi h 1 m l) a=match Yx h 1 l a with
  |some o=>xk (o.size,o.ptrs)
  |none=>Y1 m a
 | [],m,_=>rfl
 |o::l,m,f=>by
  obtain⟨g,d⟩:=Zho.1 f;rw[Xi,HJ d];unfold Yx;rw[Zhc];cases j:l.find? (λo=>X1 h 1 o.at_==a)with
  |some q=>
   grind
  |none=>
   simp only[ZeA,QL];grind [X1,Y4,Zv]
def Be{h:Hp}{k:Int}(a:¬k=1):∀ {l:List Ob} {m:List (Int×(Int×Int))},Xi h k m l=m
 | [],m=>rfl
 |o::l,m=>by simp_all[Xi,if_neg,Be]
def Ks{h:Hp}{k a:Int}:∀ {l:List Ob} {m:List (Int×Int)},Y1 (Wv h k m l) a=if(Yx h k l a).isSome=xy then xk k else Y1 m a
 | [],m=>rfl
 |o::l,m=>by
  rw[Wv,Ks];unfold Yx;rw[Zhc,QL];by_cases f:X1 h k o.at_=a;have d:(Y4 (Zv h) k o.at_).1=a:=f;have:(X1 h k o.at_==a)=xy:=Zd9;simp[this,d];have d:¬(Y4 (Zv h) k o.at_).1=a:=f;have:(X1 h k o.at_==a)=xh:=Zd9;simp[this,d]
def CF{lm:List (Int×(Int×Int))}{ws:List Int}:∀(f i:Nat) (a:List (Int×Int)),∃r,WK lm ws f i a=a++r
 |0,_,a=>⟨[],by simp[WK]⟩
 |f+1,i,a=>by
  rw[WK];cases ws[i]? with
  |none=>simp
  |some w=>
   simp only;split;split;simp;obtain⟨r,d⟩:=CF (lm:=lm) (ws:=ws) f _ _;exact⟨_,by rw[d,ZeH]⟩;split;exact CF f _ _;simp
def qv{lm:List (Int×(Int×Int))}{h:Hp}{low:List Ob}(j:∀a,Y1 lm a=(Yx h 1 low a).map λo=>(o.size,o.ptrs)){ws:List Int}:∀(f i:Nat) (g k:List (Int×Int)),V5 h ws low f i g=xk k->WK lm ws f i g=k
 |0,_,_,_,d=>by simp[V5]at d
 |f+1,i,g,k,d=>by
  rw[V5]at d;rw[WK];cases r:ws[i]? with
  |none=>rw[r]at d;simpa using d
  |some w=>
   rw[r]at d;simp only at d⊢;by_cases l:(adr w).2=0;rw[if_pos l]at d⊢;rw[j];cases n:Yx h 1 low (adr w).1 with
   |none=>rw[n]at d;cases d
   |some o=>rw[n]at d;exact qv j _ _ _ _ d
   rw[if_neg l]at d⊢;by_cases q:(ZS w).2.2=0;rw[if_pos q]at d⊢;exact qv j _ _ _ _ d;rw[if_neg q]at d;cases d
def qw{lm:List (Int×(Int×Int))}{h:Hp}{low:List Ob}(k:∀a,Y1 lm a=(Yx h 1 low a).map λo=>(o.size,o.ptrs)){ws:List Int}:∀(f i:Nat) (d:List (Int×Int)),0<f->P ws<f+i->V5 h ws low f i d=xw->
  ∀(l:Nat) (j:List Ob),(Xu ws (WK lm ws f i d) xy l i (P d) j).2≠0
 |0,_,_,x,_,_=>Z0
 |f+1,i,d,x,F,g=>by
  intro l j;cases l with
  |zero=>simp[Xu]
  |succ l=>
   rw[V5]at g;rw[WK,Xu];cases u:ws[i]? with
   |none=>simp_all
   |some w=>
    have y:=(ZdQ.1 u).1;rw[u]at g;simp only at g⊢;by_cases q:(adr w).2=0;rw[if_pos q]at g⊢;rw[k];cases z:Yx h 1 low (adr w).1 with
    |none=>
     simp only[Zhf];have:Wc d xy i (P d) w=xw:=by
      unfold Wc;rw[if_pos ⟨rfl,q⟩];simp
     rw[this];simp
    |some o=>
     rw[z]at g;simp only[Ze8]at g⊢;obtain⟨r,A⟩:=CF (lm:=lm) (ws:=ws) f (i+1+o.size.toNat) (d++[(o.size,o.ptrs)]);have D:=qw k f (i+1+o.size.toNat) (d++[(o.size,o.ptrs)]) Z0 Z0 g l;generalize WK lm ws f (i+1+o.size.toNat) (d++[(o.size,o.ptrs)])=n at*;have B:n[P d]?=xk (o.size,o.ptrs):=by rw[A];simp
     unfold Wc;rw[if_pos ⟨rfl,q⟩,B];simp only;by_cases t:Yz o.size o.ptrs=xy;rw[if_pos t];simp only;split;simp;split;simp;simp_all;simp_all
    rw[if_neg q]at g⊢;by_cases C:(ZS w).2.2=0;rw[if_pos C]at g⊢;have D:=qw k f (i+1+(ZS w).1.toNat) d Z0 Z0 g l;generalize WK lm ws f (i+1+(ZS w).1.toNat) d=n at*;unfold Wc;grind;simp_all[if_neg,Wc]
structure Found (h:Hp) (s:Ck) (p:Pts):Prop where
 hp:s.h=h
 o1:s.o1=p.low
 o2:s.o2=p.high
 o3:s.o3=p.old
 o4:s.o4=p.far
 pm:s.pm=Wv h 4 (Wv h 3 (Wv h 2 (Wv h 1 [] p.low) p.high) p.old) p.far
def Z8e{h:Hp}(C:ZI (Zv h)=xy):match XD h with
  |some p=>(XY (Xh h)).1=xy/\Found h (XY (Xh h)).2 p
  |none=>(XY (Xh h)).1=xh:=by
 unfold XY XD;dsimp only;have D:Xv (Xh h) 1=ZP h.low [] xh:=rfl;rw[WW,D];by_cases w:(ZP h.low [] xh).2=0;case neg=>simp_all
 rw[if_pos w];have B:Tiles h.low xh 0 (ZP h.low [] xh).1:=Sx (ws:=h.low) (shs:=[]) (Zgh rfl w);generalize (ZP h.low [] xh).1=d at*;have F:Xv (XU (Xh h) 1 d) 2=ZP h.high [] xh:=rfl;rw[WW,F];by_cases A:(ZP h.high [] xh).2=0;case neg=>simp_all
 rw[if_pos A,if_neg Z0];generalize (ZP h.high [] xh).1=n at*;have g:∀a,Y1 (Xi h 1 [] d) a=(Yx h 1 d a).map λo=>(o.size,o.ptrs):=by
  intro a;rw[HJ (Tiles.starts C (k:=1) Z0 (by simpa using B))];cases Yx h 1 d a<;>rfl
 have j:(XU (XU (Xh h) 1 d) 2 n).lm=Xi h 1 [] d:=Be Z0;have G:Xv (XU (XU (Xh h) 1 d) 2 n) 3=ZP h.old (VU (Xi h 1 [] d) h.old) xy:=by
  rw[<-j];rfl
 rw[WW,G];cases x:Vy h h.old d with
 |none=>
  have:=qw g (P h.old+1) 0 [] Z0 Z0 x (P h.old+1) [];have q:¬(ZP h.old (VU (Xi h 1 [] d) h.old) xy).2=0:=this;rw[if_neg q,if_pos (.inl rfl)]
 |some shs=>
 have t:VU (Xi h 1 [] d) h.old=shs:=qv g _ _ _ _ x;rw[t];simp only[Zei];by_cases q:(ZP h.old shs xy).2=0;case neg=>simp_all
 rw[if_pos q];generalize (ZP h.old shs xy).1=z at*;have l:(XU (XU (XU (Xh h) 1 d) 2 n) 3 z).lm=Xi h 1 [] d:=by
  rw[<-j];exact Be Z0
 have H:Xv (XU (XU (XU (Xh h) 1 d) 2 n) 3 z) 4=ZP h.far (VU (Xi h 1 [] d) h.far) xy:=by
  rw[<-l];rfl
 rw[WW,H];cases y:Vy h h.far d with
 |none=>
  have:=qw g (P h.far+1) 0 [] Z0 Z0 y (P h.far+1) [];have r:¬(ZP h.far (VU (Xi h 1 [] d) h.far) xy).2=0:=this;rw[if_neg r,if_pos (.inr (.inl rfl))]
 |some f=>
 have u:VU (Xi h 1 [] d) h.far=f:=qv g _ _ _ _ y;rw[u];simp only[Zei];by_cases r:(ZP h.far f xy).2=0;case neg=>simp_all
 rw[if_pos r,if_neg ZcN];generalize (ZP h.far f xy).1=I at*;exact⟨rfl,rfl,rfl,rfl,rfl,rfl,rfl⟩
end Vm
namespace Vm
open Go Go.Proofs
def BI{h:Hp}{p:Pts}(a:XD h=xk p){k:Int}(n:1<=k/\k<=4):Tiles (Zx h k) (decide (2<k)) 0 (p.at k):=by
 have:k=1\/k=2\/k=3\/k=4:=Z0;unfold XD at a;dsimp only at a;split at a;cases a;rename_i g;split at a;cases a;rename_i c2;cases a;have c3:(ZP h.low [] xh).2=0/\(ZP h.high [] xh).2=0:=by
  refine⟨ZeU λf=>g (.inl f),ZeU λf=>g (.inr f)⟩
 have c4:∀x:Int,¬x≠0->x=0:=λx d=>ZeU d;have j:=c4 _ (λd=>c2 (.inr (.inr (.inl d))));have l:=c4 _ (λd=>c2 (.inr (.inr (.inr d))));obtain rfl|rfl|rfl|rfl:=this;exact Sx (Zgh rfl c3.1);exact Sx (Zgh rfl c3.2);exact Sx (Zgh rfl j);exact Sx (Zgh rfl l)
def Z4T{h:Hp}{p:Pts}(a:XD h=xk p){k:Int}(C:3<=k/\k<=4){o:Ob}(d:o∈p.at k)(z:o.gone=xy):∃q∈p.low,X1 h 1 q.at_=o.target/\q.size=o.size/\q.ptrs=o.ptrs:=by
 unfold XD at a;dsimp only at a;split at a;cases a;split at a;cases a;rename_i c2;have g:∀(f:List Int) (x:Option (List (Int×Int))),x=Vy h f (ZP h.low [] xh).1->¬x=xw->(ZP f (x.getD []) xy).2=0->o∈(ZP f (x.getD []) xy).1->
   ∃q∈(ZP h.low [] xh).1,X1 h 1 q.at_=o.target/\q.size=o.size/\q.ptrs=o.ptrs:=by
  intro f x B D n d;obtain _|j:=x;simp_all;simp only[Zei]at n d;obtain⟨G,l,r⟩:=qz _ _ _ _ B.symm (P f+1) [] (ZP f j xy).1 (Zgh rfl n);simp only[ZeR]at l;rw[l]at d;obtain⟨q,A,F⟩:=r o d z;have:=Zhd A;grind [Ek]
 have t:¬Vy h h.old (ZP h.low [] xh).1=xw:=λe=>c2 (.inl e);have u:¬Vy h h.far (ZP h.low [] xh).1=xw:=λe=>c2 (.inr (.inl e));have w:(ZP h.old ((Vy h h.old (ZP h.low [] xh).1).getD []) xy).2=0:=ZeU λe=>c2 (.inr (.inr (.inl e)));have y:(ZP h.far ((Vy h h.far (ZP h.low [] xh).1).getD []) xy).2=0:=ZeU λe=>c2 (.inr (.inr (.inr e)));cases a;have:k=3\/k=4:=Z0;obtain rfl|rfl:=this;exact g _ _ rfl t w Zd8;exact g _ _ rfl u y Zd8
theorem PJ{h:Hp}(q:ZI (Zv h)=xy){p:Pts}(n:XD h=xk p){k:Int}(d:1<=k/\k<=4){a:Int}(l:(Yx h k (p.at k) a).isSome=xy):∃b,Ye (Zv h) a=(k,b,0):=by
 obtain⟨o,f⟩:=ZeW.1 l;have g:=Zgu f;have j:X1 h k o.at_=a:=by have:=Zhd f;simpa using this
 rw[<-j];exact⟨_,Z7z q d ((BI n d).stands o g).1⟩
def Em{h:Hp}(o:ZI (Zv h)=xy){p:Pts}(n:XD h=xk p){k j:Int}(g:1<=k/\k<=4)(f:1<=j/\j<=4)(l:k≠j){a:Int}(d:(Yx h k (p.at k) a).isSome=xy):(Yx h j (p.at j) a).isSome=xh:=by
 grind [Yx,PJ,Prod.mk.injEq]
section
variable {h:Hp}{s:Ck}{p:Pts}
theorem Found.obs(a:Found h s p){k:Int}:s.obs k=p.at k:=by
 unfold Ck.obs Pts.at;rw[a.o1,a.o2,a.o3,a.o4]
def Found.pm_at(d:Found h s p)(a:Int):Y1 s.pm a=if(Yx h 4 (p.at 4) a).isSome=xy then xk 4 else if(Yx h 3 (p.at 3) a).isSome=xy then xk 3 else if(Yx h 2 (p.at 2) a).isSome=xy then xk 2 else if(Yx h 1 (p.at 1) a).isSome=xy then xk 1 else xw:=by
 rw[d.pm,Ks,Ks,Ks,Ks];rfl
def Found.points(r:Found h s p)(z:ZI (Zv h)=xy)(y:XD h=xk p)(w:Int):YO s w 1 2=Xz h p w 1 2/\YO s w 3 4=Xz h p w 3 4/\YO s w 1 4=(Xz h p w 1 2||Xz h p w 3 4):=by
 unfold YO Xz;by_cases d:w=0;simp[d];by_cases q:(adr w).2=0;case neg=>grind
 simp only[d,q,Zii,ZgQ,Zgl,ZhD];rw[r.pm_at];generalize (adr w).1=a;have o:=λk j u t x=>Em (k:=k) (j:=j) z y u t x (a:=a);have G:=o 4 3 Z0 Z0 Z0;have F:=o 4 2 Z0 Z0 Z0;have D:=o 4 1 Z0 Z0 Z0;have C:=o 3 2 Z0 Z0 Z0;have B:=o 3 1 Z0 Z0 Z0;have A:=o 2 1 Z0 Z0 Z0;clear o;generalize (Yx h 1 (p.at 1) a).isSome=f at*;generalize (Yx h 2 (p.at 2) a).isSome=g at*;generalize (Yx h 3 (p.at 3) a).isSome=l at*;generalize (Yx h 4 (p.at 4) a).isSome=n at*;cases f<;>cases g<;>cases l<;>cases n<;>simp_all
end
end Vm
namespace Vm
open Go Go.Proofs
def XE(l:List Ob):List Int:=(l.filter (·.gone)).map (·.target)
def Z5v{α:Type}{l:List (Int×α)}{k:Int}{x:α}(h:Y1 l k=xw):P (XO l k x)=P l+1:=by
 grind [Y1,Option.map_eq_none_iff,List.findIdx?_eq_none_iff,List.find?_eq_none,XO]
def LT{pm:List (Int×Int)}:∀ {l:List Ob} {m:List (Int×Bool)} {K:List Int},K.Nodup->(∀a,Y1 m a=if a∈K then xk xy else xw)->P m=P K->
  match Wl pm l m with
  |some w=>(∀t∈XE l,(Y1 pm t).getD 0=1)/\(K++XE l).Nodup/\P w=P (K++XE l)/\∀a,Y1 w a=if a∈K++XE l then xk xy else xw
  |none=>¬((∀t∈XE l,(Y1 pm t).getD 0=1)/\(K++XE l).Nodup)
 | [],m,K,q,f,u=>by simp only[Wl,XE,List.filter_nil,Zf9,Zfp];exact⟨Z1,q,u,f⟩
 |o::l,m,K,q,f,u=>by
  rw[Wl];cases A:o.gone with
  |false=>
   rw[if_neg Z1];have:XE (o::l)=XE l:=by simp[XE,A]
   rw[this];exact LT q f u
  |true=>
   rw[if_pos rfl];have d:XE (o::l)=o.target::XE l:=by simp[XE,A]
   rw[d];by_cases k:(Y1 pm o.target).getD 0=1;by_cases n:o.target∈K;rw[if_neg (by rw[f,if_pos n];simp)];rintro⟨_,D⟩;exact(Zgp.1 D).2.2 _ n _ (Zey ..) rfl;have j:Y1 m o.target=xw:=by rw[f,if_neg n]
   rw[if_pos ⟨k,by rw[j];rfl⟩];have g:=LT (pm:=pm) (l:=l) (m:=XO m o.target xy) (K:=K++[o.target]) (by
     rw[Zgp];refine⟨q,Z1,λa C b z=> ?_⟩;simp at z;subst z;intro e;subst e;exact n C) (λa=>by
     rw[QL,f];by_cases e:o.target=a;simp[e];have B:¬a=o.target:=λx=>e x.symm;simp[e,B]) (by rw[Z5v j,u];simp)
   rw[ZeH,ZgX]at g;cases r:Wl pm l (XO m o.target xy)with
   |none=>
    rw[r]at g;rintro⟨y,F⟩;exact g ⟨λt d=>y t (Zeu _ d),F⟩
   |some w=>
    rw[r]at g;refine⟨λt d=> ?_,g.2⟩;obtain rfl|d:=Zec.1 d;exact k;exact g.1 t d
   rw[if_neg (λr=>k r.1)];rintro⟨y,_⟩;exact k (y _ (Zey ..))
def NQ{l:List Ob}{a:Int}:X2 l a=(XE l).count a:=by
 unfold X2 XE;induction l with
 |nil=>rfl
 |cons o l d=>
  grind
def Z4p{T S:List Int}(g:S.Nodup)(f:T⊆S):(T.Nodup/\P T=P S)↔ ∀a∈S,T.count a=1:=by
 constructor;rintro⟨d,q⟩ a l;rw[d.count];by_cases n:a∈T;grind;have k:T⊆S.erase a:=λx j=>(g.mem_erase_iff).2 ⟨λe=>n (e▸j),f j⟩;have o:=d.length_le_of_subset k;grind;intro h;have d:T.Nodup:=List.nodup_iff_count.2 λa=>by
  grind
 refine⟨d,Nat.le_antisymm (d.length_le_of_subset f) (g.length_le_of_subset λa l=> ?_)⟩;grind
section
variable {h:Hp}{s:Ck}{p:Pts}
def Found.copied(f:Found h s p)(C:ZI (Zv h)=xy)(y:XD h=xk p):Rz s=(!h.cycle||p.low.all (Rg h p)):=by
 have G:=BI y (k:=1) Z0;have F:(p.low.map λo=>X1 h 1 o.at_).Nodup:=by
  have:=Tiles.starts C (k:=1) Z0 G;rw[List.nodup_iff_pairwise_ne,ZhA];exact this
 have n:∀t∈XE s.o3++XE s.o4,t∈p.low.map λo=>X1 h 1 o.at_:=by
  intro t d;have:∃k,(3<=k/\k<=4)/\t∈XE (p.at k):=by
   obtain d|d:=Zel.1 d;exact⟨3,Z0,by rw[f.o3]at d;exact d⟩;exact⟨4,Z0,by rw[f.o4]at d;exact d⟩
  obtain⟨k,x,d⟩:=this;simp only[XE,Ze4,Zg8]at d;obtain⟨o,⟨r,I⟩,rfl⟩:=d;obtain⟨q,z,B,_⟩:=Z4T y x r I;exact Ze4.2 ⟨q,z,B⟩
 have L:∀t∈XE s.o3++XE s.o4,(Y1 s.pm t).getD 0=1:=by
  intro t d;obtain⟨q,z,B⟩:=Ze4.1 (n t d);have u:(Yx h 1 (p.at 1) t).isSome=xy:=by
   unfold Yx;rw[List.find?_isSome];exact⟨q,z,ZcN⟩
  have o:=λk x J=>Em (k:=1) (j:=k) C y Z0 x J u;rw[f.pm_at,o 4 Z0 Z0,o 3 Z0 Z0,o 2 Z0 Z0,u];rfl
 unfold Rz;rw[f.hp];cases Q:h.cycle;rfl;simp only[ZgD,Zgl];have key:=Z4p F (T:=XE s.o3++XE s.o4) n;have g:p.low.all (Rg h p)=xy↔ ∀a∈(p.low.map λo=>X1 h 1 o.at_),(XE s.o3++XE s.o4).count a=1:=by
  rw[ZdZ];constructor;intro A a H;obtain⟨o,r,rfl⟩:=Ze4.1 H;have:=A o r;simp only[Rg,Ze9,UB,NQ]at this;rw[List.count_append,f.o3,f.o4];exact this;intro A o r;have:=A _ (Ze4.2 ⟨o,r,rfl⟩);rw[List.count_append,f.o3,f.o4]at this;simp_all[Rg,Ze9,UB,NQ]
 rw[Zem]at key;have w:=LT (pm:=s.pm) (l:=s.o3) (m:=[]) (K:=[]) Z1 (by simp[Y1]) rfl;simp only[ZeR]at w;rw[ZhU,g,<-key];cases u:Wl s.pm s.o3 []with
 |none=>
  grind
 |some m=>
  rw[u]at w;obtain⟨S,M,N,O⟩:=w;simp only[Ze0];have c2:=LT (pm:=s.pm) (l:=s.o4) (m:=m) (K:=XE s.o3) M O N;cases D:Wl s.pm s.o4 m with
  |none=>
   simp_all
  |some R=>
   rw[D]at c2;obtain⟨U,W,P,X⟩:=c2;simp only[Ze9,P,f.o1];simp_all
end
end Vm
namespace Vm
open Go Go.Proofs
def NB:∀ {l:List Int} {a:Int} {i:Nat},XQ l xy a i=xy->∀w∈l,w=0
 | [],_,_,_,w,d=>ZdB
 |x::l,a,i,h,w,d=>by
  simp only[XQ,ZdS,ZgD,Zgl,Ze9]at h;obtain rfl|d:=Zec.1 d;exact h.1.1;exact NB h.2 w d
def KR{s:Ck}{k:Int}{q:Int->Int->Bool}:WP s k q=xy↔ ∀o∈s.obs k,o.gone=xh->∀j,j<o.ptrs.toNat->q ((o.at_.toNat+1+j:Nat):Int) (VW (Zx s.h k) (o.at_.toNat+1+j))=xy:=by
 unfold WP obQ;grind
def Z5t{h:Hp}{p:Pts}(u:XD h=xk p){k:Int}(r:1<=k/\k<=4):Wx h p k=xy↔ ∀o∈p.at k,o.gone=xh->∀j,j<o.ptrs.toNat->Uc h p k (o.at_.toNat+1+j)=xy:=by
 unfold Wx ym;rw[ZdZ];constructor;simp_all;intro y o t;rw[ZdZ];intro j l;have l:=Zg5.1 l;cases q:o.gone;simp_all;have d:=((BI u r).stands o t).1;have w:=YM.1 d.shape;have f:=d.slots;rw[q]at f;have x:=NB f;have g:=d.fits;have n:=d.nat;have a:o.at_.toNat+1+j< P (Zx h k):=Z0;have z:(Zx h k)[o.at_.toNat+1+j]?=xk 0:=by
  rw[ZdO a];refine ZeY xk (x _ ?_);rw[ZgW];refine⟨j,?_⟩;rw[Zev,if_pos Z0,Zep,ZdO a]
 grind [Xz,Uc]
section
variable {h:Hp}{s:Ck}{p:Pts}
def Found.ptrs(u:Found h s p)(I:ZI (Zv h)=xy)(G:XD h=xk p):(Qh s&&(Qk s&&RW s))=(h.roots.all (λw=>Xz h p w 1 2)&&Wx h p 1&&Wx h p 2&&Wx h p 3&&Wx h p 4):=by
 have g:=u.points I G;have t:s.h.roots.all (λw=>YO s w 1 2)=h.roots.all (λw=>Xz h p w 1 2):=by
  rw[u.hp];congr 1;funext w;exact(g w).1
 have l:=λk=>u.obs (k:=k);have r:∀(k:Int) (q:Nat->Int->Bool) (F:1<=k/\k<=4),(∀a,Uc h p k a=q a (VW (Zx h k) a))->(Wx h p k=xy↔ ∀o∈p.at k,o.gone=xh->∀j,j<o.ptrs.toNat->q (o.at_.toNat+1+j) (VW (Zx h k) (o.at_.toNat+1+j))=xy):=by
  intro k q F H;rw[Z5t G F];simp only[H]
 have p2:=r 2 (λ_ w=>Xz h p w 1 2) Z0 (λa=>by simp[Uc,VW]);have p3:=r 3 (λ_ w=>Xz h p w 3 4) Z0 (λa=>by simp[Uc,VW]);have p4:=r 4 (λ_ w=>Xz h p w 3 4) Z0 (λa=>by simp[Uc,VW]);have J:=r 1 (λa w=>if h.scan<=a then Xz h p w 1 2||Xz h p w 3 4 else Xz h p w 1 2) Z0 (λa=>by simp[Uc,VW]);have L:WP s 2 (λ_ w=>YO s w 1 2)=xy↔Wx h p 2=xy:=by
  rw[p2,KR,l,u.hp];simp only[(g _).1]
 have M:WP s 3 (λ_ w=>YO s w 3 4)=xy↔Wx h p 3=xy:=by
  rw[p3,KR,l,u.hp];simp only[(g _).2.1]
 have N:WP s 4 (λ_ w=>YO s w 3 4)=xy↔Wx h p 4=xy:=by
  rw[p4,KR,l,u.hp];simp only[(g _).2.1]
 have K:(WP s 1 (λa w=>decide (s.h.scan<=a)||YO s w 1 2)=xy/\WP s 1 (λa w=>decide (a<s.h.scan)||YO s w 1 4)=xy)↔Wx h p 1=xy:=by
  rw[J,KR,KR,l,u.hp];simp only[(g _).1,(g _).2.2];constructor;rintro⟨C,D⟩ o A y j z;have C:=C o A y j z;have D:=D o A y j z;generalize o.at_.toNat+1+j=n at*;by_cases x:h.scan<=(n:Int);have:¬(n:Int)<h.scan:=Z0;simpa[x,this]using D;simpa[x]using C;intro B;refine⟨λo A y j z=> ?_,λo A y j z=> ?_⟩;have B:=B o A y j z;generalize o.at_.toNat+1+j=n at*;by_cases x:h.scan<=(n:Int);simp[x];simpa[x]using B;have B:=B o A y j z;generalize o.at_.toNat+1+j=n at*;by_cases x:h.scan<=(n:Int);have:¬(n:Int)<h.scan:=Z0;simpa[x,this]using B;have:(n:Int)<h.scan:=Z0;simp[this]
 unfold Qh Qk RW;rw[t,ZhU];simp only[ZdS];rw[L,M,N,<-K];constructor;rintro⟨⟨a,b,c⟩,d,e,f⟩;exact⟨⟨⟨⟨a,c,d⟩,b⟩,e⟩,f⟩;rintro⟨⟨⟨⟨a,c,d⟩,b⟩,e⟩,f⟩;exact⟨⟨a,b,c⟩,d,e,f⟩
def Found.roomy(a:Found h s p):Qf s=decide ((P h.low:Int)+P h.high+Wp p<=h.cap):=by
 unfold Qf Sw Wp;rw[a.hp,a.o3,a.o4]
end
def Z4a(h:Hp):Tr h=(SE (Xh h)&&Qd (Xh h)):=by
 grind [Tr,SE,Qd,Xh,ZI,Zv]
def AL(h:Hp):(Vt h).isSome=YS h/\∀s,Vt h=xk s->∃p,XD h=xk p/\Found h s p:=by
 have k:Vt h=(if SE (Xh h)=xy then if Qd (Xh h)=xy then if(XY (Xh h)).1=xy then
   if Rz (XY (Xh h)).2=xy then if Qh (XY (Xh h)).2=xy then if Qk (XY (Xh h)).2=xy then if RW (XY (Xh h)).2=xy then if Qf (XY (Xh h)).2=xy then
    xk (XY (Xh h)).2 else xw else xw else xw else xw else xw else xw else xw else xw):=rfl
 have t:=Z4a h;unfold YS;rw[t];cases a:SE (Xh h);simp_all;have g:ZI (Zv h)=xy:=by
  unfold SE at a;simp only[ZdS]at a;exact a.1
 cases j:Qd (Xh h);simp_all;have l:=Z8e g;cases f:XD h with
 |none=>
  simp_all
 |some p=>
  rw[f]at l;obtain⟨r,d⟩:=l;rw[a,j,r]at k;simp only[ZeA]at k;generalize (XY (Xh h)).2=s at*;have n:=d.copied g f;have o:=d.ptrs g f;have q:=d.roomy;have u:Sm h p=(Rz s&&((Qh s&&(Qk s&&RW s))&&Qf s)):=by
   rw[n,o,q];unfold Sm;simp only[Bool.and_assoc]
  grind
def Z3f(h:Hp)(k:Int):Kw h k=Uu h k:=by
 obtain⟨d,g⟩:=AL h;unfold Kw Uu;cases f:Vt h with
 |none=>
  simp_all
 |some s=>
  rw[f]at d;have a:YS h=xy:=d.symm;obtain⟨p,l,j⟩:=g s f;simp only[a,true_and,l,Zei,j.obs]
def Z3j(h:Hp):((qP h:Nat):Int)=Jq h:=by
 obtain⟨d,j⟩:=AL h;unfold qP Jq;cases g:Vt h with
 |none=>
  simp_all
 |some s=>
  rw[g]at d;have a:YS h=xy:=d.symm;obtain⟨p,k,f⟩:=j s g;simp only[a,k,Zei,ZeA];unfold Sw Wp;rw[f.o3,f.o4]
end Vm
end
section
namespace Vm
open Go Go.Proofs Go.RowKit
section
def DG{α:Type}(F:Fence)(n:Nat)(P:Z4)(g:Nat)(lb:Za)(d:α->Array Value)(k:World->World->Prop)(S:List α->World->Prop)(o:List PanicEntry->List α->World->Prop)(N:Nat)(bt:Option Nat)(j:World->Prop)(w:Z3):Prop:=
 ∀(l:Nat) (J:List α->World->Prop) (W:Z3),Below (U (R w)) w W->(∀pre W,J pre W->j W)->(∀s A B row,J s A->A.grownBy B row->(∀r,row=xk r->xk r=bt)->J s B)->
  (∀pre x f,J pre f->xq pre<N->YieldAt F (n-1) P l (d x) f λe a=>e=.returned (.bool xy)/\J (pre++[x]) a/\k f a)->
  J [] W->
  CallsIn F n P g (#[.func (.yield l) #[] #[]]++lb) W λe a=>(∃v h,e=.returned v/\S h a/\J h a)\/(∃chain pre,e=.panicked chain/\o chain pre a/\J pre a)
def Z5n{α:Type}(B:Nat)(d:World->World->Prop)(I:List α->World->Prop)(xs:List α)(W:Z3):Exit->Act->World->Prop
 |.normal,_,a=>KeepsFrom B W a/\d W a/\I xs a
 |_,_,_=>False
def OwnP{β:Type}(bt:Option Nat)(B:Nat)(I:β->World->Prop):Prop:=
 ∀s X Y row,I s X->X.grownBy Y row->(∀r,row=xk r->xk r=bt\/(B<=r/\∃o:Obj,X.heap[r]?=xk o/\o.isCells=xh))->I s Y
def OwnP.putObj{β:Type}{bt:Option Nat}{B:Nat}{I:β->World->Prop}(h:OwnP bt B I){s:β}{W:Z3}{l:Nat}{o:Obj}(a:Obj)(d:I s W)(f:B<=l)(g:W.heap[l]?=xk o)(j:o.isCells=xh):I s (W.putObj l a):=
 h s W _ (xk l) d (Zhb W l a) (λr e=>ZcO)
def OwnP.alloc{β:Type}{bt:Option Nat}{B:Nat}{I:β->World->Prop}(h:OwnP bt B I){s:β}{W:Z3}(o:Obj)(a:I s W):I s (W.alloc o):=
 h s W _ xw a (Zfi W o xw) (λr e=>by cases e)
variable {F:Fence}{n:Nat}{P:Z4}
def Z8o{α:Type}{g:Operand}{ps:Array Tmp}{assign body:Code}{Q:Zi}{a:Act}{w:Z3}
  (c8:F.round=xw) (h1:1<=n) {gf:Nat} {lb:Za} (hg:a.eval g=.func (.func gf) #[] lb) (d0:F.fn gf) (eg:∀args w,(callFunc gf args).run P w=.ok (.enter gf args) w)
  {f:α->Array Value} {M:World->World->Prop} {S:List α->World->Prop} {Pp:List PanicEntry->List α->World->Prop} {N:Nat} {bt:Option Nat} {Ex:World->Prop} {w0:Z3} (a7:DG F (n-1) P gf lb f M S Pp N bt Ex w0)
  (b4:∀r,bt=xk r->r<xz (xj w))
  (T:∀ {A B C:Z3},M A B->M B C->M A C) (a0:∀(W:Z3) (l:Nat) (o o':Obj),xz (xj w)<=l->W.heap[l]?=xk o->o.isCells=xh->o.isWalk=xh->M W (W.putObj l o')) (a1:Below (xz (xj w0)) w0 w) (d5:∀x,(f x).size=ps.size)
  (I:List α->World->Prop) (hI:OwnP bt (xz (xj w)) I) (a9:∀pre W,I pre W->Ex W) (h0:I [] w) (hS:OwnP xw (xz (xj w)) S) (Ax:α->Act->World->Prop) (a8:∀x G,OwnP xw (xz (xj w)) (λ(_:Unit) W=>Ax x G W))
  (q:∀(l:Nat) (pre:List α) (x:α) (W:Z3) (K:ZcJ),I pre W->(∀G W',KeepsFrom (xz (xj w)) W W'->M W W'->I pre W'->Ax x G W'->K G W')->
   assign.wpIn (F.inRound l) (n-1-1) P (Exit.then K (λ_ _ _=>False)) {tmps:=(ps.zip (f x)).foldl (λt (p,v)=>t.setIfInBounds p v) a.tmps,defers:=[]} W)
  (U:∀(l:Nat) (pre:List α) (x:α) (G:Act) (W:Z3),I pre W->Ax x G W->xq pre<N->body.wpIn (F.inRound l) (n-1-1) P (Z5n (xz (xj w)) M I (pre++[x]) W) G W)
  (X:∀(D:Nat) (xs:List α) (W:Z3),xz (xj w)<=D->S xs W->I xs W->W.heap[D]?=xk (.deferred (xk []))->Q .normal {a with defers:= {target:=.collected D,args:=#[]}::a.defers} W)
  (L:∀(D:Nat) (chain:List PanicEntry) (pre:List α) (W:Z3),xz (xj w)<=D->Pp chain pre W->I pre W->W.heap[D]?=xk (.deferred (xk []))->Q (.panic chain) {a with defers:= {target:=.collected D,args:=#[]}::a.defers} W):
  (Code.rangeFunc g ps assign body).wpIn F n P Q a w:=by
 refine wpIn_rangeFunc λfn b6=> ?_;rw[c8];obtain⟨d,z⟩:∃d:LoopState->Option Code->Loop,d=λst pe=> {state:=st,pending:=pe,fn,tmps:=a.tmps,params:=ps,assign,body,defers:=xz (xj w)}:=⟨_,rfl⟩;obtain⟨H,J⟩:∃H,(w.alloc (.deferred (xk []))).alloc (.loop (d .ready xw))=H:=⟨_,rfl⟩;have b1:H.heap[xz (xj w)+1]?=xk (.loop (d .ready xw)):=by
  have:=World.alloc_heap_new (w.alloc (.deferred (xk []))) (.loop (d .ready xw));rw[World.size_alloc]at this;rw[<-J];exact this
 have b0:H.heap[xz (xj w)]?=xk (.deferred (xk [])):=by
  rw[<-J];exact(ZdY _ _ _ Z1).trans (World.alloc_heap_new w _)
 have b3:Below (xz (xj w0)) w0 H:=by
  rw[<-J];exact a1.trans ((((Zeh _ w).alloc (ZdU _) _).alloc Z1 _).mono a1.size)
 refine⟨xz (xj w)+1,[{target:=.collected (xz (xj w)),args:=#[]}],H,{target:=.fn (.func gf) lb,args:=#[.func (.yield (xz (xj w)+1)) #[] #[]]},H,gf,
  #[.func (.yield (xz (xj w)+1)) #[] #[]]++lb,H,?_,?_,?_,?_,λ_=>h1,?_⟩
 simp_all[run_enterLoop_outer]
 .simp only[resolve,hg];simp[go_sem]
 simp_all[Target.leads];simp_all[invoke];have R:∀ {A B:Z3} {row:Option Nat} {k:Nat} {o:Obj},A.grownBy B row->(∀r,row=xk r->xk r=bt)->xz (xj w)<=k->A.heap[k]?=xk o->B.heap[k]?=xk o:=by
  intro A B row k o u hr hk ho;refine(u.block k (ZdV.1 ho).1 λe=> ?_).trans ho;have:=b4 k (hr k e.symm).symm;omega
 refine(a7 (xz (xj w)+1) (λpre W=>I pre W/\W.heap[xz (xj w)+1]?=xk (.loop (d .ready xw))/\W.heap[xz (xj w)]?=xk (.deferred (xk []))) H b3 (λpre W h=>a9 pre W h.1)
  (λs A B row hs u hr=>⟨hI s A B row hs.1 u (λr e=>.inl (hr r e)),R u hr Z0 hs.2.1,R u hr (ZdU _) hs.2.2⟩) ?_ ⟨by rw[<-J];exact hI.alloc _ (hI.alloc _ h0),b1,b0⟩).mono ?_
 rintro pre x W ⟨hi,Y,hk⟩ a6;have hy:=run_yield (P:=P) (args:=f x) Y ZcO;rw[z]at hy;refine⟨fn,_,assign,body,hy,roundIn_of_wpIn b6 (q _ pre x W _ hi ?_)⟩;intro G V a4 c1 b8 b2;have y:=a4.same _ _ Z0 Y rfl;have c0:=a4.same _ _ (ZdU _) hk rfl;have c6:xz (xj w)+1<xz (xj V):=(ZdV.1 y).1;refine⟨_,run_beginRound y (by rw[z]),?_⟩;have c5:(V.putObj (xz (xj w)+1) (.loop {d .ready xw with state:=.busy})).heap[xz (xj w)+1]?=xk (.loop {d .ready xw with state:=.busy}):=World.putObj_heap_same c6;have b9:(V.putObj (xz (xj w)+1) (.loop {d .ready xw with state:=.busy})).heap[xz (xj w)]?=xk (.deferred (xk [])):=(Zf1 Z0).trans c0;have c7:M V (V.putObj (xz (xj w)+1) (.loop {d .ready xw with state:=.busy})):=a0 _ _ _ _ Z0 y rfl rfl;refine wpIn_mono (U _ pre x G _ (hI.putObj _ b8 Z0 y rfl) ((a8 x G).putObj (s:=()) _ b2 Z0 y rfl) a6) ?_;rintro e a3 W3 O;cases e with
 |normal=>
  obtain⟨a2,a5,b7⟩:=O;have Z:=a2.same _ _ Z0 c5 rfl;have b5:=a2.same _ _ (ZdU _) b9 rfl;have j:=run_endRound (P:=P) xw Z;refine⟨_,_,j,rfl,⟨hI.putObj _ b7 Z0 Z rfl,?_,(Zf1 Z0).trans b5⟩,T c1 (T (T c7 a5) (a0 _ _ _ _ Z0 Z rfl rfl))⟩;grind [World.putObj_heap_same,Array.getElem?_eq_some_iff]
 |ret=>exact O.elim
 |exit id=>exact O.elim
 |goto t=>exact O.elim
 |panic ch=>exact O.elim
 |outgrown=>exact O.elim
 rintro e W2 (⟨v,xs,rfl,hs,hi,Y,hk⟩|⟨chain,pre,rfl,O,hi,Y,hk⟩);have j:=run_endLoop (P:=P) Y ZcO;rw[z]at j;exact⟨xw,_,j,X _ xs _ (ZdU _) (hS.putObj _ hs Z0 Y rfl) (hI.putObj _ hi Z0 Y rfl) ((Zf1 Z0).trans hk)⟩;exact L _ chain pre _ (ZdU _) O hi hk
end
end Vm
end
section
namespace Vm
open Go
open Go.Proofs
def ID:Fn:=⟨4,[0,2,3,4],
pQ [pR [pV 1 pF],pC [pK 4 44 [.s 0]] [pV 2 (.ext (.s 4) 0),pV 3 (.ext (.s 4) 1)],.reg ⟨[.lt 5 [] (.bin .eql (.s 0) (pU 0))],[([(5,xh)],.bin .eql (.s 3) (pI 0))],[pV 1 (.ite (.s 5) pT (.bin .eql (.s 3) (pI 0)))]⟩] .ret,[(1,.v)]⟩
def Z0e:ZM Sol.prog fresh sig [.fz] [] Try.f135=xk ID:=Z2
end Vm
end
section
namespace Vm
open Go Go.Proofs Go.RowKit
section
section
variable {P:Z4}{w:Z3}
def Z8s{o:Oper}{a:Act}{K:ZcJ}{Q:Zi}(s x:Operand)(t:Z9)
  (H:o.op=.call {callee:=.builtin .append,args:=#[s,x],argTypes:=#[t,t]}) {e:Z9} (L:P.underlying t=xk (.slice e)) (p:Uh P e=xy)
  {B n:Nat} {v y:Z7} {xs:Zl} (J:a.eval s=v) (hx:a.eval x=y) (k:w.ownsRow B e (P.cellsOf e) v n xs) (D:B<=U (R w))
  {Gy:Z5} {l:Zr} (M:Rd w Gy (.sl l) y) (F:Wo (P.cellsOf e) l=xy) (j:n+xq l<=Y5)
  (h:∀g f d,f.ownsRow B e (P.cellsOf e) g (n+xq l) (xs++d)->w.grownBy f v.ownBlock->(g.ownBlock=v.ownBlock\/(w.grownBy f xw/\f.ownsRow (U (R w)) e (P.cellsOf e) g (n+xq l) (xs++d)))->
   (∀(i:Nat) (q:V),(flat l)[i]?=xk q->∃u,d[i]?=xk u/\Rd w Gy q u)->K (a.put o.dst g) f):o.wp P a w K Q:=by
 obtain⟨g,f,d,I,r,z,A,_,C⟩:=ql (ty:=o.type) L p k D M F j;unfold Oper.wp execOp;simp only[H,resolve,invoke,builtin,Zet,ZfH,Zeo,ZhJ,Zeb,Zf9,J,hx,I];exact h g f d r z A C
def Oy{ops:Zo}{rest:List Oper}{o:Oper}{a:Act}{Q:Zi}(q:o.guard=xw)(s x:Operand)(t:Z9)
  (J:o.op=.call {callee:=.builtin .append,args:=#[s,x],argTypes:=#[t,t]}) {e:Z9} (L:P.underlying t=xk (.slice e)) (p:Uh P e=xy)
  {B n:Nat} {v y:Z7} {xs:Zl} (K:a.eval s=v) (hx:a.eval x=y) (k:w.ownsRow B e (P.cellsOf e) v n xs) (F:B<=U (R w))
  {Gy:Z5} {l:Zr} (M:Rd w Gy (.sl l) y) (I:Wo (P.cellsOf e) l=xy) (j:n+xq l<=Y5)
  (h:∀g f d,f.ownsRow B e (P.cellsOf e) g (n+xq l) (xs++d)->w.grownBy f v.ownBlock->(g.ownBlock=v.ownBlock\/(w.grownBy f xw/\f.ownsRow (U (R w)) e (P.cellsOf e) g (n+xq l) (xs++d)))->
   (∀(i:Nat) (r:V),(flat l)[i]?=xk r->∃u,d[i]?=xk u/\Rd w Gy r u)->wpList P ops Q rest (a.put o.dst g) f):wpList P ops Q (o::rest) a w:=
 wpList_plain q λ_ H=>Z8s s x t J L p K hx k F M I j λg f d z A C D=>H _ _ (h g f d z A C D)
end
def YQ(k:Zm)(l:Zc):List Value:=l.map (Value.int k)
def B8{w:Z3}{G:Z5}{k:Zm}{l:Zc}{d:Zl}(h:∀(i:Nat) (g:V),(flat (l.map (V.int k)))[i]?=xk g->∃u,d[i]?=xk u/\Rd w G g u)(n:P d=P l):d=YQ k l:=by
 have f:flat (l.map (V.int k))=l.map (V.int k):=by
  clear h n;induction l with
  |nil=>rfl
  |cons a l q=>rw[Zeb,SN,q];rfl
 apply Zgo;intro i;unfold YQ;by_cases j:i<P l;obtain⟨u,p,o⟩:=h i (.int k l[i]) (by rw[f,Zed,ZdO j];rfl);rw[p,Zed,ZdO j];cases o;rfl;rw[Zf2 Z0,Zf2 ZcP]
def Yn{w:Z3}{B:Nat}{e:Z9}{z n:Nat}{v:Z7}{xs:Zl}(h:w.ownsRow B e z v n xs):∃a c,v=.slice a n c:=by
 obtain⟨rfl,rfl⟩|⟨g,cap,d,rfl,_⟩:=h.2;exact⟨_,_,rfl⟩;exact⟨_,_,rfl⟩
theorem WJ{w w':Z3}{B:Nat}{e:Z9}{z n:Nat}{v:Z7}{xs:Zl}(h:w.ownsRow B e z v n xs)(l:∀b,v.ownBlock=xk b->w'.heap[b]?=w.heap[b]?):w'.ownsRow B e z v n xs:=by
 refine⟨h.1,?_⟩;obtain⟨f,d⟩|⟨g,cap,a,rfl,d,j,k⟩:=h.2;exact .inl ⟨f,d⟩;exact .inr ⟨g,cap,a,rfl,d,by rw[l g rfl];exact j,k⟩
def Yi{w:Z3}{b o:Nat}{cs:Za}{T:Z9}(h:w.heap[b]?=xk (.cells cs T (0,0))):w.frozen? ⟨b,o,xw⟩=xh:=by
 simp[World.frozen?,h]
def JN:Uh Sol.prog 24=xy:=Z2
theorem Rx:Sol.prog.cellsOf 24=1:=Z2
def YC{w:Z3}{b:Nat}{o:Obj}(h:w.heap[b]?=xk o):b<U (R w):=(ZdV.1 h).1
def yD{w:Z3}{B B':Nat}{e:Z9}{z n:Nat}{v:Z7}{xs:Zl}(h:w.ownsRow B e z v n xs)(j:B'<=B):w.ownsRow B' e z v n xs:=by
 refine⟨h.1,?_⟩;obtain d|⟨g,cap,a,l,k,f⟩:=h.2;exact .inl d;exact .inr ⟨g,cap,a,l,Zes j k,f⟩
def Bg(k:Zm)(l:Zc)(i:Nat)(x:Int):YQ k (l.set i x)=(YQ k l).set i (.int k x):=by unfold YQ;rw[ZgA]
def Z2T:(Sol.prog.info? 24).map (λi=>(i.zero,i.size,i.bytes))=xk (xk (.int .u64 0),1,8):=Z2
section
variable {w:Z3}{B:Nat}{G:Z5}
def Fl{k:Zm}(l:Zc):flat (l.map (V.int k))=l.map (V.int k):=by
 induction l with
 |nil=>rfl
 |cons a l d=>rw[Zeb,SN,d];rfl
def yE{k:Zm}{e:Z9}{v:Z7}{l:Zc}(h:w.ownsRow B e 1 v (P l) (YQ k l))(r:∀c,B<=c->c<U (R w)->G c):Rd w G (.sl (l.map (V.int k))) v:=by
 obtain⟨rfl,q⟩|⟨g,cap,p,rfl,t,u,o,f,_⟩:=h.2;have:l=[]:=Zfx.1 q;subst this;exact .nil _ _ Zdu;have:=Rd.sl (w:=w) (G:=G) (l.map (V.int k)) g 0 cap 1 (λi=>(YQ k l).getD i undef) (by simpa using o) f (r g t (YC u)) (λx y=>by
  obtain⟨n,_,rfl⟩:=Ze4.1 y;exact⟨rfl,λc d=>by simp[V.cells]at d;subst d;rfl⟩) (λi j=>by
   have a:i<P l:=ZdM;rw[ZeC,h.cellAt i Z0];simp[YQ,a]) (λi c d=>by
   rw[Fl]at d;obtain⟨j,rfl⟩:=ZdQ.1 d;have a:i<P l:=ZdM;simp[YQ,a];exact .int _ _)
 simpa using this
end
def Z4R(w:Z3)(b k:Nat)(a:k=1\/k=2\/k=3\/k=4):
  Calls Sol.prog 92 #[.pointer (xk ⟨b,0,xw⟩),.int .i64 k] w λe d=>e=.returned (.pointer (xk ⟨b,4+k,xw⟩))/\Below (U (R w)) w d:=by
 go_enter Sol.func92,Try.ntmps92;obtain rfl|rfl|rfl|rfl:=a;all_goals
  go_wp2;go_region;go_wp2;go_ret
  exact⟨rfl,((Zeh _ _).alloc (ZdU _) _).drew⟩
end
end Vm
end
