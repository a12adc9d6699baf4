import Derived.ProofKit
import Derived.OpenShut
import Derived.WalkSpells
import Derived.WalkLawsBesides
import Derived.StillTailTactics
import Derived.Deep.RegionHeld3
import Derived.Deep.AppendLies
import Derived.Deep.Onto
import Derived.Deep.OwnRows
import Derived.Lib.Hide
import Derived.Lib.AppendZerosOnto
import Derived.Laws.CopyOwn
import Derived.Conc.SmallLaws
import Derived.Test.YtffknkhabklijaaSForwardAll4
set_option linter.unusedSimpArgs false
set_option linter.unusedVariables false
set_option linter.defProp false
open Option renaming some→xk,none→xw
open Bool renaming true→xy,false→xh
open List renaming length→P
open Array renaming size→U
open Go.World renaming heap→R
open List renaming length→xq
open Array renaming size→xz
open Go.World renaming heap→xj
set_option maxHeartbeats 8000000
set_option maxRecDepth 100000
theorem ZcB{p:Prop}(h:p:=by simp[ZL]):p:=h
theorem ZcH{p:Prop}(h:p:=by simp[X1]):p:=h
theorem Zci{p:Prop}(h:p:=by simp[Y5];omega):p:=h
theorem Zck{p:Prop}(h:p:=by unfold ZI at d;omega):p:=h
theorem Zcy{p:Prop}(h:p:=by simp[ZA]):p:=h
theorem Zc5{p:Prop}(h:p:=by rw[cell_of_row _ _ _ _ _ _ d];rfl):p:=h
theorem Zc2{p:Prop}(h:p:=by show U (R w1)<U (R u);omega):p:=h
theorem Zcx{p:Prop}(h:p:=by simp[results,Try.results33,go_sem,y,YC]):p:=h
def Zei:=@List.append_nil
def Ze5:=@Int.tmod_eq_emod_of_nonneg
def Zg8:=@Int.tdiv_eq_ediv_of_nonneg
def Zg7:=@Int.fdiv_eq_ediv_of_nonneg
def ZdK:=@List.take_add_one
def ZgG:=@Int.emod_nonneg
def Zgc:=@Int.emod_lt_of_pos
def ZgL:=@List.set_append_right
def ZdG:=@List.drop_eq_getElem_cons
def ZdB:=@List.append_assoc
def Zfq:=@List.map_set
def ZeO:=@List.take_append_drop
def ZgH:=@List.all_append
def Zem:=@Bool.true_eq_false
def Zev:=@List.length_eq_zero_iff
def Zdi:=@Go.RowKit.Below.heap_setCell
def ZcX:=@Go.Lib.hid
def ZdU:=@Go.bodyPost_ret
def ZgU:=@Nat.mul_one
def ZfH:=@List.take_left
def Zgi:=@Array.ext
def Zee:=@Go.World.cell?_alloc_lt
def Zgo:=@not_true_eq_false
def Zg2:=@List.length_pos_iff
def Zfk:=@List.getElem?_eq_none_iff
section
namespace Vm
open Go
open Go.Proofs
def sig(f:Zm):Option (List OT):=
 if f=102 then xk [.fz,.mem [.own 97],.mem [.own 3]]else
 if f=50 then xk [.fz,.mem [.fz,.fz]]else
 if f=80 then xk [.fz,.own 97]else
 if f=47 then xk [.fz,.own 97]else
 if f=121 then xk [.mem [.fz,.fz,.fz,.fz,.fz,.fz,.fz,.fz,.fz,.fz,.fz,.fz,.fz,.fz,.fz,.fz,.fz,.fz,.fz,.fz,.fz,.own 84,.own 115],.fz,.fz]else
 if f=105 then xk [.mem [.fz,.fz,.fz,.fz,.fz,.fz,.fz,.fz,.fz,.fz,.fz,.fz,.fz,.fz,.fz,.fz,.fz,.fz,.fz,.fz,.fz,.own 84,.own 115]]else
 if f=1000101 then xk [.mem [.fz,.fz,.fz,.fz,.fz,.fz,.fz,.fz,.fz,.fz,.fz,.fz,.fz,.fz,.fz,.fz,.fz,.fz,.fz,.fz,.fz,.own 84,.own 115]]else
 xw
@[simp]def pI(n:Int):E:=.c (.int .i64 n)
@[simp]def pU(n:Int):E:=.c (.int .u64 n)
@[simp]def pF:E:=.c (.bool xh)
@[simp]def pT:E:=.c (.bool xy)
@[simp]def pN:E:=.c (.sl [])
@[simp]def pG(e:E):Nat->Nat->List E
 |_,0=>[]
 |i,n+1=>.fld e i::pG e (i+1) n
@[simp]def pS(a n:Nat):OV:=.m (pG (.sz (.s a) n) 0 n)
@[simp]def pM(e:E)(n:Nat):OV:=.m (pG e 0 n)
@[simp]def pY:E:=.ag [pU 0,pI 0,pI 0,pF,pI 0,pN,pN,pN,pN,pN]
@[simp]def pZ:OV:=.m [pU 0,pI 0,pI 0,pF,pI 0,pN,pN,pN,pN,pN]
@[simp]def pR(l:List (Nat×OV)):Stm:=.reg ⟨[],[],l⟩
@[simp]def pC(e:List EF)(l:List (Nat×OV)):Stm:=.reg ⟨e,[],l⟩
@[simp]def pV(t:Nat)(e:E):Nat×OV:=(t,.v e)
@[simp]def pK(t f:Nat)(l:List E):EF:=.call t [] (.id f) xh xh l
@[simp]def pQ:List Stm->Stm->Stm
 | [],z=>z
 |a::l,z=>.seq a (pQ l z)
def fresh(f:Zm):Bool:=f==81||f==117||f==119
def follows:Sol.prog.follows .mixedOrders=xy:=Z2
section
def qB(x:Option V)(A B:Prop):Prop:=
 match x with
 |some (.bool xy)=>A
 |some (.bool xh)=>B
 |_=>False
@[simp]theorem Z8W(b:Bool)(A B:Prop):qB (xk (.bool b)) A B↔if b=xy then A else B:=by cases b<;>simp[qB]
def Xp{α:Type}(x:Option α)(K:α->Prop):Prop:=
 match x with
 |some x=>K x
 |none=>False
@[simp]theorem Zay{α:Type}(x:α)(K:α->Prop):Xp (xk x) K↔K x:=ZeA
@[simp]theorem Zax{α:Type}(K:α->Prop):Xp xw K↔False:=ZeA
@[simp]theorem Zaw{α β:Type}(f:α->β)(x:Option α)(K:β->Prop):Xp (x.map f) K↔Xp x (λy=>K (f y)):=by cases x<;>rfl
@[simp]theorem Zau{α β:Type}(f:α->Option β)(x:Option α)(K:β->Prop):Xp (x.bind f) K↔Xp x (λy=>Xp (f y) K):=by cases x<;>rfl
@[simp]theorem Zav{α:Type}(p:Prop) [Decidable p](x y:Option α)(K:α->Prop):Xp (if p then x else y) K↔if p then Xp x K else Xp y K:=by split<;>rfl
def SZ(P:Z4) [Lg P](f:Zm)(fr fl:Bool)(xs:Zp)(K:V->Prop):Prop:=∃r,VC P f fr xs r/\(fl=xy->Wh r=xk r)/\K r
def Zy{P:Z4} [Lg P]{f:Zm}{fr fl:Bool}{xs:Zp}{K:V->Prop}{r:V}(h:VC P f fr xs r)(g:fl=xy->Wh r=xk r)(d:K r):SZ P f fr fl xs K:=⟨r,h,g,d⟩
def L9(P:Z4) [Lg P](f:Zm)(ks:List OT)(xs:Zp)(K:V->Prop):Prop:=∃R,V1 P f ks xs R/\K R
def VE{P:Z4} [Lg P]{f:Zm}{ks:List OT}{xs:Zp}{K:V->Prop}{R:V}(h:V1 P f ks xs R)(d:K R):L9 P f ks xs K:=⟨R,h,d⟩
def kS(P:Z4) [Lg P](b:Stm)(N:St->Prop)(X:Nat->St->Prop)(R:St->Prop)(s:St):Prop:=Yj P b s N X R
def xB(id:Nat)(N:St->Prop)(X:Nat->St->Prop)(i:Nat)(s:St):Prop:=if i=id then N s else X i s
def kR(d:List (ZC×E))(outs:List (Nat×OV))(K:St->Prop)(t:St):Prop:=S6 t d/\VA outs t t K
def kO(l:List (Nat×OV))(t u:St)(i:Nat)(K:St->Prop)(x:SV):Prop:=VA l t (YA u i x) K
def kL(P:Z4) [Lg P](l:List EF)(s:St)(i:Nat)(K:St->Prop)(x:V):Prop:=YL P l (YA s i (.v x)) K
def kA(P:Z4) [Lg P](f:Zm)(fr fl:Bool)(K:V->Prop)(xs:Zp):Prop:=SZ P f fr fl xs K
def JI(P:Z4) [Lg P](fr fl:Bool)(K:V->Prop)(xs:Zp)(v:V):Prop:=Xp (Jh v) λn=>SZ P n.1 fr fl (xs++n.2) K
def jx(P:Z4) [Lg P](x:Option V)(fr fl:Bool)(K:V->Prop)(xs:Zp):Prop:=Xp x (JI P fr fl K xs)
def jy(P:Z4) [Lg P](f:Option FuncId)(ks:List OT)(K:V->Prop)(xs:Zp):Prop:=Xp f λn=>L9 P n ks xs K
def kW(P:Z4) [Lg P](l:List EF)(s:St)(i:Nat)(K:St->Prop)(d:Zp):Prop:=if d=[]then YL P l s K else YL P l (YA s i (.v (.tup (.bool xh::d)))) K
def kT(_:V):Prop:=True
section
variable {P:Z4}[Lg P]{N R:St->Prop}{X:Nat->St->Prop}{K:St->Prop}{s t u:St}
@[simp]theorem Zae(b:Stm):kS P b N X R s↔Yj P b s N X R:=ZeA
@[simp]theorem ZbP(id:Nat):xB id N X id s↔N s:=by simp[xB]
def QZ(id i:Nat):xB id N X i s↔if i=id then N s else X i s:=ZeA
@[simp]theorem ZbO{id i:Nat}(h:i≠id):xB id N X i s↔X i s:=by simp[xB,h]
@[simp]theorem Zad(d:List (ZC×E))(outs:List (Nat×OV)):kR d outs K t↔S6 t d/\VA outs t t K:=ZeA
@[simp]theorem Zac(l:List (Nat×OV))(i:Nat)(x:SV):kO l t u i K x↔VA l t (YA u i x) K:=ZeA
@[simp]theorem Zab(l:List EF)(i:Nat)(x:V):kL P l s i K x↔YL P l (YA s i (.v x)) K:=ZeA
@[simp]theorem Zaa(f:Zm)(fr fl:Bool)(K:V->Prop)(xs:Zp):kA P f fr fl K xs↔SZ P f fr fl xs K:=ZeA
@[simp]theorem Za8(v:V)(fr fl:Bool)(K:V->Prop)(xs:Zp):jx P (xk v) fr fl K xs↔JI P fr fl K xs v:=ZeA
@[simp]theorem Za7(f:Zm)(cs:Zp)(fr fl:Bool)(K:V->Prop)(xs:Zp):JI P fr fl K xs (.clo f cs)↔SZ P f fr fl (xs++cs) K:=by simp[JI,Jh]
@[simp]theorem Za9(f:Zm)(ks:List OT)(K:V->Prop)(xs:Zp):jy P (xk f) ks K xs↔L9 P f ks xs K:=ZeA
@[simp]theorem Zag(l:List EF)(i:Nat)(x:V)(d:Zp):kW P l s i K (x::d)↔YL P l (YA s i (.v (.tup (.bool xh::x::d)))) K:=by simp[kW]
@[simp]theorem Zaf(x:V):kT x↔True:=ZeA
@[simp]theorem ZbK(r:Reg):Yj P (.reg r) s N X R↔yU P r s N:=ZeA
@[simp]theorem ZbN:Yj P .skip s N X R↔N s:=ZeA
@[simp]theorem ZbM(a b:Stm):Yj P (.seq a b) s N X R↔Yj P a s (kS P b N X R) X R:=ZeA
@[simp]theorem ZbI(c:E)(a b:Stm):Yj P (.cond c a b) s N X R↔qB (eval s c) (Yj P a s N X R) (Yj P b s N X R):=by
 rfl
@[simp]theorem ZbH(id:Nat)(a:Stm):Yj P (.block id a) s N X R↔Yj P a s N (xB id N X) R:=ZeA
@[simp]theorem ZbJ(id:Nat):Yj P (.exit id) s N X R↔X id s:=ZeA
@[simp]theorem ZbL:Yj P .ret s N X R↔R s:=ZeA
def UI{keep:Zb}{a:Stm}(I:St->Prop)(μ:St->Nat)(f:I (Yv keep s))(g:∀s,I s->Yj P a s (λd=>I (Yv keep d)/\μ (Yv keep d)<μ s) X R):Yj P (.loop keep a) s N X R:=⟨I,μ,f,g⟩
@[simp]theorem ZbG(f:List EF)(d:List (ZC×E))(outs:List (Nat×OV)):yU P ⟨f,d,outs⟩ s K↔YL P f s (kR d outs K):=ZeA
@[simp]theorem ZbF:VA [] t u K↔K u:=ZeA
@[simp]theorem ZbE(i:Nat)(o:OV)(l:List (Nat×OV)):VA ((i,o)::l) t u K↔Xp (Wx t o) (kO l t u i K):=by
 simp only[VA,Xp,kO];cases Wx t o<;>rfl
@[simp]theorem Zby:S6 t []↔True:=ZeA
@[simp]theorem Zbx(C:ZC)(e:E)(l:List (ZC×E)):S6 t ((C,e)::l)↔(Vn t C=xy->Xp (eval t e) kT)/\S6 t l:=by
 simp only[S6,Xp,kT];cases eval t e<;>simp
@[simp]theorem ZbD:YL P [] s K↔K s:=ZeA
@[simp]theorem ZbC(i:Nat)(C:ZC)(e:E)(l:List EF):YL P (.lt i C e::l) s K↔if Vn s C=xy then Xp (eval s e) (kL P l s i K)else YL P l s K:=by
 simp only[YL,Xp,kL];cases eval s e<;>rfl
@[simp]theorem Zbz(i:Nat)(C:ZC)(f:Zm)(fr fl:Bool)(es:List E)(l:List EF):YL P (.call i C (.id f) fr fl es::l) s K↔if Vn s C=xy then Xp (Yy s es) (kA P f fr fl (kL P l s i K))else YL P l s K:=by
 simp only[YL,Xp,kA,SZ,kL,Um];cases Yy s es<;>simp
@[simp]theorem ZbA(i:Nat)(C:ZC)(x:E)(fr fl:Bool)(es:List E)(l:List EF):YL P (.call i C (.e x) fr fl es::l) s K↔if Vn s C=xy then Xp (Yy s es) (jx P (eval s x) fr fl (kL P l s i K))else YL P l s K:=by
 simp only[YL,Xp,jx,JI,SZ,kL,Um];cases Yy s es with
 |none=>simp
 |some f=>
  cases eval s x with
  |none=>simp
  |some v=>cases d:Jh v<;>simp[d]
@[simp]theorem ZbB(i:Nat)(C:ZC)(f:FN)(ks:List OT)(es:List E)(l:List EF):YL P (.callm i C f ks es::l) s K↔
  if Vn s C=xy then Xp (Yy s es) (jy P (V6 s f) ks (kL P l s i K))
  else Xp (Wj s ks es) (kW P l s i K):=by
 simp only[YL,Xp,L9,jy,kL,kW];split;cases Yy s es<;>cases V6 s f<;>simp
 cases Wj s ks es with
 |none=>simp
 |some d=>cases d<;>simp
@[simp]theorem ZaY(e:E):Wx t (.v e)=(eval t e).map .v:=rfl
@[simp]theorem ZaW(l:List E):Wx t (.m l)=(Yy t l).map .m:=rfl
@[simp]theorem ZaX:Wx t .no=xk .no:=rfl
@[simp]theorem Za2:Vn s []=xy:=rfl
def Z10(i:Nat)(b:Bool)(C:ZC):Vn s ((i,b)::C)=((match get s i with|.v (.bool c)=>c==b|_=>xh)&&Vn s C):=rfl
end
@[simp]theorem Za0(x:SV)(s:St):get (x::s) 0=x:=rfl
@[simp]theorem Z9Z(x:SV)(s:St)(n:Nat):get (x::s) (n+1)=get s n:=by simp[get]
@[simp]theorem Zb3(x y:SV)(s:St):YA (y::s) 0 x=x::s:=rfl
@[simp]theorem Zb2(x y:SV)(s:St)(n:Nat):YA (y::s) (n+1) x=y::YA s n x:=rfl
@[simp]theorem Zb1(x:SV):YA [] 0 x=[x]:=rfl
@[simp]theorem Zb0(x:SV)(n:Nat):YA [] (n+1) x=.no::YA [] n x:=rfl
@[simp]theorem ZaV(s:St):Yv [] s=[]:=rfl
@[simp]theorem ZaU(i:Nat)(l:Zb)(s:St):Yv (i::l) s=YA (Yv l s) i (get s i):=rfl
attribute [simp] Kb eval Yy Z10 XX UB Vv R4 R3 Xq QF Sa UN V6 Wj
section
variable {k:Zl}{a b:Int}{x y:V}{l r:Zp}
@[simp]theorem Z86:X9 .add (.int k a) (.int k b)=xk (.int k (k.wrap (a+b))):=by simp[X9]
@[simp]theorem Z8g:X9 .sub (.int k a) (.int k b)=xk (.int k (k.wrap (a-b))):=by simp[X9]
@[simp]theorem Z8c:X9 .mul (.int k a) (.int k b)=xk (.int k (k.wrap (a*b))):=by simp[X9]
@[simp]theorem Z8e:X9 .quo (.int k a) (.int k b)=if b≠0 then xk (.int k (k.wrap (a.tdiv b)))else xw:=by simp[X9]
@[simp]theorem Z8f:X9 .rem (.int k a) (.int k b)=if b≠0 then xk (.int k (a.tmod b))else xw:=by simp[X9]
@[simp]theorem Z87:X9 .eql (.int k a) (.int k b)=xk (.bool (decide (a=b))):=by simp[X9];rfl
@[simp]theorem Z8d:X9 .neq (.int k a) (.int k b)=xk (.bool (!decide (a=b))):=by simp[X9];rfl
@[simp]theorem Z8b:X9 .lss (.int k a) (.int k b)=xk (.bool (decide (a<b))):=by simp[X9]
@[simp]theorem Z8a:X9 .leq (.int k a) (.int k b)=xk (.bool (decide (a<=b))):=by simp[X9]
@[simp]theorem Z89:X9 .gtr (.int k a) (.int k b)=xk (.bool (decide (b<a))):=by simp[X9]
@[simp]theorem Z88:X9 .geq (.int k a) (.int k b)=xk (.bool (decide (b<=a))):=by simp[X9]
@[simp]theorem Z8Y(p q n:Bool):Sh n (.bool p) (.bool q)=xk (.bool (n ^^ (p==q))):=rfl
@[simp]theorem Zbs:TZ .neg (.int k a)=xk (.int k (k.wrap (0-a))):=rfl
@[simp]theorem Zbt(p:Bool):TZ .not (.bool p)=xk (.bool !p):=rfl
@[simp]theorem Z8X(k':Zl):Q8 k' (.int k a)=xk (.int k' (k'.wrap a)):=rfl
@[simp]theorem Zah:Rm (.sl l)=xk (.int .i64 (P l)):=rfl
@[simp]theorem Zan(id:Nat)(vs:Zp):Sr (.mp id l vs)=xk (.int .i64 (P l)):=rfl
@[simp]theorem Zak(id:Nat)(vs:Zp):JL (.mp id l vs)=xk (.mp id [] []):=rfl
@[simp]theorem Zal:Rr (.int k a) (.int k b)=xk (.int k (if b<a then b else a)):=rfl
@[simp]theorem Zaj:Rq (.int k a) (.int k b)=xk (.int k (if b>a then b else a)):=rfl
@[simp]theorem Z8Z(i:Nat):Tp (.tup l) i=l[i]? :=rfl
@[simp]theorem Za4(i n:Nat):X3 (.sl l) (.int k (i:Int)) n=(l[i]?).bind λz=>if P z.cells=n then xk z else xw:=by simp[X3]
@[simp]theorem Z8J:(V.int k a).cells=[V.int k a]:=rfl
@[simp]theorem Z8H(p:Bool):(V.bool p).cells=[V.bool p]:=rfl
@[simp]theorem Z8M(s:ByteArray):(V.str s).cells=[V.str s]:=rfl
@[simp]theorem Z8L:(V.sl l).cells=[V.sl l]:=rfl
@[simp]theorem Z8F:(V.agg l).cells=l:=rfl
@[simp]theorem Z8K(id:Nat):(V.mp id l r).cells=[V.mp id l r]:=rfl
@[simp]theorem Z8I(f:Zm):(V.fn f).cells=[V.fn f]:=rfl
@[simp]theorem ZaQ:(V.int k a).one=xy:=rfl
@[simp]theorem ZaM(p:Bool):(V.bool p).one=xy:=rfl
@[simp]theorem ZaT:(V.sl l).one=xy:=rfl
@[simp]theorem ZaR(id:Nat):(V.mp id l r).one=xy:=rfl
@[simp]theorem ZaP(f:Zm):(V.fn f).one=xy:=rfl
@[simp]theorem ZaL:(V.agg l).one=xh:=rfl
@[simp]theorem ZaF:YM (.int k a)=xk (.int k a):=rfl
@[simp]theorem ZaB(p:Bool):YM (.bool p)=xk (.bool p):=rfl
@[simp]theorem ZaJ(s:ByteArray):YM (.str s)=xk (.str s):=rfl
@[simp]theorem ZaI:YM (.sl l)=xk (.sl l):=rfl
@[simp]theorem ZaG(id:Nat):YM (.mp id l r)=xk (.mp id l r):=rfl
@[simp]theorem ZaE(f:Zm):YM (.fn f)=xk (.fn f):=rfl
@[simp]theorem Z91(o:Nat):ZW (.agg l) o=(l[o]?).bind YM:=rfl
@[simp]theorem Z9n:ZW (.int k a) 0=xk (.int k a):=rfl
@[simp]theorem Z92(p:Bool):ZW (.bool p) 0=xk (.bool p):=rfl
@[simp]theorem Z9N:ZW (.sl l) 0=xk (.sl l):=rfl
@[simp]theorem Z9O(s:ByteArray):ZW (.str s) 0=xk (.str s):=rfl
@[simp]theorem Z9P(o n:Nat):VL (.agg l) o n=if o+n<=(P l) then xk (.agg ((l.drop o).take n))else xw:=rfl
@[simp]theorem Zbh(n:Nat):Ve (.agg l) n=if P l=n then xk (.agg l)else xw:=rfl
@[simp]theorem Za5:Rh (.agg l)=xk (.agg l):=rfl
@[simp]theorem Zbg:UE (.ptr l)=xk (.agg l):=rfl
@[simp]theorem Za6(p:Bool)(A B:Option V):Qp (.bool p) A B=if p=xy then A else B:=by cases p<;>rfl
@[simp]theorem Z7S:Tk l=.agg (flat l):=rfl
@[simp]theorem Z0u:flat (x::l)=x.cells++flat l:=rfl
@[simp]theorem Z90:flat []=[]:=rfl
@[simp]theorem Z85(n:Nat):SU n (.sl l) (.sl r)=if P l+P r<=Y5/\Wc n r=xy then xk (.sl (l++r))else xw:=rfl
@[simp]theorem Zbd(n:Nat):Wc n []=xy:=rfl
@[simp]theorem Zbc(n:Nat):Wc n (x::l)=(P x.cells==n&&Wc n l):=rfl
def Z6v{α:Type}{f:α->V}{n:Nat}{l:List α}(h:∀x,(f x).cells.length=n):Wc n (l.map f)=xy:=by
 simp[Wc,h]
abbrev Zf:=List Int
@[simp]theorem BE(l:Zf):Wc 1 (l.map (V.int k))=xy:=Z6v λ_=>rfl
@[simp]theorem Zam(n:Nat):JN x (.int k (n:Int))=if n<=Y5 then xk (.sl (List.replicate n x))else xw:=by
 simp only[JN];have:((n:Int)<=(Y5:Nat))↔n<=Y5:=Z0;simp[this]
@[simp]theorem Z6w(i j n:Nat):SG n (.sl l) (.int k (i:Int)) (.int k (j:Int))=if i<=j/\j<=P l/\Wc n l=xy then xk (.sl ((l.take j).drop i))else xw:=by
 simp[SG]
@[simp]theorem Zbu(i o:Nat):SL (.sl l) (.int k (i:Int)) o y=(l[i]?).bind λz=>if o+P y.cells<=P z.cells/\y.cells≠[]then xk (.sl (l.set i (z.put o y.cells)))else xw:=by
 simp[SL]
end
abbrev vi(n:Int):V:=.int .i64 n
abbrev vu(n:Int):V:=.int .u64 n
@[simp]theorem Zap(n:Nat):((n:Int)<0)↔False:=⟨λh=>absurd h (by omega),False.elim⟩
def Zz(n:Int)(d: -9223372036854775808<=n)(h2:n<=9223372036854775807):IntKind.i64.wrap n=n:=by
 rw[IntKind.wrap_i64];omega
end
end Vm
end
section
namespace Vm
open Go Go.ChangeShapes Go.WideShapes Go.ChangeAt Go.RowKit
section
def Ju(P:Z4)(n:Nat):List Field->Nat->Bool
 | [],o=>o==n
 |f::l,o=>f.offset==o&&Ju P n l (o+P.cellsOf f.type)
def TH(P:Z4):Nat->TypeId->Bool
 |0,_=>xh
 |n+1,t=>match P.underlying t with
  |some .bool|some (.int _)|some .string=>xy
  |some (.slice e)=>TH P n e&&decide (0<P.cellsOf e)
  |some (.struct a)=>Ju P (P.cellsOf t) a.toList 0&&a.toList.all λf=>TH P n f.type
  |some (.array m e)=>TH P n e&&m*P.cellsOf e==P.cellsOf t
  |_=>xh
def Xe(P:Z4):Nat->TypeId->V->Prop
 |0,_,_=>False
 |n+1,t,x=>match P.underlying t with
  |some .bool=>∃b,x=.bool b
  |some (.int k)=>∃m,x=.int k m/\(Lit.int k m).wf=xy
  |some .string=>∃s,x=.str s/\s.size<=maxLen
  |some (.slice e)=>∃l,x=.sl l/\xq l<=maxLen/\∀y∈l,Xe P n e y
  |some (.struct d)=>∃a,x=.agg (flat a)/\xq a=xq d.toList/\∀(i:Nat) (f:Field) (y:V),d.toList[i]?=xk f->a[i]?=xk y->Xe P n f.type y
  |some (.array m e)=>∃a,x=.agg (flat a)/\xq a=m/\∀y∈a,Xe P n e y
  |_=>False
def RdC(w:Z3)(G:Z6)(cs:Zp)(vs:Zk):Prop:=
 P vs=P cs/\∀(i:Nat) (c:V),cs[i]?=xk c->c.one=xy/\∃u,vs[i]?=xk u/\Rd w G c u
def RdC.nil{w:Z3}{G:Z6}:RdC w G [] []:=⟨rfl,λi c h=>Zcq⟩
def RdC.append{w:Z3}{G:Z6}{cs d:Zp}{vs f:Zk}(h:RdC w G cs vs)(h':RdC w G d f):RdC w G (cs++d) (vs++f):=by
 refine⟨by simp[h.1,h'.1],λi c g=> ?_⟩;rw[List.getElem?_append]at g⊢;rw[h.1];split at g;rename_i a;rw[if_pos a];exact h.2 i c g;rename_i a;rw[if_neg a];exact h'.2 _ c g
theorem RdC.one{w:Z3}{G:Z6}{c:V}{v:Z7}(a:c.one=xy)(h:Rd w G c v):RdC w G [c] [v]:=
 ⟨rfl,λi x d=>by
  grind⟩
def Ld{α:Type}{Q:Nat->α->Prop}:∀(n:Nat),(∀i,i<n->∃y,Q i y)->∃l:List α,P l=n/\∀(i:Nat) (y:α),l[i]?=xk y->Q i y
 |0,_=>⟨[],rfl,λi y h=>Zcq⟩
 |n+1,h=>by
  obtain⟨l,d,f⟩:=Ld n λi o=>h i Z0;obtain⟨y,j⟩:=h n Z0;refine⟨l++[y],by simp[d],λi z a=> ?_⟩;rw[List.getElem?_append]at a;split at a;exact f i z a;rename_i g;rw[List.getElem?_singleton]at a;split at a;rename_i k;have:i=n:=Z0;subst this;simp only[ZcL]at a;subst a;exact j;cases a
def qw{w:Z3}{b:Nat}{a:Addr}{n:Nat}{cs:Zk}(h:w.cells? b a n=xk cs):P cs=n/\∀i,i<n->w.cell? (a.add i)=cs[i]? :=by
 unfold World.cells? at h;split at h;have d:=mapM_some_length h;rw[Zgm]at d;refine⟨d,λi f=>mapM_some_get h i i ?_⟩;simp_all;cases h
def u5{w:Z3}{a:Addr}{v:Z7}(h:w.cell? a=xk v):a.block<U (R w):=by
 grind [World.cell?,Nat.lt_or_ge]
def Ba{w:Z3}{G:Z6}:∀ {d:Zp} {a:List (List Value)},P a=P d->(∀(i:Nat) (y:V) (vs:Zk),d[i]?=xk y->a[i]?=xk vs->RdC w G y.cells vs)->RdC w G (flat d) a.flatten
 | [],[],_,_=>by simpa using RdC.nil
 | [],_::_,h,_=>Zcq
 |_::_,[],h,_=>Zcq
 |y::d,vs::a,h,f=>by
  rw[Sk,List.flatten_cons];exact(f 0 y vs rfl rfl).append (Ba ZbT λi z g k j=>f (i+1) z g ZbT ZbT)
def Eb{P:Z4}{n:Nat}{cs:Zk}:∀ {l:List Field} {o:Nat},Ju P n l o=xy->o<=n/\(xq cs=n->cs.drop o=(l.map λf=>(cs.drop f.offset).take (P.cellsOf f.type)).flatten)
 | [],o,h=>by
   simp_all[Ju,Zdw,ZcR]
 |f::l,o,h=>by
  simp only[Ju,ZcP,Zdw]at h;obtain⟨d,a⟩:=h;obtain⟨g,j⟩:=Eb (cs:=cs) a;refine⟨Z0,λk=> ?_⟩;grind [List.flatten_cons,List.drop_drop,List.take_append_drop]
def O0{cs:Zk}{k:Nat}:∀ {m:Nat},P cs=m*k->cs=((List.range m).map λi=>(cs.drop (i*k)).take k).flatten:=by
 have:∀(m:Nat) (cs:Zk),cs.take (m*k)=((List.range m).map λi=>(cs.drop (i*k)).take k).flatten:=by
  intro m;induction m with
  |zero=>simp
  |succ m d=>
   simp_all[ZeW,Zeb,List.flatten_append,Ze9,List.take_add]
 intro m h;have a:=this m cs;grind
section
variable {H:Type}{enc:TypeId×Value->H}{P:Z4}{w:Z3}{spare:Nat->Bool}{held:Bool}
def ye:∀ {n:Nat} {t:Z8} {D:Nat} {cs:Zk} {d:DataW H×List MemPlace},TH P n t=xy->DataW.trod enc P w 0 spare held D t cs=xk d->
  ∃x,Xe P n t x/\RdC w (λb=>b<xz (xj w)) x.cells cs
 |0,t,D,cs,d,K,h=>by cases K
 |n+1,t,D,cs,d,K,h=>by
  unfold TH at K;unfold Xe;split at K;rename_i N;obtain⟨b,rfl,_⟩:=DataW.trod_bool N h;exact⟨.bool b,⟨b,rfl⟩,.one rfl (.bool b)⟩;rename_i k N;obtain⟨m,rfl,_,hw⟩:=DataW.trod_int N h;exact⟨.int k m,⟨m,rfl,hw⟩,.one rfl (.int k m)⟩;rename_i N;obtain⟨s,rfl,_,hw⟩:=DataW.trod_string N h;exact⟨.str s,⟨s,rfl,hw⟩,.one rfl (.str s)⟩;rename_i e N;simp only[ZcP,Zd8]at K;obtain⟨L,A⟩:=K;obtain⟨rfl,_⟩|⟨a,len,cap,a6,b2,m,_,rfl,_,_,b4,a1,b3,F,_⟩:=DataW.trod_slice N h;exact⟨.sl [],⟨[],rfl,Z1,Z1⟩,.one rfl (.nil _ _ (ZdZ _))⟩;have I:∀i,i<len->∃y,Xe P n e y/\∃vs,w.cells? 0 (a.add (i*P.cellsOf e)) (P.cellsOf e)=xk vs/\RdC w (λb=>b<xz (xj w)) y.cells vs:=by
   intro i g;have r:=F i g;rw[ZcM Z0]at r;simp only[ZcK]at r;obtain⟨vs,B,C⟩:=r;obtain⟨y,p,M⟩:=ye L C;exact⟨y,p,vs,B,M⟩
  obtain⟨l,a9,Y⟩:=Ld len I;have b0:∀y∈l,Xe P n e y:=λy p=>by
   obtain⟨i,g⟩:=Zde p;exact(Y i y g).1
  refine⟨.sl l,⟨l,rfl,Z0,b0⟩,.one rfl ?_⟩;cases a2:len with
  |zero=>
   have:l=[]:=ZdC Z0;subst this;exact .nil _ _ a1
  |succ b1=>
   obtain⟨b,o,X⟩:=a;have Z:X=xw:=by
    obtain⟨y,_,vs,O,_⟩:=I 0 Z0;obtain⟨r,B⟩:=qw O;have C:=B 0 A;rw[ZcM Z0]at C;have h4:=World.cell?_spot C;obtain _|s:=X;rfl;simp[Addr.add]at h4
   subst Z;have z:∀(i j:Nat) (y:V),l[i]?=xk y->j<P.cellsOf e->∃(u:Z7),w.cell? ⟨b,o+(i*P.cellsOf e+j),xw⟩=xk u/\∃c,y.cells[j]?=xk c/\c.one=xy/\Rd w (λb=>b<xz (xj w)) c u:=by
    intro i j y p W;obtain⟨_,vs,O,M⟩:=Y i y p;obtain⟨r,B⟩:=qw O;have C:=B j W;rw[Zeu,Zeu,ZcM Z0]at C;have a5:j<xq y.cells:=by rw[<-M.1];omega
    obtain⟨q1,u,q2,q3⟩:=M.2 j y.cells[j] (ZcM a5);rw[ZcM Z0,ZcL]at q2;subst q2;exact⟨_,by rw[<-Ze6];exact C,_,ZcM a5,q1,q3⟩
   have J:∀y∈l,y.fits (P.cellsOf e):=λy p=>by
    obtain⟨i,g⟩:=Zde p;obtain⟨_,vs,O,M⟩:=Y i y g;refine⟨by rw[<-M.1,(qw O).1],λc hc=> ?_⟩;obtain⟨j,W⟩:=Zde hc;exact(M.2 j c W).1
   have U:∀i,i<xq l*P.cellsOf e->∃y,l[i / P.cellsOf e]?=xk y/\i%P.cellsOf e<P.cellsOf e/\i=i / P.cellsOf e*P.cellsOf e+i%P.cellsOf e:=by
    intro i g;have r:i / P.cellsOf e<xq l:=(ZgM A).2 g;exact⟨_,ZcM r,ZfS _ A,by rw[Nat.mul_comm];exact(Nat.div_add_mod _ _).symm⟩
   have hb:b<xz (xj w):=by
    obtain⟨y,p⟩:∃y,l[0]?=xk y:=⟨_,ZcM Z0⟩;obtain⟨u,hu,_⟩:=z 0 0 y p A;exact u5 hu
   have a3:=Rd.sl (w:=w) (G:=λb=>b<xz (xj w)) l b o cap (P.cellsOf e) (λi=>(w.cell? ⟨b,o+i,xw⟩).getD undef) Z0 a1 hb J (λi g=> ?_) (λi c g=> ?_);rw[a9,a2]at a3;exact a3;obtain⟨y,r,B,C⟩:=U i g;obtain⟨u,hu,_⟩:=z _ _ y r B;rw[<-C]at hu;rw[hu];rfl;have a8:i<xq l*P.cellsOf e:=by
    rw[<-Tq J];exact(ZcN.1 g).1
   obtain⟨y,r,B,C⟩:=U i a8;obtain⟨u,hu,c',a7,_,M⟩:=z _ _ y r B;rw[<-C]at hu;rw[C,Vk J r _ B,a7]at g;cases g;simp only[hu,Zdg];exact M
  rename_i fs N;simp only[ZcP,ZcW]at K;obtain⟨L,A⟩:=K;obtain⟨xs,m,_,_,a0,a4,F⟩:=DataW.trod_struct N h
  obtain⟨ys,R,S⟩:=Ld (Q:=λi y=>∀f,fs.toList[i]?=xk f->Xe P n f.type y/\RdC w (λb=>b<xz (xj w)) y.cells ((cs.drop f.offset).take (P.cellsOf f.type))) (xq fs.toList) (by
   intro i g;have hf:fs.toList[i]?=xk fs.toList[i]:=ZcM g;have r:=F i fs.toList[i] Z1;rw[ZcM (by rw[a4];exact g)]at r;obtain⟨y,p,M⟩:=ye (A _ (Zd3 g)) r;exact⟨y,λf B=>by rw[hf]at B;cases B;exact⟨p,M⟩⟩)
  refine⟨.agg (flat ys),⟨ys,rfl,R,λi f y hf p=>(S i y p f hf).1⟩,?_⟩;have T:=(Eb (cs:=cs) L).2 a0;rw[List.drop_zero]at T;rw[T];refine Ba (by simp[R]) λi y vs p O=> ?_;rw[Zdb,ZcO]at O;obtain⟨f,hf,rfl⟩:=O;exact(S i y p f hf).2;rename_i m e N;simp only[ZcP,Zdw]at K;obtain⟨L,A⟩:=K;obtain⟨xs,q,_,_,a0,a4,F⟩:=DataW.trod_array N h
  obtain⟨ys,R,S⟩:=Ld (Q:=λi y=>Xe P n e y/\RdC w (λb=>b<xz (xj w)) y.cells ((cs.drop (i*P.cellsOf e)).take (P.cellsOf e))) m (by
   intro i g;have r:=F i g;rw[ZcM Z0]at r;exact ye L r)
  refine⟨.agg (flat ys),⟨ys,rfl,R,λy p=> ?_⟩,?_⟩;obtain⟨i,g⟩:=Zde p;exact(S i y g).1;rw[O0 (cs:=cs) (k:=P.cellsOf e) (m:=m) Z0];refine Ba (by simp[R]) λi y vs p O=> ?_;rw[Zdb,ZcO]at O;obtain⟨j,W,rfl⟩:=O;have:j=i:=by
   rw[ZcN]at W;obtain⟨_,W⟩:=W;simpa using W.symm
  subst this;exact(S j y p).2;cases K
def Z5b{n:Nat}{t:Z8}{v:Z7}{d:DataW H}{G:List MemPlace}{r:Reach}{F:Nat}(j:TH P n t=xy)(a:Value.okWide P w r F t v)(h:DataW.Trod enc P w 0 spare held t v d G):
  ∃x,Xe P n t x/\Rd w (λb=>b<U (R w)) x v:=by
 obtain⟨C,h⟩:=h;obtain⟨x,g,l⟩:=ye j h;refine⟨x,g,?_⟩;have o:∀ {c:V},x=c->c.cells=[c]->v.cells.toList=[v]->Rd w (λb=>b<U (R w)) x v:=by
  intro c z y B;subst z;rw[y,B]at l;obtain⟨_,u,p,D⟩:=l.2 0 x rfl;simp at p;subst p;exact D
 have K:∀ {q:Zp} {vs:Z9},x=.agg q->v=.agg vs->Rd w (λb=>b<U (R w)) x v:=by
  intro q vs z B;subst z B;refine .agg q vs (by have:=l.1;simpa[Value.cells]using this) (λc y=> ?_) λi c A=> ?_;obtain⟨i,A⟩:=Zde y;exact(l.2 i c A).1;obtain⟨_,u,p,D⟩:=l.2 i c A;have:vs.getD i undef=u:=by
   have I:vs[i]?=xk u:=by simpa[Value.cells]using p
   simp[ZcQ,I]
  grind
 cases n with
 |zero=>cases j
 |succ n=>
  unfold TH at j;unfold Xe at g;split at j;rename_i f;rw[f]at g;obtain⟨b,rfl⟩:=g;obtain⟨c,rfl⟩:=okWide_bool f a;exact o rfl rfl rfl;rename_i k f;rw[f]at g;obtain⟨b,rfl,_⟩:=g;obtain⟨c,rfl⟩:=okWide_int f a;exact o rfl rfl rfl;rename_i f;rw[f]at g;obtain⟨b,rfl,_⟩:=g;obtain⟨c,rfl⟩:=okWide_string f a;exact o rfl rfl rfl;rename_i e f;rw[f]at g;obtain⟨b,rfl,_⟩:=g;obtain⟨c,_,_,rfl⟩:=okWide_slice f a;exact o rfl rfl rfl;rename_i J f;rw[f]at g;obtain⟨b,rfl,_⟩:=g;simp only[Value.okWide,f]at a;grind;rename_i m e f;rw[f]at g;obtain⟨b,rfl,_⟩:=g;simp only[Value.okWide,f]at a;grind;cases j
def Is{n:Nat}{r:Reach}{G:Nat}:∀ {g:List TypeId} {vs:Zk} {o:List (DataW H)} {A:List MemPlace},DataW.TrodAll enc P w 0 spare held g vs o A->(∀t∈g,TH P n t=xy)->
  (∀(j:Nat) t v,g[j]?=xk t->vs[j]?=xk v->Value.okWide P w r G t v)->
  ∃l:Zp,xq l=xq vs/\xq vs=xq g/\xq o=xq g/\(∀(i:Nat) (t:Z8) (x:V),g[i]?=xk t->l[i]?=xk x->Xe P n t x)/\∀(i:Nat) (x:V) (v:Z7),l[i]?=xk x->vs[i]?=xk v->Rd w (λb=>b<xz (xj w)) x v
 | [],vs,o,A,h,_,_=>by
   obtain⟨rfl,rfl,rfl⟩:=trodAll_nil h;simp
 |t::g,vs,o,A,h,F,a=>by
  obtain⟨v,R,d,I,p,q,rfl,rfl,rfl,J,K⟩:=trodAll_cons h;obtain⟨x,y,z⟩:=Z5b (F t Z1) (a 0 t v rfl rfl) J;obtain⟨l,L,M,Q,N,O⟩:=Is K (λt k=>F t (by simp[k])) λj B C k u=>a (j+1) B C ZbT ZbT;refine⟨x::l,by simp[L],by simp[M],by simp[Q],λi B D k f=> ?_,λi D C f u=> ?_⟩;cases i with
  |zero=>simp at k f;subst k f;exact y
  |succ i=>exact N i B D ZbT Zc9
  cases i with
  |zero=>simp at u f;subst u f;exact z
  |succ i=>exact O i D C Zc9 ZbT
def D6{W n:Z3}(r:laidOutB P=xy)(o:Below (U (R W)) W n):∀ {j:List TypeId} {vs:Zk} {g:List (DataW H)} {f:List MemPlace},DataW.TrodAll enc P W 0 (λ_=>xy) xy j vs g f->
  (∀t∈j,P.readableRec t=xy/\t<P.types.size)->(∀x∈f,x.block<U (R W))->DataW.TrodAll enc P n 0 (λb=>decide (b<U (R W))) xy j vs g f
 | [],vs,g,f,h,_,_=>by
   obtain⟨rfl,rfl,rfl⟩:=trodAll_nil h;rfl
 |t::j,vs,g,f,h,k,a=>by
  obtain⟨v,B,d,u,p,q,rfl,rfl,rfl,y,z⟩:=trodAll_cons h;exact trodAll_cons_mk (Below.trod r (k t Z1).1 (k t Z1).2 y o λx l=>a x (by simp[l])) (D6 r o z (λt A=>k t (by simp[A])) λx l=>a x (by simp[l]))
end
def Z2l{P:Z4} [Lg P]{f:Zm}{fn:Func}{s:ChangeSpec}{tb:Z8}(n:Nat)(S:laidOutB P=xy)(F:(fn.params.toList.all λt=>TH P n t)=xy)(l:(fn.params.toList.all λt=>P.readableRec t&&decide (t<P.types.size))=xy)
  (d:s.vars=[]) (y:fn.resultTypes=#[tb]) (Q:P.underlying tb=xk .bool)
  (k:∀(H:Type) (ds:List (DataW H)),xq ds=xq fn.params.toList->s.fn H ds= {results:=[.lit (.bool xy)],args:=ds})
  (r:∀A:Zp,xq A=xq fn.params.toList->(∀(i:Nat) (t:Z8) (x:V),fn.params.toList[i]?=xk t->A[i]?=xk x->Xe P n t x)->VC P f xh A (.bool xy))
  (H:Type) (enc:TypeId×Value->H) (W:Z3) (base:Nat) (args:Z9) (ds gs:List (DataW H)) (a:List MemPlace)
  (z:∀(j:Nat) t v,fn.params[j]?=xk t->args[j]?=xk v->Value.okWide P W .any base t v)
  (C:DataW.Whole enc P fn.params.toList s.vars xh W args.toList ds gs a):
  Lg.calls P f args W λe J=>∃v,e=.returned v/\s.post enc P fn xh xy xh xh W args v J:=by
 have u:∀x∈a,x.block<xz (xj W):=λx B=>by simpa using C.lt x B
 have o:=C;obtain⟨p,q,K,L,rfl,_,_⟩:=C;rw[d]at L;obtain⟨rfl,rfl⟩:=trodVars_none L;rw[Zei]at u o;obtain⟨A,O,T,Z,U,X⟩:=Is (n:=n) K (ZcW.1 F) λj t v N Y=>z j t v ZbT ZbT;obtain⟨_,I⟩:=r A (by rw[O,T]) U;refine Lg.calls_mono (I W (λb=>b<xz (xj W)) args (λb h=>h) ZbT λi x B=> ?_) λe J R=> ?_;have M:i<xq args.toList:=by rw[<-O];exact(ZcN.1 B).1
 have:args.getD i undef=args.toList[i]:=by
  have D:i<args.size:=by simpa using M
  simp[ZcQ,D]
 rw[this];exact X i x _ B (ZcM M);obtain⟨v,rfl,g,G⟩:=R;cases G;refine⟨_,rfl,ds,[],p,[],p,[],o,?_,?_,?_,g.frame _,λh=>Zc4⟩;rw[k H _ ZbT,y];exact trodAll_mk1 (shut_bool Q xy);rw[k H _ ZbT,Zei];exact D6 S g K (λt N=>by simpa using ZcW.1 l t N) u;rw[d,k H _ ZbT];rfl
def Fz{α:Type}{enc:α->V}{Q:α->Prop}:∀ {l:Zp},(∀y∈l,∃a,y=enc a/\Q a)->∃d:List α,l=d.map enc/\∀a∈d,Q a
 | [],_=>⟨[],rfl,Z1⟩
 |y::l,h=>by
  obtain⟨a,rfl,g⟩:=h y Z1;obtain⟨d,rfl,j⟩:=Fz (l:=l) λz k=>h z (Zdn _ k)
  exact⟨a::d,rfl,λb f=>by
   obtain rfl|f:=Zd6.1 f;exact g;exact j b f⟩
def MH{P:Z4}{n:Nat}{t:Z8}{x:V}{k:Zl}(d:P.underlying t=xk (.int k))(h:Xe P (n+1) t x):∃m,x=.int k m/\k.min<=m/\m<=k.max:=by
 unfold Xe at h;rw[d]at h;obtain⟨m,rfl,a⟩:=h;simp only[Lit.wf,ZcP,Zd8]at a;exact⟨m,rfl,a⟩
def BZ{P:Z4}{n:Nat}{t e:Z8}{x:V}{α:Type}{enc:α->V}{Q:α->Prop}(g:P.underlying t=xk (.slice e))(h:Xe P (n+1) t x)(f:∀y,Xe P n e y->∃a,y=enc a/\Q a):∃l:List α,x=.sl (l.map enc)/\xq l<=maxLen/\∀a∈l,Q a:=by
 unfold Xe at h;rw[g]at h;obtain⟨l,rfl,k,d⟩:=h;obtain⟨p,rfl,o⟩:=Fz λy j=>f y (d y j);grind
def MI{P:Z4}{n:Nat}{t:Z8}{x:V}{fs:Array Field}(d:P.underlying t=xk (.struct fs))(h:Xe P (n+1) t x):∃a,x=.agg (flat a)/\xq a=xq fs.toList/\∀(i:Nat) (f:Field) (y:V),fs.toList[i]?=xk f->a[i]?=xk y->Xe P n f.type y:=by
 simp_all[Xe]
end
end Vm
end
section
namespace Vm
open Go
open Go.Proofs
section
def Wz(s:St):List (Nat×SV)->St
 | []=>s
 |(i,x)::l=>Wz (YA s i x) l
@[simp]theorem Zb5(s:St):Wz s []=s:=rfl
@[simp]theorem Zb4(s:St)(i:Nat)(x:SV)(l:List (Nat×SV)):Wz s ((i,x)::l)=Wz (YA s i x) l:=rfl
section
variable {P:Z4}[Lg P]{K K':St->Prop}
def Na(d:∀s,K s->K' s){t:St}:∀ {l:List (Nat×OV)} {u:St},VA l t u K->VA l t u K'
 | [],_,h=>d _ h
 | (i,o)::l,u,h=>by
   simp only[VA]at h⊢;split;rename_i x a;rw[a]at h;exact Na d h;rename_i a;rw[a]at h;exact h
def SO(g:∀s,K s->K' s):∀ {l:List EF} {s:St},YL P l s K->YL P l s K'
 | [],_,h=>g _ h
 | .lt i C e::l,s,h=>by
   simp only[YL]at h⊢;split;rename_i a;rw[if_pos a]at h;split;rename_i x d;rw[d]at h;exact SO g h;rename_i d;rw[d]at h;exact h;rename_i a;rw[if_neg a]at h;exact SO g h
 | .call i C f u fl t::l,s,h=>by
   simp only[YL]at h⊢;split;rename_i a;rw[if_pos a]at h;split;rename_i x n d k;rw[d,k]at h;obtain⟨r,j,o,p⟩:=h;exact⟨r,j,o,SO g p⟩;rename_i q;split at h;rename_i x n d k;exact(q x n d k).elim;exact h;rename_i a;rw[if_neg a]at h;exact SO g h
 | .callm i C f w t::l,s,h=>by
   simp only[YL]at h⊢;split;rename_i a;rw[if_pos a]at h;split;rename_i x n d k;rw[d,k]at h;obtain⟨r,j,p⟩:=h;exact⟨r,j,SO g p⟩;rename_i d;split at h;rename_i x n j o;exact(d x n j o).elim;exact h;rename_i a;rw[if_neg a]at h;split at h;exact SO g h;exact SO g h;exact h.elim
def S7:∀ {a:Stm} {s:St} {N p R q:St->Prop} {X u:Nat->St->Prop},Yj P a s N X R->(∀s,N s->p s)->(∀i s,X i s->u i s)->(∀s,R s->q s)->Yj P a s p u q
 |.reg r,s,_,_,_,_,_,_,h,d,_,_=>SO (λt j=>⟨j.1,Na d j.2⟩) h
 |.skip,s,_,_,_,_,_,_,h,d,_,_=>d _ h
 |.seq a b,s,_,_,_,_,_,_,h,d,g,f=>S7 (a:=a) (s:=s) h (λt j=>S7 (a:=b) (s:=t) j d g f) g f
 | .cond c a b,s,_,_,_,_,_,_,h,d,g,f=>by
   simp only[Yj]at h⊢;split;rename_i k;rw[k]at h;exact S7 h d g f;rename_i k;rw[k]at h;exact S7 h d g f;rename_i l n;split at h;rename_i k;exact(l k).elim;rename_i k;exact(n k).elim;exact h
 | .block id a,s,_,_,_,_,_,_,h,d,g,f=>S7 (a:=a) (s:=s) h d (λi t j=>by
   split;rename_i o;rw[if_pos o]at j;exact d _ j;rename_i o;rw[if_neg o]at j;exact g _ _ j) f
 | .loop w a,s,_,_,_,_,_,_,h,d,g,f=>by
   obtain⟨I,m,l,n⟩:=h;exact⟨I,m,l,λt j=>S7 (a:=a) (s:=t) (n t j) (λ_ h=>h) g f⟩
 |.exit id,s,_,_,_,_,_,_,h,_,g,_=>g _ _ h
 |.ret,s,_,_,_,_,_,_,h,_,_,f=>f _ h
end
def Ti{P:Z4} [Lg P]{keep:Zb}{a:Stm}{s:St}{N R:St->Prop}{X:Nat->St->Prop}{ι:Type}(L:ι->List (Nat×SV))(Inv:ι->Prop)(m:St->Nat)(d:ι)
  (g:Yv keep s=Wz (Yv keep s) (L d)) (k:Inv d)
  (j:∀p,Inv p->Yj P a (Wz (Yv keep s) (L p)) (λf=>∃q,Inv q/\Yv keep f=Wz (Yv keep s) (L q)/\m (Wz (Yv keep s) (L q))<m (Wz (Yv keep s) (L p))) X R):
  Yj P (.loop keep a) s N X R:=by
 refine⟨λt=>∃p,Inv p/\t=Wz (Yv keep s) (L p),m,⟨d,k,g⟩,?_⟩;rintro t ⟨p,o,rfl⟩;refine S7 (j p o) (λf u=> ?_) (λ_ _ h=>h) (λ_ h=>h);obtain⟨q,r,l,n⟩:=u;rw[l];exact⟨⟨q,r,rfl⟩,n⟩
def X1(c:Nat)(n:Nat)(t:St):Nat:=match get t c with|.v (.int _ k)=>n-k.toNat|_=>0
def VB{P:Z4} [Lg P]{keep:Zb}{a:Stm}{s:St}{N R:St->Prop}{X:Nat->St->Prop}(c n:Nat)(L:Nat->List (Nat×SV))(Inv:Z6)
  (g:Yv keep s=Wz (Yv keep s) (L 0)) (hc:∀i,get (Wz (Yv keep s) (L i)) c=.v (vi i)) (k:Inv 0)
  (j:∀i,i<=n->Inv i->Yj P a (Wz (Yv keep s) (L i)) (λf=>i<n/\Inv (i+1)/\Yv keep f=Wz (Yv keep s) (L (i+1))) X R):
  Yj P (.loop keep a) s N X R:=by
 refine Ti L (λi=>i<=n/\Inv i) (X1 c n) 0 g ⟨Z0,k⟩ ?_;rintro i ⟨o,q⟩;refine S7 (j i o q) (λf p=> ?_) (λ_ _ h=>h) (λ_ h=>h);obtain⟨h,d,l⟩:=p;refine⟨i+1,⟨Z0,d⟩,l,?_⟩;simp only[X1,hc];simp;omega
def KQ{P:Z4} [Lg P]{keep:Zb}{a:Stm}{s:St}{N R:St->Prop}{X:Nat->St->Prop}(c n:Nat)(Inv:Z6)
  (d:Yv keep s=YA (Yv keep s) c (.v (vi 0))) (hc:∀x,get (YA (Yv keep s) c x) c=x) (g:Inv 0)
  (f:∀i,i<=n->Inv i->Yj P a (YA (Yv keep s) c (.v (vi i))) (λh=>i<n/\Inv (i+1)/\Yv keep h=YA (Yv keep s) c (.v (vi (i+1)))) X R):
  Yj P (.loop keep a) s N X R:=
 VB c n (λi=>[(c,.v (vi i))]) Inv d (λi=>hc _) g f
def Nc{P:Z4} [Lg P]{keep:Zb}{a:Stm}{s:St}{N R:St->Prop}{X:Nat->St->Prop}{α:Type}(c n:Nat)(L:Nat->α->List (Nat×SV))(Inv:Nat->α->Prop)(f:α)
  (j:Yv keep s=Wz (Yv keep s) (L 0 f)) (hc:∀i x,get (Wz (Yv keep s) (L i x)) c=.v (vi i)) (l:Inv 0 f)
  (k:∀i x,i<=n->Inv i x->Yj P a (Wz (Yv keep s) (L i x)) (λg=>i<n/\∃y,Inv (i+1) y/\Yv keep g=Wz (Yv keep s) (L (i+1) y)) X R):
  Yj P (.loop keep a) s N X R:=by
 refine Ti (λp:Nat×α=>L p.1 p.2) (λp=>p.1<=n/\Inv p.1 p.2) (X1 c n) (0,f) j ⟨Z0,l⟩ ?_;rintro⟨i,x⟩ ⟨q,t⟩;refine S7 (k i x q t) (λg r=> ?_) (λ_ _ h=>h) (λ_ h=>h);obtain⟨h,y,d,o⟩:=r;refine⟨(i+1,y),⟨by simp only;omega,d⟩,o,?_⟩;simp only[X1,hc];simp;omega
end
def K5:Fn:=⟨5,[0,2,3,5,12],
pQ [pR [pV 1 (pU 0),pV 2 (pI 0)],pQ [pR [pV 3 (.bin .eql (.s 0) (pU 0))]] (.cond (.s 3) (pQ [pR [pV 1 (pU 0),pV 2 (pI 6)]] .ret) .skip),pQ [.reg ⟨[.lt 5 [] (.bin .eql (.bin .rem (.s 0) (pU 2)) (pU 0))],[([(5,xh)],.bin .eql (.s 0) (pU 1))],[pV 4 (.ite (.s 5) pT (.bin .eql (.s 0) (pU 1)))]⟩] (.cond (.s 4) (pQ [pR [pV 1 (pU 0),pV 2 (pI 3)]] .ret) .skip),pR [pV 1 (.bin .quo (.s 0) (pU 2)),pV 2 (pI 0)]] .ret,[(1,.v),(2,.v)]⟩
def Pj:ZK Sol.prog fresh sig [.fz] [] Try.f44=xk K5:=Z2
def Hw:Fn:=⟨5,[0,2,3,4,20],
pQ [pR [(1,.m [pI 0,pI 0]),pV 2 (pI 0)],pR [(3,pM (.ag [.conv .i64 (.bin .rem (.bin .shr (.s 0) (pU 1)) (pU 65536)),.conv .i64 (.bin .shr (.s 0) (pU 17))]) 2)],pQ [.reg ⟨[.lt 5 [] (.bin .neq (.bin .rem (.s 0) (pU 2)) (pU 0)),.call 6 [(5,xh)] (.id 94) xh xh [.mm 3 0 2]],[([(5,xh)],.un .not (.s 6))],[pV 4 (.ite (.s 5) pT (.un .not (.s 6)))]⟩] (.cond (.s 4) (pQ [pR [(1,pM (.ag [pI 0,pI 0]) 2),pV 2 (pI 3)]] .ret) .skip),pR [(1,pM (.mm 3 0 2) 2),pV 2 (pI 0)]] .ret,[(1,(.ag 2)),(2,.v)]⟩
def PA:ZK Sol.prog fresh sig [.fz] [] Try.f69=xk Hw:=Z2
def HM:Fn:=⟨3,[0,1,2],
pQ [pR [(1,pS 0 2),pV 2 pF],.reg ⟨[.lt 3 [] (.bin .geq (.m 1 0) (pI 0)),.lt 4 [] (.ite (.s 3) (.bin .leq (.m 1 0) (pI 255)) pF),.lt 5 [] (.ite (.s 4) (.bin .geq (.m 1 1) (pI 0)) pF)],[([(3,xy)],.bin .leq (.m 1 0) (pI 255)),([(4,xy)],.bin .geq (.m 1 1) (pI 0)),([(5,xy)],.bin .leq (.m 1 1) (.m 1 0))],[pV 2 (.ite (.s 5) (.bin .leq (.m 1 1) (.m 1 0)) pF)]⟩] .ret,[(2,.v)]⟩
def PN:ZK Sol.prog fresh sig [.fz] [] Try.f94=xk HM:=Z2
def zO:Fn:=⟨4,[0,2,3,9],
pQ [pR [pV 1 (pU 0),pV 2 (pI 0)],pQ [.reg ⟨[.lt 4 [] (.bin .lss (.s 0) (pU 1))],[([(4,xh)],.bin .gtr (.s 0) (pU 9223372036854775807))],[pV 3 (.ite (.s 4) pT (.bin .gtr (.s 0) (pU 9223372036854775807)))]⟩] (.cond (.s 3) (pQ [pR [pV 1 (pU 0),pV 2 (pI 1)]] .ret) .skip),pR [pV 1 (.bin .add (.bin .mul (pU 2) (.s 0)) (pU 1)),pV 2 (pI 0)]] .ret,[(1,.v),(2,.v)]⟩
def PO:ZK Sol.prog fresh sig [.fz] [] Try.f95=xk zO:=Z2
def HP:Fn:=⟨6,[0,1,2,3,4,8],
pQ [pR [(1,pS 0 2),pV 2 (pU 0),pV 3 (pI 0)],pC [pK 6 116 [.mm 1 0 2]] [pV 4 (.s 6)],pQ [pR [pV 5 (.un .not (.s 4))]] (.cond (.s 5) (pQ [pR [pV 2 (pU 0),pV 3 (pI 1)]] .ret) .skip),pR [pV 2 (.bin .mul (pU 2) (.bin .add (.conv .u64 (.m 1 0)) (.bin .mul (pU 65536) (.conv .u64 (.m 1 1))))),pV 3 (pI 0)]] .ret,[(2,.v),(3,.v)]⟩
def PP:ZK Sol.prog fresh sig [.fz] [] Try.f99=xk HP:=Z2
def zK:Fn:=⟨4,[0,2,3,9],
pQ [pR [pV 1 (pU 0),pV 2 (pI 0)],pQ [.reg ⟨[.lt 4 [] (.bin .lss (.s 0) (pU 1))],[([(4,xh)],.bin .gtr (.s 0) (pU 9223372036854775807))],[pV 3 (.ite (.s 4) pT (.bin .gtr (.s 0) (pU 9223372036854775807)))]⟩] (.cond (.s 3) (pQ [pR [pV 1 (pU 0),pV 2 (pI 1)]] .ret) .skip),pR [pV 1 (.bin .add (.bin .mul (pU 2) (.s 0)) (pU 1)),pV 2 (pI 0)]] .ret,[(1,.v),(2,.v)]⟩
def OD:ZK Sol.prog fresh sig [.fz] [] Try.f101=xk zK:=Z2
def GZ:Fn:=⟨3,[0,1,2],
pQ [pR [(1,pS 0 2),pV 2 pF],.reg ⟨[.lt 3 [] (.bin .geq (.m 1 0) (pI 0)),.lt 4 [] (.ite (.s 3) (.bin .leq (.m 1 0) (pI 255)) pF),.lt 5 [] (.ite (.s 4) (.bin .geq (.m 1 1) (pI 0)) pF)],[([(3,xy)],.bin .leq (.m 1 0) (pI 255)),([(4,xy)],.bin .geq (.m 1 1) (pI 0)),([(5,xy)],.bin .leq (.m 1 1) (.m 1 0))],[pV 2 (.ite (.s 5) (.bin .leq (.m 1 1) (.m 1 0)) pF)]⟩] .ret,[(2,.v)]⟩
def OO:ZK Sol.prog fresh sig [.fz] [] Try.f116=xk GZ:=Z2
end Vm
end
section
namespace Vm
open Go Go.Proofs
def YD(n:Int):Prop:= -9223372036854775808<=n/\n<=9223372036854775807
def ZA(n:Int):Prop:=0<=n/\n<18446744073709551616
def ZT(n:Int)(a:0<=n)(h2:n<=18446744073709551615):IntKind.u64.wrap n=n:=by
 rw[IntKind.wrap_u64];omega
def Yb{α:Type}{l:List α}{i:Nat}{x:α}(h:l[i]?=xk x):∀a:i<P l,l[i]'a=x:=λa=>by
 rw[ZcM a]at h;exact ZeD h
def Yx(size ptrs:Int):Bool:=decide (0<=size)&&decide (size<=255)&&decide (0<=ptrs)&&decide (ptrs<=size)
theorem YG{s p:Int}:Yx s p=xy↔0<=s/\s<=255/\0<=p/\p<=s:=by simp[Yx,and_assoc]
abbrev QP(s p:Int):V:=.agg [vi s,vi p]
def IG{s p:Int}:VC Sol.prog 94 xh [QP s p] (.bool (Yx s p)):=by
 refine ZV Sol.func94 follows Z2 PN rfl ?_;by_cases a:0<=s<;>by_cases d:s<=255<;>by_cases f:0<=p<;>by_cases g:p<=s<;>simp[HM,Yx,a,d,f,g]
def Z5m{s p:Int}:VC Sol.prog 116 xh [QP s p] (.bool (Yx s p)):=by
 refine ZV Sol.func116 follows Z2 OO rfl ?_;by_cases a:0<=s<;>by_cases d:s<=255<;>by_cases f:0<=p<;>by_cases g:p<=s<;>simp[GZ,Yx,a,d,f,g]
def adr(w:Int):Int×Int:=if w=0 then(0,6)else if w%2=0\/w=1 then(0,3)else(w / 2,0)
def J6{w:Int}(l:ZA w):VC Sol.prog 44 xh [vu w] (.tup [vu (adr w).1,vi (adr w).2]):=by
 refine ZV Sol.func44 follows Z2 Pj rfl ?_;obtain⟨f,n⟩:=l;have d:w.tmod 2=w%2:=Ze5 f;have j:w.tdiv 2=w / 2:=Zg8 f;have k:=ZT (w / 2) Z0 Z0;by_cases a:w=0;simp[K5,adr,a];by_cases g:w%2=0;simp[K5,adr,a,d,g];by_cases h:w=1;subst h;simp[K5,adr];simp[K5,adr,a,d,j,g,h,k]
def XC(a:Int):Int×Int:=if a<1\/9223372036854775807<a then(0,1)else(2*a+1,0)
def Z4K{a:Int}(j:ZA a):VC Sol.prog 95 xh [vu a] (.tup [vu (XC a).1,vi (XC a).2]):=by
 refine ZV Sol.func95 follows Z2 PO rfl ?_;obtain⟨k,l⟩:=j;by_cases d:a<1;simp[zO,XC,d];by_cases f:9223372036854775807<a;simp[zO,XC,d,f];have g:=ZT (2*a) Z0 Z0;have h:=ZT (2*a+1) Z0 Z0;simp[zO,XC,d,f,g,h]
def Z5j{a:Int}(j:ZA a):VC Sol.prog 101 xh [vu a] (.tup [vu (XC a).1,vi (XC a).2]):=by
 refine ZV Sol.func101 follows Z2 OD rfl ?_;obtain⟨k,l⟩:=j;by_cases d:a<1;simp[zK,XC,d];by_cases f:9223372036854775807<a;simp[zK,XC,d,f];have g:=ZT (2*a) Z0 Z0;have h:=ZT (2*a+1) Z0 Z0;simp[zK,XC,d,f,g,h]
def U6(s p:Int):Int×Int:=if Yx s p then(2*(s+65536*p),0)else(0,1)
def Z5i{s p:Int}:VC Sol.prog 99 xh [QP s p] (.tup [vu (U6 s p).1,vi (U6 s p).2]):=by
 refine ZV Sol.func99 follows Z2 PP rfl ?_;simp[HP];refine Zy Z5m Z1 ?_;cases h:Yx s p;simp[U6,h];obtain⟨k,l,n,o⟩:=YG.1 h;have a:=ZT s Z0 Z0;have d:=ZT p Z0 Z0;have f:=ZT (65536*p) Z0 Z0;have g:=ZT (s+65536*p) Z0 Z0;have j:=ZT (2*(s+65536*p)) Z0 Z0;simp[U6,h,a,d,f,g,j]
def ZP(w:Int):Int×Int×Int:=if w%2=0/\Yx (w / 2%65536) (w / 131072)=xy then(w / 2%65536,w / 131072,0)else(0,0,3)
def MK{w:Int}(l:ZA w):VC Sol.prog 69 xh [vu w] (.tup [QP (ZP w).1 (ZP w).2.1,vi (ZP w).2.2]):=by
 refine ZV Sol.func69 follows Z2 PA rfl ?_;obtain⟨k,r⟩:=l;have p:w.fdiv (2 ^ min 1 IntKind.u64.bits)=w / 2:=by
  rw[show(2:Int) ^ min 1 IntKind.u64.bits=2 by decide];exact Zg7 _ Z0
 have q:w.fdiv (2 ^ min 17 IntKind.u64.bits)=w / 131072:=by
  rw[show(2:Int) ^ min 17 IntKind.u64.bits=131072 by decide];exact Zg7 _ Z0
 have n:=ZT (w / 2) Z0 Z0;have o:=ZT (w / 131072) Z0 Z0;have f:w.tmod 2=w%2:=Ze5 k;have g:(w / 2).tmod 65536=w / 2%65536:=Ze5 Z0;have h:=Zz (w / 2%65536) Z0 Z0;have j:=Zz (w / 131072) Z0 Z0;simp[Hw,X9,p,q,f,g,h,j,n,o];by_cases a:w%2=0;simp[a];refine Zy IG Z1 ?_;cases d:Yx (w / 2%65536) (w / 131072);simp[ZP,a,d];simp[ZP,a,d];simp[a,ZP]
end Vm
end
section
namespace Vm
open Go
open Go.Proofs
def Hg:Fn:=⟨11,[0,1,2,3,4,5,6,12,7,8,28],
pQ [pR [(2,pS 0 7),(3,pS 1 2),pV 4 (pU 0),pV 5 (pI 0)],pC [pK 11 62 [.mm 2 0 7]] [pV 6 (.s 11)],pQ [pR [pV 7 (.un .not (.s 6))]] (.cond (.s 7) (pQ [pR [pV 4 (pU 0),pV 5 (pI 1)]] .ret) .skip),pC [pK 12 63 [.mm 2 0 7,.m 3 0]] [pV 8 (.ext (.s 12) 0),pV 9 (.ext (.s 12) 1)],pQ [.reg ⟨[.lt 13 [] (.bin .lss (.m 3 1) (pI 0))],[([(13,xh)],.bin .geq (.m 3 1) (.s 9))],[pV 10 (.ite (.s 13) pT (.bin .geq (.m 3 1) (.s 9)))]⟩] (.cond (.s 10) (pQ [pR [pV 4 (pU 0),pV 5 (pI 6)]] .ret) .skip),pR [pV 4 (.bin .add (.s 8) (.conv .u64 (.m 3 1))),pV 5 (pI 0)]] .ret,[(4,.v),(5,.v)]⟩
def Pe:ZK Sol.prog fresh sig [.fz,.fz] [] Try.f31=xk Hg:=Z2
def Hs:Fn:=⟨5,[0,1,2,35,53],
pQ [pR [(1,pS 0 7),pV 2 pF],pQ [.reg ⟨[.lt 5 [] (.bin .lss (.m 1 0) (pU 1)),.lt 6 [] (.ite (.s 5) pT (.bin .lss (.m 1 1) (pI 0))),.lt 7 [] (.ite (.s 6) pT (.bin .gtr (.m 1 1) (pI 4096))),.lt 8 [] (.ite (.s 7) pT (.bin .gtr (.m 1 0) (.bin .sub (pU 9223372036854775808) (.bin .mul (pU 2) (.conv .u64 (.m 1 1)))))),.lt 9 [] (.ite (.s 8) pT (.bin .lss (.m 1 2) (pI 0)))],[([(5,xh)],.bin .lss (.m 1 1) (pI 0)),([(6,xh)],.bin .gtr (.m 1 1) (pI 4096)),([(7,xh)],.bin .gtr (.m 1 0) (.bin .sub (pU 9223372036854775808) (.bin .mul (pU 2) (.conv .u64 (.m 1 1))))),([(8,xh)],.bin .lss (.m 1 2) (pI 0)),([(9,xh)],.bin .gtr (.m 1 2) (pI 1))],[pV 3 (.ite (.s 9) pT (.bin .gtr (.m 1 2) (pI 1)))]⟩] (.cond (.s 3) (pQ [pR [pV 2 pF]] .ret) .skip),pQ [.reg ⟨[.lt 10 [] (.bin .lss (.m 1 3) (pI 0)),.lt 11 [] (.ite (.s 10) pT (.bin .lss (.m 1 4) (pI 0))),.lt 12 [] (.ite (.s 11) pT (.bin .lss (.m 1 5) (pI 0)))],[([(10,xh)],.bin .lss (.m 1 4) (pI 0)),([(11,xh)],.bin .lss (.m 1 5) (pI 0)),([(12,xh)],.bin .lss (.m 1 6) (pI 0))],[pV 4 (.ite (.s 12) pT (.bin .lss (.m 1 6) (pI 0)))]⟩] (.cond (.s 4) (pQ [pR [pV 2 pF]] .ret) .skip),.reg ⟨[.lt 13 [] (.bin .leq (.m 1 3) (.m 1 1)),.lt 14 [] (.ite (.s 13) (.bin .leq (.m 1 4) (.bin .sub (.m 1 1) (.m 1 3))) pF),.lt 15 [] (.ite (.s 14) (.bin .leq (.m 1 5) (.m 1 1)) pF)],[([(13,xy)],.bin .leq (.m 1 4) (.bin .sub (.m 1 1) (.m 1 3))),([(14,xy)],.bin .leq (.m 1 5) (.m 1 1)),([(15,xy)],.bin .leq (.m 1 6) (.bin .sub (.m 1 1) (.m 1 5)))],[pV 2 (.ite (.s 15) (.bin .leq (.m 1 6) (.bin .sub (.m 1 1) (.m 1 5))) pF)]⟩] .ret,[(2,.v)]⟩
def Pw:ZK Sol.prog fresh sig [.fz] [] Try.f62=xk Hs:=Z2
def Av:Fn:=⟨12,[0,1,2,4,5,6,7,28,27,33,45,50],
pQ [pR [(2,pS 0 7),pV 3 (pU 0),pV 4 (pI 0)],pR [pV 5 (.bin .add (.m 2 0) (.conv .u64 (.bin .mul (.m 2 2) (.m 2 1))))],pR [pV 6 (.bin .add (.m 2 0) (.conv .u64 (.bin .mul (.bin .sub (pI 1) (.m 2 2)) (.m 2 1))))],pQ [pR [pV 8 (.s 1)]] (.block 0 (pQ [pR [pV 7 (.bin .eql (.s 8) (pI 1))]] (.cond (.s 7) (pQ [pR [pV 3 (.s 5),pV 4 (.m 2 3)]] .ret) (pQ [pR [pV 9 (.bin .eql (.s 8) (pI 2))]] (.cond (.s 9) (pQ [pR [pV 3 (.bin .add (.s 5) (.conv .u64 (.bin .sub (.m 2 1) (.m 2 4)))),pV 4 (.m 2 4)]] .ret) (pQ [pR [pV 10 (.bin .eql (.s 8) (pI 3))]] (.cond (.s 10) (pQ [pR [pV 3 (.s 6),pV 4 (.m 2 5)]] .ret) (pQ [pR [pV 11 (.bin .eql (.s 8) (pI 4))]] (.cond (.s 11) (pQ [pR [pV 3 (.bin .add (.s 6) (.conv .u64 (.bin .sub (.m 2 1) (.m 2 6)))),pV 4 (.m 2 6)]] .ret) .skip))))))))),pR [pV 3 (pU 0),pV 4 (pI 0)]] .ret,[(3,.v),(4,.v)]⟩
def Di:ZK Sol.prog fresh sig [.fz,.fz] [] Try.f63=xk Av:=Z2
def Hu:Fn:=⟨4,[0,1,2,25],
pQ [pR [(1,pS 0 7),pV 2 pF],pQ [.reg ⟨[.lt 4 [] (.bin .lss (.m 1 1) (pI 0)),.lt 5 [] (.ite (.s 4) pT (.bin .gtr (.m 1 1) (pI 4096))),.lt 6 [] (.ite (.s 5) pT (.bin .lss (.m 1 0) (pU 1)))],[([(4,xh)],.bin .gtr (.m 1 1) (pI 4096)),([(5,xh)],.bin .lss (.m 1 0) (pU 1)),([(6,xh)],.bin .gtr (.m 1 0) (.bin .sub (pU 9223372036854775808) (.bin .mul (pU 2) (.conv .u64 (.m 1 1)))))],[pV 3 (.ite (.s 6) pT (.bin .gtr (.m 1 0) (.bin .sub (pU 9223372036854775808) (.bin .mul (pU 2) (.conv .u64 (.m 1 1))))))]⟩] (.cond (.s 3) (pQ [pR [pV 2 pF]] .ret) .skip),.reg ⟨[.lt 7 [] (.bin .eql (.m 1 2) (pI 0)),.lt 8 [] (.ite (.s 7) pT (.bin .eql (.m 1 2) (pI 1))),.call 9 [(8,xy)] (.id 91) xh xh [.m 1 3,.m 1 4,.m 1 1],.lt 10 [] (.ite (.s 8) (.s 9) pF),.call 11 [(10,xy)] (.id 91) xh xh [.m 1 5,.m 1 6,.m 1 1]],[([(7,xh)],.bin .eql (.m 1 2) (pI 1))],[pV 2 (.ite (.s 10) (.s 11) pF)]⟩] .ret,[(2,.v)]⟩
def Py:ZK Sol.prog fresh sig [.fz] [] Try.f65=xk Hu:=Z2
def Hv:Fn:=⟨12,[0,1,2,4,5,10,14,15,7,6,13,31],
pQ [pR [(2,pS 0 7),(3,.m [pI 0,pI 0]),pV 4 (pI 0)],pQ [pC [pK 12 65 [.mm 2 0 7]] [pV 5 (.un .not (.s 12))]] (.cond (.s 5) (pQ [pR [(3,pM (.ag [pI 0,pI 0]) 2),pV 4 (pI 1)]] .ret) .skip),pQ [pC [pK 10 93 [.mm 2 0 7]] [pV 6 (pI 0)]] (.block 0 (.loop [0,1,2,3,4,5,6,10] (pQ [pR [pV 7 (.bin .lss (.s 6) (pI 4))],.cond (.s 7) .skip (.exit 0),.block 1 (pQ [pR [(8,pM (.sz (.ai (.s 10) (.s 6) 4 2 xy) 2) 2),pV 9 (.s 6)],.reg ⟨[.lt 13 [] (.bin .geq (.s 1) (.m 8 0))],[([(13,xy)],.bin .lss (.bin .sub (.s 1) (.m 8 0)) (.conv .u64 (.m 8 1)))],[pV 11 (.ite (.s 13) (.bin .lss (.bin .sub (.s 1) (.m 8 0)) (.conv .u64 (.m 8 1))) pF)]⟩] (.cond (.s 11) (pQ [pR [(3,pM (.ag [.bin .add (.s 9) (pI 1),.conv .i64 (.bin .sub (.s 1) (.m 8 0))]) 2),pV 4 (pI 0)]] .ret) .skip))] (pR [pV 6 (.bin .add (.s 6) (pI 1))])))),pR [(3,pM (.ag [pI 0,pI 0]) 2),pV 4 (pI 6)]] .ret,[(3,(.ag 2)),(4,.v)]⟩
def Pz:ZK Sol.prog fresh sig [.fz,.fz] [] Try.f67=xk Hv:=Z2
def Hx:Fn:=⟨4,[0,1,2,5],
pQ [pR [(1,pS 0 7),pV 2 (pI 0)],pQ [pC [pK 4 65 [.mm 1 0 7]] [pV 3 (.un .not (.s 4))]] (.cond (.s 3) (pQ [pR [pV 2 (pI 0)]] .ret) .skip),pR [pV 2 (.bin .sub (.bin .sub (.m 1 1) (.m 1 3)) (.m 1 4))]] .ret,[(2,.v)]⟩
def PB:ZK Sol.prog fresh sig [.fz] [] Try.f70=xk Hx:=Z2
def Hy:Fn:=⟨10,[0,1,2,3,4,5,9,17,6,33],
pQ [pR [(2,pS 0 7),(3,pS 1 2),pV 4 (pU 0),pV 5 (pI 0)],pQ [pC [pK 10 65 [.mm 2 0 7]] [pV 6 (.un .not (.s 10))]] (.cond (.s 6) (pQ [pR [pV 4 (pU 0),pV 5 (pI 1)]] .ret) .skip),pQ [.reg ⟨[.lt 11 [] (.bin .lss (.m 3 0) (pI 1))],[([(11,xh)],.bin .gtr (.m 3 0) (pI 4))],[pV 7 (.ite (.s 11) pT (.bin .gtr (.m 3 0) (pI 4)))]⟩] (.cond (.s 7) (pQ [pR [pV 4 (pU 0),pV 5 (pI 6)]] .ret) .skip),pC [pK 12 93 [.mm 2 0 7]] [(8,pM (.sz (.ai (.s 12) (.bin .sub (.m 3 0) (pI 1)) 4 2 xy) 2) 2)],pQ [.reg ⟨[.lt 13 [] (.bin .lss (.m 3 1) (pI 0))],[([(13,xh)],.bin .geq (.m 3 1) (.m 8 1))],[pV 9 (.ite (.s 13) pT (.bin .geq (.m 3 1) (.m 8 1)))]⟩] (.cond (.s 9) (pQ [pR [pV 4 (pU 0),pV 5 (pI 6)]] .ret) .skip),pR [pV 4 (.bin .add (.m 8 0) (.conv .u64 (.m 3 1))),pV 5 (pI 0)]] .ret,[(4,.v),(5,.v)]⟩
def PC:ZK Sol.prog fresh sig [.fz,.fz] [] Try.f75=xk Hy:=Z2
def zN:Fn:=⟨4,[0,1,2,6],
pQ [pR [pV 3 pF],.reg ⟨[.lt 4 [] (.bin .geq (.s 0) (pI 0)),.lt 5 [] (.ite (.s 4) (.bin .geq (.s 1) (pI 0)) pF),.lt 6 [] (.ite (.s 5) (.bin .leq (.s 0) (.s 2)) pF)],[([(4,xy)],.bin .geq (.s 1) (pI 0)),([(5,xy)],.bin .leq (.s 0) (.s 2)),([(6,xy)],.bin .leq (.s 1) (.bin .sub (.s 2) (.s 0)))],[pV 3 (.ite (.s 6) (.bin .leq (.s 1) (.bin .sub (.s 2) (.s 0))) pF)]⟩] .ret,[(3,.v)]⟩
def PL:ZK Sol.prog fresh sig [.fz,.fz,.fz] [] Try.f91=xk zN:=Z2
def HJ:Fn:=⟨3,[0,1,2],
pQ [pR [(1,pS 0 7),(2,.m [pU 0,pI 0,pU 0,pI 0,pU 0,pI 0,pU 0,pI 0])],pC [pK 3 113 [.mm 1 0 7,pI 1],pK 4 113 [.mm 1 0 7,pI 2],pK 5 113 [.mm 1 0 7,pI 3],pK 6 113 [.mm 1 0 7,pI 4]] [(2,pM (.ag [.fld (.ag [.one (.s 3),.m 1 3]) 0,.fld (.ag [.one (.s 3),.m 1 3]) 1,.fld (.ag [.one (.s 4),.m 1 4]) 0,.fld (.ag [.one (.s 4),.m 1 4]) 1,.fld (.ag [.one (.s 5),.m 1 5]) 0,.fld (.ag [.one (.s 5),.m 1 5]) 1,.fld (.ag [.one (.s 6),.m 1 6]) 0,.fld (.ag [.one (.s 6),.m 1 6]) 1]) 8)]] .ret,[(2,(.ag 8))]⟩
def PM:ZK Sol.prog fresh sig [.fz] [] Try.f93=xk HJ:=Z2
def K3:Fn:=⟨10,[0,1,2,4,5,9,8,11,13,15],
pQ [pR [(2,pS 0 7),pV 3 (pU 0)],pR [pV 4 (.m 2 0)],pQ [pR [pV 6 (.s 1)]] (.block 0 (pQ [.block 4 (pQ [.block 3 (pQ [.block 2 (pQ [.block 1 (pQ [pQ [pQ [pR [pV 5 (.bin .eql (.s 6) (pI 2))]] (.cond (.s 5) (.exit 1) .skip),pQ [pR [pV 7 (.bin .eql (.s 6) (pI 1))]] (.cond (.s 7) (.exit 2) .skip),pQ [pR [pV 8 (.bin .eql (.s 6) (pI 4))]] (.cond (.s 8) (.exit 3) .skip),pR [pV 9 (.bin .eql (.s 6) (pI 3))]] (.cond (.s 9) (.exit 4) .skip)] (.exit 0))] (pR [pV 4 (.bin .add (.s 4) (.conv .u64 (.bin .sub (.m 2 1) (.m 2 4))))])),pR [pV 4 (.bin .add (.s 4) (.conv .u64 (.bin .mul (.m 2 2) (.m 2 1))))]] (.exit 0))] (pR [pV 4 (.bin .add (.s 4) (.conv .u64 (.bin .sub (.m 2 1) (.m 2 6))))])),pR [pV 4 (.bin .add (.s 4) (.conv .u64 (.bin .mul (.bin .sub (pI 1) (.m 2 2)) (.m 2 1))))]] (.exit 0))),pR [pV 3 (.s 4)]] .ret,[(3,.v)]⟩
def ON:ZK Sol.prog fresh sig [.fz,.fz] [] Try.f113=xk K3:=Z2
end Vm
end
section
namespace Vm
open Go Go.Proofs
structure Ly where
 base:Int
 cap:Int
 to:Int
 low:Int
 high:Int
 old:Int
 far:Int
 deriving DecidableEq,Inhabited
def YI(l:Ly):V:=.agg [vu l.base,vi l.cap,vi l.to,vi l.low,vi l.high,vi l.old,vi l.far]
@[simp]theorem Zbm(l:Ly):Ve (YI l) 7=xk (YI l):=rfl
@[simp]theorem Zai(l:Ly):(YI l).cells=[vu l.base,vi l.cap,vi l.to,vi l.low,vi l.high,vi l.old,vi l.far]:=rfl
@[simp]theorem Z9o(l:Ly):ZW (YI l) 0=xk (vu l.base):=rfl
@[simp]theorem Z9p(l:Ly):ZW (YI l) 1=xk (vi l.cap):=rfl
@[simp]theorem Z9q(l:Ly):ZW (YI l) 2=xk (vi l.to):=rfl
@[simp]theorem Z9r(l:Ly):ZW (YI l) 3=xk (vi l.low):=rfl
@[simp]theorem Z9s(l:Ly):ZW (YI l) 4=xk (vi l.high):=rfl
@[simp]theorem Z9t(l:Ly):ZW (YI l) 5=xk (vi l.old):=rfl
@[simp]theorem Z9u(l:Ly):ZW (YI l) 6=xk (vi l.far):=rfl
def Ly.fits(l:Ly):Prop:=ZA l.base/\YD l.cap/\YD l.to/\YD l.low/\YD l.high/\YD l.old/\YD l.far
def Th(a b words:Int):Bool:=decide (0<=a)&&decide (0<=b)&&decide (a<=words)&&decide (b<=words-a)
def ZG(l:Ly):Bool:=decide (0<=l.cap)&&decide (l.cap<=4096)&&decide (1<=l.base)&&decide (l.base<=9223372036854775808-2*l.cap)&&(decide (l.to=0)||decide (l.to=1))&&Th l.low l.high l.cap&&Th l.old l.far l.cap
theorem VS{l:Ly}:ZG l=xy↔0<=l.cap/\l.cap<=4096/\1<=l.base/\l.base<=9223372036854775808-2*l.cap/\(l.to=0\/l.to=1)/\(0<=l.low/\0<=l.high/\l.low<=l.cap/\l.high<=l.cap-l.low)/\(0<=l.old/\0<=l.far/\l.old<=l.cap/\l.far<=l.cap-l.old):=by
 simp[ZG,Th,and_assoc]
theorem WY{l:Ly}:ZG l=xh↔ ¬(0<=l.cap/\l.cap<=4096/\1<=l.base/\l.base<=9223372036854775808-2*l.cap/\(l.to=0\/l.to=1)/\(0<=l.low/\0<=l.high/\l.low<=l.cap/\l.high<=l.cap-l.low)/\(0<=l.old/\0<=l.far/\l.old<=l.cap/\l.far<=l.cap-l.old)):=by
 grind [VS]
def N2{a b w:Int}(h:YD a)(n:YD b)(j:YD w):VC Sol.prog 91 xh [vi a,vi b,vi w] (.bool (Th a b w)):=by
 refine ZV Sol.func91 follows Z2 PL rfl ?_;obtain⟨k,l⟩:=h;obtain⟨w1,w2⟩:=j;by_cases d:0<=a;by_cases f:a<=w;have e:=Zz (w-a) Z0 Z0;simp_all[zN,Th];by_cases g:0<=b<;>simp[zN,Th,d,f,g];simp[zN,Th,d]
def Kr{l:Ly}(y:l.fits):VC Sol.prog 65 xh [YI l] (.bool (ZG l)):=by
 refine ZV Sol.func65 follows Z2 Py rfl ?_;obtain⟨⟨u,w⟩,x,B,p,q,r,t⟩:=y;obtain⟨d,c2⟩:=x;simp[Hu];by_cases g1:l.cap<0;grind [ZG,WY];by_cases g2:4096<l.cap;grind [ZG,WY];by_cases k:l.base<1;grind [ZG,WY];have f:=ZT l.cap Z0 Z0;have g:=ZT (2*l.cap) Z0 Z0;have j:=ZT (9223372036854775808-2*l.cap) Z0 Z0;by_cases n:9223372036854775808-2*l.cap<l.base;grind [ZG,WY];by_cases a:l.to=0\/l.to=1
 .have k1:=N2 p q ⟨d,c2⟩;have A:=N2 r t ⟨d,c2⟩;have z:ZG l=(Th l.low l.high l.cap&&Th l.old l.far l.cap):=by
   obtain h|h:=a<;>simp[ZG,show 0<=l.cap by omega,show l.cap<=4096 by omega,show 1<=l.base by omega,show l.base<=9223372036854775808-2*l.cap by omega,h]
  rw[z];obtain a|a:=a;all_goals
   cases o:Th l.low l.high l.cap;rw[o]at k1;simp[g1,g2,k,f,g,j,n,a];refine Zy k1 Z1 ?_;simp;rw[o]at k1;simp[g1,g2,k,f,g,j,n,a];refine Zy k1 Z1 ?_;simp;refine Zy A Z1 ?_;simp
 simp_all[ZG,WY]
def Z5n{l:Ly}(j:l.fits):VC Sol.prog 62 xh [YI l] (.bool (ZG l)):=by
 refine ZV Sol.func62 follows Z2 Pw rfl ?_;obtain⟨⟨f,g⟩,h,y,a,w,d,x⟩:=j;obtain⟨k,c2⟩:=h;simp[Hs];by_cases q:l.base<1;grind [ZG,WY];by_cases g1:l.cap<0;grind [ZG,WY];by_cases g2:4096<l.cap;grind [ZG,WY];have n:=ZT l.cap Z0 Z0;have o:=ZT (2*l.cap) Z0 Z0;have p:=ZT (9223372036854775808-2*l.cap) Z0 Z0;by_cases r:9223372036854775808-2*l.cap<l.base;grind [ZG,WY];by_cases t:l.to<0;grind [ZG,WY];by_cases u:1<l.to;grind [ZG,WY];by_cases D:l.low<0;grind [ZG,WY];by_cases F:l.high<0;grind [ZG,WY];by_cases G:l.old<0;grind [ZG,WY];by_cases H:l.far<0;grind [ZG,WY];obtain⟨z,A⟩:=a;obtain⟨B,C⟩:=d;have w1:=Zz (l.cap-l.low) Z0 Z0;have w2:=Zz (l.cap-l.old) Z0 Z0;grind [ZG,VS,WY]
def Xl(l:Ly):Int:=if ZG l then l.cap-l.low-l.high else 0
def Z5D{l:Ly}(a:l.fits):VC Sol.prog 70 xh [YI l] (vi (Xl l)):=by
 refine ZV Sol.func70 follows Z2 PB rfl ?_;simp[Hx];refine Zy (Kr a) Z1 ?_;cases h:ZG l;simp[Xl,h];have g:=VS.1 h;have d:=Zz (l.cap-l.low) Z0 Z0;have f:=Zz (l.cap-l.low-l.high) Z0 Z0;simp_all[Xl]
def fstL(l:Ly)(part:Int):Int:=
 if part=1 then l.base+l.to*l.cap else if part=2 then l.base+l.to*l.cap+(l.cap-l.high)else if part=3 then l.base+(1-l.to)*l.cap else l.base+(1-l.to)*l.cap+(l.cap-l.far)
def YR(l:Ly)(part:Int):Int:=if part=1 then l.low else if part=2 then l.high else if part=3 then l.old else l.far
def yN{l:Ly}(a:ZG l=xy):(l.to*l.cap=0/\(1-l.to)*l.cap=l.cap)\/(l.to*l.cap=l.cap/\(1-l.to)*l.cap=0):=by
 grind [VS]
theorem WH{l:Ly}(a:ZG l=xy)(k:Int):1<=fstL l k/\fstL l k+YR l k<=9223372036854775808/\0<=YR l k/\YR l k<=4096:=by
 have h:=VS.1 a;have d:=yN a;unfold fstL YR;omega
def Lr{l:Ly}(d:ZG l=xy){k:Int}(t:1<=k/\k<=4):VC Sol.prog 113 xh [YI l,vi k] (vu (fstL l k)):=by
 refine ZV Sol.func113 follows Z2 ON rfl ?_;have h:=VS.1 d;have u:=yN d;have w1:=Zz (l.to*l.cap) Z0 Z0;have w2:=Zz (1-l.to) Z0 Z0;have w3:=Zz ((1-l.to)*l.cap) Z0 Z0;have w4:=Zz (l.cap-l.high) Z0 Z0;have r:=Zz (l.cap-l.far) Z0 Z0;have f:=ZT (l.to*l.cap) Z0 Z0;have g:=ZT ((1-l.to)*l.cap) Z0 Z0;have j:=ZT (l.cap-l.high) Z0 Z0;have n:=ZT (l.cap-l.far) Z0 Z0;have v1:=ZT (l.base+l.to*l.cap) Z0 Z0;have o:=ZT (l.base+(l.cap-l.high)) Z0 Z0;have p:=ZT (l.base+(l.cap-l.high)+l.to*l.cap) Z0 Z0;have v4:=ZT (l.base+(1-l.to)*l.cap) Z0 Z0;have q:=ZT (l.base+(l.cap-l.far)) Z0 Z0;have v6:=ZT (l.base+(l.cap-l.far)+(1-l.to)*l.cap) Z0 Z0;have a:k=1\/k=2\/k=3\/k=4:=Z0;obtain rfl|rfl|rfl|rfl:=a;simp[K3,QZ,fstL,w1,f,v1];simp[K3,QZ,fstL,w1,f,w4,j,o,p];omega;simp[K3,QZ,fstL,w2,w3,g,v4];simp[K3,QZ,fstL,w2,w3,g,r,n,q,v6];omega
def WC(l:Ly):V:=.agg [vu (fstL l 1),vi l.low,vu (fstL l 2),vi l.high,vu (fstL l 3),vi l.old,vu (fstL l 4),vi l.far]
def Mn{l:Ly}(a:ZG l=xy):VC Sol.prog 93 xh [YI l] (WC l):=by
 refine ZV Sol.func93 follows Z2 PM rfl ?_;simp[HJ];refine Zy (Lr a (k:=1) Z0) (by simp[YI]) ?_;simp;refine Zy (Lr a (k:=2) Z0) (by simp[YI]) ?_;simp;refine Zy (Lr a (k:=3) Z0) (by simp[YI]) ?_;simp;refine Zy (Lr a (k:=4) Z0) (by simp[YI]) ?_;simp[WC]
@[simp]theorem Kv(l:Ly):YR l 1=l.low:=rfl
@[simp]theorem Kw(l:Ly):YR l 2=l.high:=rfl
@[simp]theorem Kx(l:Ly):YR l 3=l.old:=rfl
@[simp]theorem Ky(l:Ly):YR l 4=l.far:=rfl
def ZY(l:Ly)(part at_:Int):Int×Int:=
 if ZG l=xh then(0,1)else if part<1\/4<part then(0,6)else if at_<0\/YR l part<=at_ then(0,6)else(fstL l part+at_,0)
def CN{l:Ly}(p:l.fits){part at_:Int}:VC Sol.prog 75 xh [YI l,.agg [vi part,vi at_]] (.tup [vu (ZY l part at_).1,vi (ZY l part at_).2]):=by
 refine ZV Sol.func75 follows Z2 PC rfl ?_;simp[Hy];refine Zy (Kr p) Z1 ?_;cases d:ZG l;simp[ZY,d];simp;by_cases k:part<1;grind [ZY];by_cases n:4<part;simp_all[ZY];have o:part=1\/part=2\/part=3\/part=4:=Z0;simp[k,n];refine Zy (Mn d) Z1 ?_;obtain rfl|rfl|rfl|rfl:=o;have a:=WH d 1;simp only[Kv]at a;simp[WC,Y4,Zz];by_cases f:at_<0;grind [ZY];by_cases g:l.low<=at_;simp_all[ZY];have h:=ZT at_ Z0 Z0;have j:=ZT (fstL l 1+at_) Z0 Z0;simp_all[ZY];have a:=WH d 2;simp only[Kw]at a;simp[WC,Y4,Zz];by_cases f:at_<0;grind [ZY];by_cases g:l.high<=at_;simp_all[ZY];have h:=ZT at_ Z0 Z0;have j:=ZT (fstL l 2+at_) Z0 Z0;simp_all[ZY];have a:=WH d 3;simp only[Kx]at a;simp[WC,Y4,Zz];by_cases f:at_<0;grind [ZY];by_cases g:l.old<=at_;simp_all[ZY];have h:=ZT at_ Z0 Z0;have j:=ZT (fstL l 3+at_) Z0 Z0;simp_all[ZY];have a:=WH d 4;simp only[Ky]at a;simp[WC,Y4,Zz];by_cases f:at_<0;grind [ZY];by_cases g:l.far<=at_;simp_all[ZY];have h:=ZT at_ Z0 Z0;have j:=ZT (fstL l 4+at_) Z0 Z0;simp_all[ZY]
def yf{l:Ly}(d:ZG l=xy){k:Int}(r:1<=k/\k<=4):VC Sol.prog 63 xh [YI l,vi k] (.tup [vu (fstL l k),vi (YR l k)]):=by
 refine ZV Sol.func63 follows Z2 Di rfl ?_;have h:=VS.1 d;have t:=yN d;have w1:=Zz (l.to*l.cap) Z0 Z0;have w2:=Zz (1-l.to) Z0 Z0;have w3:=Zz ((1-l.to)*l.cap) Z0 Z0;have w4:=Zz (l.cap-l.high) Z0 Z0;have q:=Zz (l.cap-l.far) Z0 Z0;have f:=ZT (l.to*l.cap) Z0 Z0;have g:=ZT ((1-l.to)*l.cap) Z0 Z0;have j:=ZT (l.cap-l.high) Z0 Z0;have n:=ZT (l.cap-l.far) Z0 Z0;have v1:=ZT (l.base+l.to*l.cap) Z0 Z0;have o:=ZT (l.base+l.to*l.cap+(l.cap-l.high)) Z0 Z0;have v4:=ZT (l.base+(1-l.to)*l.cap) Z0 Z0;have p:=ZT (l.base+(1-l.to)*l.cap+(l.cap-l.far)) Z0 Z0;have a:k=1\/k=2\/k=3\/k=4:=Z0;obtain rfl|rfl|rfl|rfl:=a;all_goals simp[Av,QZ,fstL,w1,f,w2,w3,g,w4,j,q,n,v1,o,v4,p]
def Z5g{l:Ly}(d:ZG l=xy){k:Int}(a:k<1\/4<k):VC Sol.prog 63 xh [YI l,vi k] (.tup [vu 0,vi 0]):=by
 refine ZV Sol.func63 follows Z2 Di rfl ?_;simp[Av,QZ,show k≠1 by omega,show k≠2 by omega,show k≠3 by omega,show k≠4 by omega]
def Iu{l:Ly}(p:l.fits){part at_:Int}:VC Sol.prog 31 xh [YI l,.agg [vi part,vi at_]] (.tup [vu (ZY l part at_).1,vi (ZY l part at_).2]):=by
 refine ZV Sol.func31 follows Z2 Pe rfl ?_;simp[Hg];refine Zy (Z5n p) Z1 ?_;cases a:ZG l;simp[ZY,a];simp;by_cases n:part<1\/4<part;refine Zy (Z5g a n) Z1 ?_;by_cases d:at_<0;simp[ZY,a,n,d];simp[ZY,a,n,d,show 0<=at_ by omega];have o:part=1\/part=2\/part=3\/part=4:=Z0;obtain rfl|rfl|rfl|rfl:=o;have g:=WH a 1;simp only[Kv]at g;refine Zy (yf a (k:=1) Z0) Z1 ?_;by_cases d:at_<0;simp[ZY,a,d];by_cases f:l.low<=at_;simp[ZY,a,d,f];have h:=ZT at_ Z0 Z0;have j:=ZT (fstL l 1+at_) Z0 Z0;simp[ZY,a,d,f,h,j];have g:=WH a 2;simp only[Kw]at g;refine Zy (yf a (k:=2) Z0) Z1 ?_;by_cases d:at_<0;simp[ZY,a,d];by_cases f:l.high<=at_;simp[ZY,a,d,f];have h:=ZT at_ Z0 Z0;have j:=ZT (fstL l 2+at_) Z0 Z0;simp[ZY,a,d,f,h,j];have g:=WH a 3;simp only[Kx]at g;refine Zy (yf a (k:=3) Z0) Z1 ?_;by_cases d:at_<0;simp[ZY,a,d];by_cases f:l.old<=at_;simp[ZY,a,d,f];have h:=ZT at_ Z0 Z0;have j:=ZT (fstL l 3+at_) Z0 Z0;simp[ZY,a,d,f,h,j];have g:=WH a 4;simp only[Ky]at g;refine Zy (yf a (k:=4) Z0) Z1 ?_;by_cases d:at_<0;simp[ZY,a,d];by_cases f:l.far<=at_;simp[ZY,a,d,f];have h:=ZT at_ Z0 Z0;have j:=ZT (fstL l 4+at_) Z0 Z0;simp[ZY,a,d,f,h,j]
def YW(l:Ly)(a k:Int):Bool:=decide (fstL l k<=a)&&decide (a<fstL l k+YR l k)
theorem Tx{l:Ly}{a k:Int}:YW l a k=xy↔fstL l k<=a/\a<fstL l k+YR l k:=by simp[YW]
def LQ{l:Ly}{a k:Int}:YW l a k=xh↔ ¬(fstL l k<=a/\a<fstL l k+YR l k):=by grind [Tx]
def Y9(l:Ly)(a:Int):Int×Int×Int:=
 if ZG l=xh then(0,0,1)else if YW l a 1 then(1,a-fstL l 1,0)else if YW l a 2 then(2,a-fstL l 2,0)else if YW l a 3 then(3,a-fstL l 3,0)else if YW l a 4 then(4,a-fstL l 4,0)else(0,0,6)
def Z0o{l:Ly}(x:l.fits){a:Int}(w:ZA a):VC Sol.prog 67 xh [YI l,vu a] (.tup [.agg [vi (Y9 l a).1,vi (Y9 l a).2.1],vi (Y9 l a).2.2]):=by
 refine ZV Sol.func67 follows Z2 Pz rfl ?_;simp[Hv];refine Zy (Kr x) Z1 ?_;cases o:ZG l;simp[Y9,o];obtain⟨z,A⟩:=w;simp;refine Zy (Mn o) (by simp[YI]) ?_;simp;have r:∀k,1<=fstL l k/\fstL l k+YR l k<=9223372036854775808/\0<=YR l k/\YR l k<=4096:=λk=>WH o k;have w1:=r 1;have w2:=r 2;have w3:=r 3;have w4:=r 4;simp only[Kv,Kw,Kx,Ky]at w1 w2 w3 w4;refine KQ 6 4 (λi=>(0<i->YW l a 1=xh)/\(1<i->YW l a 2=xh)/\(2<i->YW l a 3=xh)/\(3<i->YW l a 4=xh)) Z1 Z1 Z1 ?_;rintro i B ⟨n,p,t,y⟩;have u:i=0\/i=1\/i=2\/i=3\/i=4:=Z0;obtain rfl|rfl|rfl|rfl|rfl:=u;have h:=ZT l.low Z0 Z0;by_cases f:fstL l 1<=a;have j:=ZT (a-fstL l 1) Z0 Z0;by_cases g:a-fstL l 1<l.low;have q:=Zz (a-fstL l 1) Z0 Z0;have d:YW l a 1=xy:=Tx.2 ⟨f,by rw[Kv];omega⟩;simp[WC,Y4,Zz,f,h,j,g,q,Y9,o,d];have d:YW l a 1=xh:=LQ.2 (by rw[Kv];omega);simp[WC,Y4,Zz,f,h,j,g,d];have d:YW l a 1=xh:=by simp[YW,f]
 simp[WC,Y4,Zz,f,d];have h:=ZT l.high Z0 Z0;by_cases f:fstL l 2<=a;have j:=ZT (a-fstL l 2) Z0 Z0;by_cases g:a-fstL l 2<l.high;have q:=Zz (a-fstL l 2) Z0 Z0;have d:YW l a 2=xy:=Tx.2 ⟨f,by rw[Kw];omega⟩;simp[WC,Y4,Zz,f,h,j,g,q,Y9,o,d,n Z0];have d:YW l a 2=xh:=LQ.2 (by rw[Kw];omega);simp[WC,Y4,Zz,f,h,j,g,d,n Z0];have d:YW l a 2=xh:=by simp[YW,f]
 simp[WC,Y4,Zz,f,d,n Z0];have h:=ZT l.old Z0 Z0;by_cases f:fstL l 3<=a;have j:=ZT (a-fstL l 3) Z0 Z0;by_cases g:a-fstL l 3<l.old;have q:=Zz (a-fstL l 3) Z0 Z0;have d:YW l a 3=xy:=Tx.2 ⟨f,by rw[Kx];omega⟩;simp[WC,Y4,Zz,f,h,j,g,q,Y9,o,d,n Z0,p Z0];have d:YW l a 3=xh:=LQ.2 (by rw[Kx];omega);simp[WC,Y4,Zz,f,h,j,g,d,n Z0,p Z0];have d:YW l a 3=xh:=by simp[YW,f]
 simp[WC,Y4,Zz,f,d,n Z0,p Z0];have h:=ZT l.far Z0 Z0;by_cases f:fstL l 4<=a;have j:=ZT (a-fstL l 4) Z0 Z0;by_cases g:a-fstL l 4<l.far;have q:=Zz (a-fstL l 4) Z0 Z0;have d:YW l a 4=xy:=Tx.2 ⟨f,by rw[Ky];omega⟩;simp[WC,Y4,Zz,f,h,j,g,q,Y9,o,d,n Z0,p Z0,t Z0];have d:YW l a 4=xh:=LQ.2 (by rw[Ky];omega);simp[WC,Y4,Zz,f,h,j,g,d,n Z0,p Z0,t Z0];have d:YW l a 4=xh:=by simp[YW,f]
 simp[WC,Y4,Zz,f,d,n Z0,p Z0,t Z0];simp[Y9,o,n Z0,p Z0,t Z0,y Z0]
end Vm
end
section
namespace Vm
open Go
open Go.Proofs
def zL:Fn:=⟨8,[0,1,2,4,6,5,10,14],
pQ [pR [(2,pS 0 10),pV 3 pN],pQ [pR [pV 5 (.s 1)]] (.block 0 (pQ [pR [pV 4 (.bin .eql (.s 5) (pI 1))]] (.cond (.s 4) (pQ [pR [pV 3 (.m 2 5)]] .ret) (pQ [pR [pV 6 (.bin .eql (.s 5) (pI 2))]] (.cond (.s 6) (pQ [pR [pV 3 (.m 2 6)]] .ret) (pQ [pR [pV 7 (.bin .eql (.s 5) (pI 3))]] (.cond (.s 7) (pQ [pR [pV 3 (.m 2 7)]] .ret) .skip))))))),pR [pV 3 (.m 2 8)]] .ret,[(3,.v)]⟩
def Pb:ZK Sol.prog fresh sig [.fz,.fz] [] Try.f28=xk zL:=Z2
def zM:Fn:=⟨9,[0,1,2,3,6,10,7,14,18],
pQ [pR [(3,pS 0 10),(4,pZ)],pQ [pR [pV 6 (.s 1)]] (.block 0 (pQ [pR [pV 5 (.bin .eql (.s 6) (pI 1))]] (.cond (.s 5) (pR [(3,.m [.m 3 0,.m 3 1,.m 3 2,.m 3 3,.m 3 4,.one (.s 2),.m 3 6,.m 3 7,.m 3 8,.m 3 9])]) (pQ [pR [pV 7 (.bin .eql (.s 6) (pI 2))]] (.cond (.s 7) (pR [(3,.m [.m 3 0,.m 3 1,.m 3 2,.m 3 3,.m 3 4,.m 3 5,.one (.s 2),.m 3 7,.m 3 8,.m 3 9])]) (pQ [pR [pV 8 (.bin .eql (.s 6) (pI 3))]] (.cond (.s 8) (pR [(3,.m [.m 3 0,.m 3 1,.m 3 2,.m 3 3,.m 3 4,.m 3 5,.m 3 6,.one (.s 2),.m 3 8,.m 3 9])]) (pR [(3,.m [.m 3 0,.m 3 1,.m 3 2,.m 3 3,.m 3 4,.m 3 5,.m 3 6,.m 3 7,.one (.s 2),.m 3 9])])))))))),pR [(4,pM (.mm 3 0 10) 10)]] .ret,[(4,(.ag 10))]⟩
def Pc:ZK Sol.prog fresh sig [.fz,.fz,.fz] [] Try.f29=xk zM:=Z2
def Hh:Fn:=⟨3,[0,1,2],
pQ [pR [(1,pS 0 10),(2,.m [pU 0,pI 0,pI 0,pI 0,pI 0,pI 0,pI 0])],pR [(2,pM (.ag [.m 1 0,.m 1 1,.m 1 2,.len (.m 1 5),.len (.m 1 6),.len (.m 1 7),.len (.m 1 8)]) 7)]] .ret,[(2,(.ag 7))]⟩
def Pf:ZK Sol.prog fresh sig [.fz] [] Try.f32=xk Hh:=Z2
def Hj:Fn:=⟨10,[0,1,2,3,4,39,5,41,6,52],
pQ [pR [(2,pS 0 10),(3,pS 1 10),pV 4 pF],pQ [.reg ⟨[.lt 10 [] (.bin .neq (.m 2 0) (.m 3 0)),.lt 11 [] (.ite (.s 10) pT (.bin .neq (.m 2 1) (.m 3 1))),.lt 12 [] (.ite (.s 11) pT (.bin .neq (.m 2 2) (.m 3 2))),.lt 13 [] (.ite (.s 12) pT (.eqv xy (.m 2 3) (.m 3 3)))],[([(10,xh)],.bin .neq (.m 2 1) (.m 3 1)),([(11,xh)],.bin .neq (.m 2 2) (.m 3 2)),([(12,xh)],.eqv xy (.m 2 3) (.m 3 3)),([(13,xh)],.bin .neq (.m 2 4) (.m 3 4))],[pV 5 (.ite (.s 13) pT (.bin .neq (.m 2 4) (.m 3 4)))]⟩] (.cond (.s 5) (pQ [pR [pV 4 pF]] .ret) .skip),pQ [pR [pV 6 (pI 1)]] (.block 0 (.loop [0,1,2,3,4,5,6] (pQ [pQ [pR [pV 7 (.bin .leq (.s 6) (pI 4))]] (.cond (.s 7) .skip (.exit 0)),.block 1 (pQ [pC [pK 14 28 [.mm 2 0 10,.s 6],pK 15 28 [.mm 3 0 10,.s 6],pK 16 49 [.s 14,.s 15]] [pV 8 (.s 16)],pR [pV 9 (.un .not (.s 8))]] (.cond (.s 9) (pQ [pR [pV 4 pF]] .ret) .skip))] (pR [pV 6 (.bin .add (.s 6) (pI 1))])))),pC [pK 17 49 [.m 2 9,.m 3 9]] [pV 4 (.s 17)]] .ret,[(4,.v)]⟩
def Pi:ZK Sol.prog fresh sig [.fz,.fz] [] Try.f40=xk Hj:=Z2
def At:Fn:=⟨7,[0,1,4,10,5,14,25],
pQ [pR [pV 2 pF],pQ [pR [pV 3 (.bin .neq (.len (.s 0)) (.len (.s 1)))]] (.cond (.s 3) (pQ [pR [pV 2 pF]] .ret) .skip),pQ [pR [pV 4 (pI 0)]] (.block 0 (.loop [0,1,2,3,4] (pQ [pQ [pR [pV 5 (.bin .lss (.s 4) (.len (.s 0)))]] (.cond (.s 5) .skip (.exit 0)),.block 1 (pQ [pR [pV 6 (.bin .neq (.fld (.idx (.s 0) (.s 4) 1) 0) (.fld (.idx (.s 1) (.s 4) 1) 0))]] (.cond (.s 6) (pQ [pR [pV 2 pF]] .ret) .skip))] (pR [pV 4 (.bin .add (.s 4) (pI 1))])))),pR [pV 2 pT]] .ret,[(2,.v)]⟩
def Pq:ZK Sol.prog fresh sig [.fz,.fz] [] Try.f49=xk At:=Z2
def Au:Fn:=⟨4,[0,1,4,6],
pQ [pR [pV 2 (pI 0)],pQ [pR [pV 3 (.bin .lss (.s 0) (pI 0))]] (.cond (.s 3) (pR [pV 0 (.un .neg (.bin .add (.s 0) (pI 1)))]) .skip),pR [pV 2 (.bin .rem (.s 0) (.s 1))]] .ret,[(2,.v)]⟩
def Pu:ZK Sol.prog fresh sig [.fz,.fz] [] Try.f53=xk Au:=Z2
def Ht:Fn:=⟨3,[0,1,2],
pQ [pR [(1,pS 0 10),(2,.m [pU 0,pI 0,pI 0,pI 0,pI 0,pI 0,pI 0])],pR [(2,pM (.ag [.m 1 0,.m 1 1,.m 1 2,.len (.m 1 5),.len (.m 1 6),.len (.m 1 7),.len (.m 1 8)]) 7)]] .ret,[(2,(.ag 7))]⟩
def Px:ZK Sol.prog fresh sig [.fz] [] Try.f64=xk Ht:=Z2
def Ay:Fn:=⟨4,[0,1,4,6],
pQ [pR [pV 2 (pI 0)],pQ [pR [pV 3 (.bin .lss (.s 0) (pI 0))]] (.cond (.s 3) (pR [pV 0 (.un .neg (.bin .add (.s 0) (pI 1)))]) .skip),pR [pV 2 (.bin .rem (.s 0) (.s 1))]] .ret,[(2,.v)]⟩
def PE:ZK Sol.prog fresh sig [.fz,.fz] [] Try.f77=xk Ay:=Z2
end Vm
end
section
namespace Vm
open Go Go.Proofs
structure Hp where
 base:Int
 cap:Int
 to:Int
 cycle:Bool
 scan:Int
 low:List Int
 high:List Int
 old:List Int
 far:List Int
 roots:List Int
 deriving DecidableEq,Inhabited
def UX(h:Hp):List V:=[vu h.base,vi h.cap,vi h.to,.bool h.cycle,vi h.scan,.sl (h.low.map vu),.sl (h.high.map vu),.sl (h.old.map vu),.sl (h.far.map vu),.sl (h.roots.map vu)]
def ZL(h:Hp):V:=.agg [vu h.base,vi h.cap,vi h.to,.bool h.cycle,vi h.scan,.sl (h.low.map vu),.sl (h.high.map vu),.sl (h.old.map vu),.sl (h.far.map vu),.sl (h.roots.map vu)]
@[simp]theorem Zbl(h:Hp):Ve (ZL h) 10=xk (ZL h):=rfl
@[simp]theorem Za3(h:Hp):(ZL h).cells=[vu h.base,vi h.cap,vi h.to,.bool h.cycle,vi h.scan,.sl (h.low.map vu),.sl (h.high.map vu),.sl (h.old.map vu),.sl (h.far.map vu),.sl (h.roots.map vu)]:=rfl
@[simp]theorem Z9d(h:Hp):ZW (ZL h) 0=xk (vu h.base):=rfl
@[simp]theorem Z9e(h:Hp):ZW (ZL h) 1=xk (vi h.cap):=rfl
@[simp]theorem Z9f(h:Hp):ZW (ZL h) 2=xk (vi h.to):=rfl
@[simp]theorem Z9g(h:Hp):ZW (ZL h) 3=xk (.bool h.cycle):=rfl
@[simp]theorem Z9h(h:Hp):ZW (ZL h) 4=xk (vi h.scan):=rfl
@[simp]theorem Z9i(h:Hp):ZW (ZL h) 5=xk (.sl (h.low.map vu)):=rfl
@[simp]theorem Z9j(h:Hp):ZW (ZL h) 6=xk (.sl (h.high.map vu)):=rfl
@[simp]theorem Z9k(h:Hp):ZW (ZL h) 7=xk (.sl (h.old.map vu)):=rfl
@[simp]theorem Z9l(h:Hp):ZW (ZL h) 8=xk (.sl (h.far.map vu)):=rfl
@[simp]theorem Z9m(h:Hp):ZW (ZL h) 9=xk (.sl (h.roots.map vu)):=rfl
def Zu(h:Hp):Ly:=⟨h.base,h.cap,h.to,P h.low,P h.high,P h.old,P h.far⟩
structure Hp.ok (h:Hp):Prop where
 base:ZA h.base
 cap:YD h.cap
 to:YD h.to
 scan:YD h.scan
 low:P h.low<=1000000
 high:P h.high<=1000000
 old:P h.old<=1000000
 far:P h.far<=1000000
 roots:P h.roots<=1000000
 lowW:∀w∈h.low,ZA w
 highW:∀w∈h.high,ZA w
 oldW:∀w∈h.old,ZA w
 farW:∀w∈h.far,ZA w
 rootsW:∀w∈h.roots,ZA w
def Ls{α:Type}{l:List α}(h:P l<=1000000):YD (P l:Int):=⟨Z0,Z0⟩
def Hp.ok.lay{h:Hp}(a:h.ok):(Zu h).fits:=⟨a.base,a.cap,a.to,Ls a.low,Ls a.high,Ls a.old,Ls a.far⟩
def Cv{h:Hp}:VC Sol.prog 64 xh [ZL h] (YI (Zu h)):=by
 refine ZV Sol.func64 follows Z2 Px rfl ?_;simp[Ht,YI,Zu]
def Iw{h:Hp}:VC Sol.prog 32 xh [ZL h] (YI (Zu h)):=by
 refine ZV Sol.func32 follows Z2 Pf rfl ?_;simp[Hh,YI,Zu]
def Zx(h:Hp)(n:Int):List Int:=if n=1 then h.low else if n=2 then h.high else if n=3 then h.old else h.far
@[simp]theorem QG(h:Hp):Zx h 1=h.low:=rfl
@[simp]theorem zQ(h:Hp):Zx h 2=h.high:=rfl
@[simp]theorem zR(h:Hp):Zx h 3=h.old:=rfl
@[simp]theorem zS(h:Hp):Zx h 4=h.far:=rfl
def UK{h:Hp}{n:Int}:VC Sol.prog 28 xh [ZL h,vi n] (.sl ((Zx h n).map vu)):=by
 refine ZV Sol.func28 follows Z2 Pb rfl ?_;by_cases a:n=1;simp[zL,Zx,a];by_cases d:n=2;simp[zL,Zx,d];by_cases f:n=3<;>simp[zL,Zx,a,d,f]
def Xf(h:Hp)(n:Int)(l:Zf):Hp:=if n=1 then {h with low:=l}else if n=2 then {h with high:=l}else if n=3 then {h with old:=l}else {h with far:=l}
@[simp]theorem Zbv(h:Hp)(l:Zf):Xf h 1 l= {h with low:=l}:=rfl
@[simp]theorem Zbw(h:Hp)(l:Zf):Xf h 2 l= {h with high:=l}:=rfl
@[simp]theorem Z7w(h:Hp)(l:Zf):Xf h 3 l= {h with old:=l}:=rfl
@[simp]theorem Z7x(h:Hp)(l:Zf):Xf h 4 l= {h with far:=l}:=rfl
def CJ{h:Hp}{n:Int}{l:Zf}:VC Sol.prog 29 xh [ZL h,vi n,.sl (l.map vu)] (ZL (Xf h n l)):=by
 refine ZV Sol.func29 follows Z2 Pc rfl ?_;by_cases a:n=1;simp[zM,Xf,a,ZL];by_cases d:n=2;simp[zM,Xf,d,ZL];by_cases f:n=3<;>simp[zM,Xf,a,d,f,ZL]
theorem BW{α:Type}{a b:List α}{i:Nat}(h:a.take i=b.take i)(hx:a[i]?=b[i]?):a.take (i+1)=b.take (i+1):=by
 simp_all[ZdK]
def Zar{α:Type}{a b:List α}{i:Nat}(h:a[i]? ≠b[i]?):a≠b:=λe=>h (by rw[e])
def Qy{a b:Zf}(k:P a<=1000000):VC Sol.prog 49 xh [.sl (a.map vu),.sl (b.map vu)] (.bool (decide (a=b))):=by
 refine ZV Sol.func49 follows Z2 Pq rfl ?_;by_cases g:P a=P b;simp[At,g];refine KQ 4 (P b) (λi=>a.take i=b.take i) Z1 Z1 Z1 ?_;intro i l heq;have j:=Zz ((i:Int)+1) Z0 Z0;by_cases h:i<P b;have d:i<P a:=Z0;by_cases f:a[i]=b[i];simp[h,d,f,j];grind [BW];simp[h,d,f];grind;simp_all[Zek,ZdR];simp[At,show ¬((P a:Int)=(P b:Int))by omega];grind
def Z67{a b:Hp}(f:a.ok):VC Sol.prog 40 xh [ZL a,ZL b] (.bool (decide (a=b))):=by
 refine ZV Sol.func40 follows Z2 Pi rfl ?_;simp[Hj];have g:∀k,P (Zx a k)<=1000000:=λk=>by
  unfold Zx;split;exact f.low;split;exact f.high;split;exact f.old;exact f.far
 by_cases g1:a.base=b.base;case neg=>
  grind
 by_cases g2:a.cap=b.cap;case neg=>
  grind
 by_cases j:a.to=b.to;case neg=>
  grind
 by_cases l:a.cycle=b.cycle;case neg=>
  grind
 by_cases o:a.scan=b.scan;case neg=>
  grind
 simp[g1,g2,j,l,o];refine Ti (λ(i:Nat)=>[(6,.v (vi ((i+1:Nat):Int)))]) (λi=>i<=4/\(0<i->a.low=b.low)/\(1<i->a.high=b.high)/\(2<i->a.old=b.old)/\(3<i->a.far=b.far)) (X1 6 5) 0 Z1 Z1 ?_;rintro i ⟨A,w,x,y,z⟩;have p:i=0\/i=1\/i=2\/i=3\/i=4:=Z0;obtain rfl|rfl|rfl|rfl|rfl:=p;simp;refine Zy (UK (h:=⟨b.base,b.cap,b.to,b.cycle,b.scan,a.low,a.high,a.old,a.far,a.roots⟩) (n:=1)) ZcB ?_;simp;refine Zy (UK (h:=b) (n:=1)) ZcB ?_;simp;refine Zy (Qy (b:=b.low) (g 1)) Z1 ?_;by_cases d:a.low=b.low;simp[d,Zz];exact⟨1,by simp[d],Z1,ZcH⟩;have:a≠b:=λe=>d (by rw[e]);simp_all;simp;refine Zy (UK (h:=⟨b.base,b.cap,b.to,b.cycle,b.scan,a.low,a.high,a.old,a.far,a.roots⟩) (n:=2)) ZcB ?_;simp;refine Zy (UK (h:=b) (n:=2)) ZcB ?_;simp;refine Zy (Qy (b:=b.high) (g 2)) Z1 ?_;by_cases d:a.high=b.high;simp[d,Zz];exact⟨2,ZbU,Z1,ZcH⟩;have:a≠b:=λe=>d (by rw[e]);simp_all;simp;refine Zy (UK (h:=⟨b.base,b.cap,b.to,b.cycle,b.scan,a.low,a.high,a.old,a.far,a.roots⟩) (n:=3)) ZcB ?_;simp;refine Zy (UK (h:=b) (n:=3)) ZcB ?_;simp;refine Zy (Qy (b:=b.old) (g 3)) Z1 ?_;by_cases d:a.old=b.old;simp[d,Zz];exact⟨3,ZbU,Z1,ZcH⟩;have:a≠b:=λe=>d (by rw[e]);simp_all;simp;refine Zy (UK (h:=⟨b.base,b.cap,b.to,b.cycle,b.scan,a.low,a.high,a.old,a.far,a.roots⟩) (n:=4)) ZcB ?_;simp;refine Zy (UK (h:=b) (n:=4)) ZcB ?_;simp;refine Zy (Qy (b:=b.far) (g 4)) Z1 ?_;by_cases d:a.far=b.far;simp[d,Zz];exact⟨4,ZbU,Z1,ZcH⟩;have:a≠b:=λe=>d (by rw[e]);simp_all;simp;refine Zy (Qy (b:=b.roots) f.roots) Z1 ?_;by_cases d:a.roots=b.roots;have:a=b:=by
  have q:=w Z0;have r:=x Z0;have t:=y Z0;have u:=z Z0;obtain⟨_,_,_,_,_,_,_,_,_,_⟩:=a;obtain⟨_,_,_,_,_,_,_,_,_,_⟩:=b;simp only at g1 g2 j l o q r t u d;subst g1 g2 j l o q r t u d;rfl
 simp_all;have:a≠b:=λe=>d (by rw[e]);simp_all
def pick(c n:Int):Int:=(if c<0 then-(c+1)else c) %n
def Tc{c n:Int}(a:0<n):0<=pick c n/\pick c n<n:=⟨ZgG _ Z0,Zgc _ a⟩
def K7{c n:Int}(hc:YD c)(f:0<n):VC Sol.prog 77 xh [vi c,vi n] (vi (pick c n)):=by
 refine ZV Sol.func77 follows Z2 PE rfl ?_;obtain⟨a,d⟩:=hc;by_cases h:c<0;simp[Ay,h];simp(disch:=omega) only[Zz];refine⟨Z0,?_⟩;unfold pick;grind;simp[Ay,h];refine⟨Z0,?_⟩;simp_all[pick,if_neg,Ze5]
def HZ{c n:Int}(hc:YD c)(f:0<n):VC Sol.prog 53 xh [vi c,vi n] (vi (pick c n)):=by
 refine ZV Sol.func53 follows Z2 Pu rfl ?_;obtain⟨a,d⟩:=hc;by_cases h:c<0;simp[Au,h];simp(disch:=omega) only[Zz];refine⟨Z0,?_⟩;unfold pick;grind;simp[Au,h];refine⟨Z0,?_⟩;simp_all[pick,if_neg,Ze5]
end Vm
end
section
namespace Vm
open Go
open Go.Proofs
def Hc:Fn:=⟨13,[0,1,4,5,6,7,16,8,9,30,10,78,97],
pQ [pR [(2,.m [pN,pN])],pR [pV 3 (.mn (.len (.s 0)) (pI 10))],pR [(4,.m [pN,pN])],pQ [pR [pV 5 (pI 0)]] (.block 0 (.loop [0,1,2,3,4,5] (pQ [pQ [pR [pV 6 (.bin .lss (.s 5) (.s 3))]] (.cond (.s 6) .skip (.exit 0)),.block 1 (pQ [pR [(7,.m [pN,pN])],pQ [pR [pV 8 (pI 0)]] (.block 2 (.loop [0,1,2,3,4,5,6,7,8] (pQ [pQ [.reg ⟨[.lt 13 [] (.bin .lss (.s 8) (.len (.fld (.idx (.s 0) (.s 5) 2) 0)))],[([(13,xy)],.bin .lss (.s 8) (pI 4))],[pV 9 (.ite (.s 13) (.bin .lss (.s 8) (pI 4)) pF)]⟩] (.cond (.s 9) .skip (.exit 2)),.block 3 (pC [pK 14 53 [.fld (.idx (.fld (.idx (.s 0) (.s 5) 2) 0) (.s 8) 1) 0,.bin .add (.s 3) (pI 1)]] [(7,.m [.app (.m 7 0) (.lit [.bin .sub (.s 14) (pI 1)]) 1,.m 7 1])])] (pR [pV 8 (.bin .add (.s 8) (pI 1))])))),pR [(7,.m [.m 7 0,.app pN (.slc (.fld (.idx (.s 0) (.s 5) 2) 1) (pI 0) (.mn (.len (.fld (.idx (.s 0) (.s 5) 2) 1)) (pI 4)) 1) 1])]] (pR [(4,.m [.app (.m 4 0) (.lit [.mm 7 0 2]) 2,.m 4 1])]))] (pR [pV 5 (.bin .add (.s 5) (pI 1))])))),pQ [pR [pV 10 (pI 0)]] (.block 4 (.loop [0,1,2,3,4,5,6,10] (pQ [pQ [.reg ⟨[.lt 15 [] (.bin .lss (.s 10) (.len (.s 1)))],[([(15,xy)],.bin .lss (.s 10) (pI 5))],[pV 11 (.ite (.s 15) (.bin .lss (.s 10) (pI 5)) pF)]⟩] (.cond (.s 11) .skip (.exit 4)),.block 5 (pC [pK 16 53 [.fld (.idx (.s 1) (.s 10) 1) 0,.bin .add (.s 3) (pI 1)]] [(4,.m [.m 4 0,.app (.m 4 1) (.lit [.bin .sub (.s 16) (pI 1)]) 1])])] (pR [pV 10 (.bin .add (.s 10) (pI 1))])))),pQ [pR [pV 12 (.bin .eql (.len (.m 4 1)) (pI 0))]] (.cond (.s 12) (pR [(4,.m [.m 4 0,.app (.m 4 1) (.lit [.bin .sub (.s 3) (pI 1)]) 1])]) .skip),pR [(2,pM (.mm 4 0 2) 2)]] .ret,[(2,(.ag 2))]⟩
def P8:ZK Sol.prog fresh sig [.fz,.fz] [] Try.f23=xk Hc:=Z2
def Aw:Fn:=⟨10,[0,1,2,3,6,7,8,14,9,31],
pQ [pR [(3,pS 0 7),pV 4 (pI 0),pV 5 pF],pR [pV 6 (.s 1)],pQ [pR [pV 7 (.bin .gtr (.len (.m 3 2)) (pI 0))]] (.cond (.s 7) (pR [pV 6 (.fld (.idx (.m 3 2) (.bin .rem (.s 1) (.len (.m 3 2))) 1) 0)]) .skip),pC [pK 10 77 [.s 6,pI 3]] [pV 8 (.s 10)],pQ [.reg ⟨[.lt 11 [] (.bin .eql (.s 8) (pI 2))],[([(11,xy)],.un .not (.s 2))],[pV 9 (.ite (.s 11) (.un .not (.s 2)) pF)]⟩] (.cond (.s 9) (pR [pV 8 (pI 1)]) .skip),pC [pK 12 77 [.bin .quo (.s 6) (pI 3),pI 2]] [pV 4 (.s 8),pV 5 (.bin .eql (.s 12) (pI 1))]] .ret,[(4,.v),(5,.v)]⟩
def PD:ZK Sol.prog fresh sig [.fz,.fz,.fz] [] Try.f76=xk Aw:=Z2
def Hz:Fn:=⟨15,[0,1,2,3,4,5,6,8,9,10,11,12,44,13,76],
pQ [pR [(4,pS 0 14),(5,pS 1 2),(6,pS 2 2),(7,.m [pU 0,pI 0,pI 0,pF,pI 0,pN,pN,pN,pN,pN,pN,pN,pN,pN])],pC [pK 15 28 [.mm 4 0 10,.m 5 0]] [pV 8 (.app pN (.s 15) 1)],pC [pK 16 99 [.ag [.bin .add (.len (.m 6 0)) (.len (.m 6 1)),.len (.m 6 0)]]] [pV 9 (.ext (.s 16) 0),pV 10 (.ext (.s 16) 1)],.reg ⟨[],[([],.idx (.s 8) (.m 5 1) 1)],[pV 8 (.upd (.s 8) (.m 5 1) 0 (.one (.s 9)))]⟩,pQ [pR [pV 11 (pI 0)]] (.block 0 (.loop [0,1,2,3,4,5,6,7,8,9,10,11] (pQ [pQ [pR [pV 12 (.bin .lss (.s 11) (.len (.m 6 0)))]] (.cond (.s 12) .skip (.exit 0)),.block 1 (.reg ⟨[pK 17 100 [.mm 4 0 14,.ag [.m 5 0,.bin .add (.bin .add (.m 5 1) (pI 1)) (.s 11)],.fld (.idx (.m 6 0) (.s 11) 1) 0,.bin .add (.s 3) (.s 11)]],[([],.idx (.s 8) (.bin .add (.bin .add (.m 5 1) (pI 1)) (.s 11)) 1)],[pV 8 (.upd (.s 8) (.bin .add (.bin .add (.m 5 1) (pI 1)) (.s 11)) 0 (.one (.s 17)))]⟩)] (pR [pV 11 (.bin .add (.s 11) (pI 1))])))),pQ [pR [pV 13 (pI 0)]] (.block 2 (.loop [0,1,2,3,4,5,6,7,8,9,10,11,12,13] (pQ [pQ [pR [pV 14 (.bin .lss (.s 13) (.len (.m 6 1)))]] (.cond (.s 14) .skip (.exit 2)),.block 3 (.reg ⟨[],[([],.idx (.s 8) (.bin .add (.bin .add (.bin .add (.m 5 1) (pI 1)) (.len (.m 6 0))) (.s 13)) 1)],[pV 8 (.upd (.s 8) (.bin .add (.bin .add (.bin .add (.m 5 1) (pI 1)) (.len (.m 6 0))) (.s 13)) 0 (.fld (.idx (.m 6 1) (.s 13) 1) 0))]⟩)] (pR [pV 13 (.bin .add (.s 13) (pI 1))])))),pC [pK 18 29 [.mm 4 0 10,.m 5 0,.s 8]] [(4,.m [.fld (.sz (.s 18) 10) 0,.fld (.sz (.s 18) 10) 1,.fld (.sz (.s 18) 10) 2,.fld (.sz (.s 18) 10) 3,.fld (.sz (.s 18) 10) 4,.fld (.sz (.s 18) 10) 5,.fld (.sz (.s 18) 10) 6,.fld (.sz (.s 18) 10) 7,.fld (.sz (.s 18) 10) 8,.fld (.sz (.s 18) 10) 9,.m 4 10,.m 4 11,.m 4 12,.m 4 13])],pR [(7,pM (.mm 4 0 14) 14)]] .ret,[(7,(.ag 14))]⟩
def PF:ZK Sol.prog fresh sig [.fz,.fz,.fz,.fz] [] Try.f78=xk Hz:=Z2
def Az:Fn:=⟨10,[0,1,2,3,4,11,5,6,7,8],
pQ [pR [(2,pS 0 14),(3,pS 1 2),pV 4 (pU 0)],pQ [pR [pV 5 (.bin .eql (.m 3 0) (pI 0))]] (.cond (.s 5) (pQ [pR [pV 4 (pU 0)]] .ret) .skip),pC [pK 10 32 [.mm 2 0 10],pK 11 31 [.s 10,.mm 3 0 2]] [pV 6 (.ext (.s 11) 0),pV 7 (.ext (.s 11) 1)],pC [pK 12 101 [.s 6]] [pV 8 (.ext (.s 12) 0),pV 9 (.ext (.s 12) 1)],pR [pV 4 (.s 8)]] .ret,[(4,.v)]⟩
def PG:ZK Sol.prog fresh sig [.fz,.fz] [] Try.f79=xk Az:=Z2
def TL:Fn:=⟨10,[0,1,2,3,4,5,8,10,13,54],
pQ [pR [(4,pS 0 14),(5,pS 1 2),pV 6 (pU 0)],pQ [pR [pV 7 (.bin .lss (.s 2) (pI 0))]] (.cond (.s 7) (pQ [pR [pV 6 (pU 0)]] .ret) .skip),pQ [pR [pV 8 (.bin .gtr (.m 5 0) (pI 2))]] (.cond (.s 8) (pQ [pC [pK 10 79 [.mm 4 0 14,.flds (.idx (.m 4 13) (.s 2) 2) 0 2]] [pV 6 (.s 10)]] .ret) .skip),pQ [.reg ⟨[.lt 11 [] (.bin .eql (.m 5 0) (pI 1)),.lt 12 [] (.ite (.s 11) (.bin .geq (.m 5 1) (.m 4 4)) pF),.lt 13 [(12,xy)] (.bin .eql (.fld (.idx (.m 4 12) (.s 2) 2) 0) (pI 0)),.lt 14 [(12,xy),(13,xh)] (.bin .gtr (.fld (.idx (.m 4 13) (.s 2) 2) 0) (pI 0))],[([(11,xy)],.bin .geq (.m 5 1) (.m 4 4)),([(12,xy),(13,xh),(14,xy)],.bin .eql (.bin .rem (.s 3) (pI 2)) (pI 0)),([(12,xy),(13,xh)],.ite (.s 14) (.bin .eql (.bin .rem (.s 3) (pI 2)) (pI 0)) pF),([(12,xy)],.ite (.s 13) pT (.ite (.s 14) (.bin .eql (.bin .rem (.s 3) (pI 2)) (pI 0)) pF))],[pV 9 (.ite (.s 12) (.ite (.s 13) pT (.ite (.s 14) (.bin .eql (.bin .rem (.s 3) (pI 2)) (pI 0)) pF)) pF)]⟩] (.cond (.s 9) (pQ [pC [pK 15 79 [.mm 4 0 14,.flds (.idx (.m 4 13) (.s 2) 2) 0 2]] [pV 6 (.s 15)]] .ret) .skip),pC [pK 16 79 [.mm 4 0 14,.flds (.idx (.m 4 12) (.s 2) 2) 0 2]] [pV 6 (.s 16)]] .ret,[(6,.v)]⟩
def OC:ZK Sol.prog fresh sig [.fz,.fz,.fz,.fz] [] Try.f100=xk TL:=Z2
end Vm
end
section
namespace Vm
open Go Go.Proofs
structure Nd where
 ptrs:List Int
 data:List Int
 deriving DecidableEq,Inhabited
structure Gr where
 nodes:List Nd
 roots:List Int
 deriving DecidableEq,Inhabited
def Yf(n:Nd):V:=.agg [.sl (n.ptrs.map vi),.sl (n.data.map vu)]
def Yd(g:Gr):V:=.agg [.sl (g.nodes.map Yf),.sl (g.roots.map vi)]
@[simp]theorem Zaq(n:Nd):(Yf n).cells=[.sl (n.ptrs.map vi),.sl (n.data.map vu)]:=rfl
@[simp]theorem Z9T(n:Nd):VL (Yf n) 0 2=xk (Yf n):=rfl
@[simp]theorem Z9v(n:Nd):ZW (Yf n) 0=xk (.sl (n.ptrs.map vi)):=rfl
@[simp]theorem Z9w(n:Nd):ZW (Yf n) 1=xk (.sl (n.data.map vu)):=rfl
@[simp]theorem Zbn(n:Nd):Ve (Yf n) 2=xk (Yf n):=rfl
@[simp]theorem Z9R(g:Gr):VL (Yd g) 0 2=xk (Yd g):=rfl
@[simp]theorem Z9b(g:Gr):ZW (Yd g) 0=xk (.sl (g.nodes.map Yf)):=rfl
@[simp]theorem Z9c(g:Gr):ZW (Yd g) 1=xk (.sl (g.roots.map vi)):=rfl
@[simp]theorem Zbk(g:Gr):Ve (Yd g) 2=xk (Yd g):=rfl
@[simp]theorem Za1(g:Gr):(Yd g).cells=[.sl (g.nodes.map Yf),.sl (g.roots.map vi)]:=rfl
@[simp]theorem Zbe{k:Zl}{l:Zp}(j n:Nat):SG n (.sl l) (.int k 0) (.int k (j:Int))=if j<=P l/\Wc n l=xy then xk (.sl (l.take j))else xw:=by
 have:=Z6w (k:=k) (l:=l) 0 j n;simpa using this
def rp(n:Nat)(p:Int):Int:=pick p (n+1) -1
def Ur(n:Nat)(x:Nd):Nd:=⟨(x.ptrs.take 4).map (rp n),x.data.take 4⟩
def Vb(l:List Nd):Nat:=min (P l) 10
def ZS(l:List Nd)(a:Zf):Gr:=⟨(l.take (Vb l)).map (Ur (Vb l)),if a.take 5=[]then [(Vb l:Int) -1]else(a.take 5).map (rp (Vb l))⟩
def NE{l:List Nd}{a:Zf}(Y:∀x∈l,∀p∈x.ptrs,YD p)(hr:∀p∈a,YD p):VC Sol.prog 23 xh [.sl (l.map Yf),.sl (a.map vi)] (Yd (ZS l a)):=by
 refine ZV Sol.func23 follows Z2 P8 rfl ?_;have Q:Vb l<=10:=by grind [Vb]
 have a0:Vb l<=xq l:=by grind [Vb]
 have z:(if(10:Int)< (xq l:Int)then(10:Int)else(xq l:Int))=(Vb l:Int):=by
  unfold Vb;split<;>omega
 simp[Hc,z];generalize Z:Vb l=n at*;have C:=Zz ((n:Int)+1) Z0 Z0;refine UI (λt=>∃i:Nat,i<=n/\t=[.v (.sl (l.map Yf)),.v (.sl (a.map vi)),.m [.sl [],.sl []],.v (vi n),.m [.sl (((l.take i).map (Ur n)).map Yf),.sl []],.v (vi i)]) (λt=>match get t 5 with|.v (.int _ i)=>n-i.toNat|_=>0) ?_ ?_;exact⟨0,Z1,Z1⟩
 .rintro t ⟨i,hi,rfl⟩;have hw:=Zz ((i:Int)+1) Z0 Z0;by_cases h:i<n
  .have r:i<xq l:=Z0;have N:l[i]?=xk l[i]:=ZcM r;simp[h];generalize A:l[i]=x at N;have O:∀p∈x.ptrs,YD p:=Y x (ZcT N);have F:(if(4:Int)< (xq x.data:Int)then(4:Int)else(xq x.data:Int))=((min (xq x.data) 4:Nat):Int):=by split<;>omega
   refine UI (λt=>∃k:Nat,k<=xq x.ptrs/\k<=4/\t=[.v (.sl (l.map Yf)),.v (.sl (a.map vi)),.m [.sl [],.sl []],.v (vi n),.m [.sl (((l.take i).map (Ur n)).map Yf),.sl []],.v (vi i),.v (.bool xy),.m [.sl (((x.ptrs.take k).map (rp n)).map vi),.sl []],.v (vi k)]) (λt=>match get t 8 with|.v (.int _ i)=>4-i.toNat|_=>0) ?_ ?_;exact⟨0,Z1,Z1,Z1⟩
   .rintro t ⟨k,G,W,rfl⟩;have w:=Zz ((k:Int)+1) Z0 Z0;by_cases S:k<xq x.ptrs/\k<4;obtain⟨f,U⟩:=S;have K:x.ptrs[k]?=xk x.ptrs[k]:=ZcM f;have g:(k:Int)<4:=Z0;simp[r,A,f,g,C];refine Zy (HZ (O _ (Zd3 f)) Z0) Z1 ?_;have L:=Tc (c:=x.ptrs[k]) (n:=(n:Int)+1) Z0;have y:=Zz (pick x.ptrs[k] ((n:Int)+1) -1) Z0 Z0;simp[w,y];refine⟨by grind [Y5],⟨k+1,Z0,Z0,?_,Z1⟩,Z0⟩;rw[ZdK,Zdb,K];rfl
    .have d:(x.ptrs.take k)=x.ptrs.take 4:=by
      by_cases f:k<xq x.ptrs;grind;grind
     have o:(l.take (i+1)).map (Yf∘Ur n)=(l.take i).map (Yf∘Ur n)++[V.agg [.sl ((x.ptrs.take k).map (vi∘rp n)),.sl ((x.data.take (min (xq x.data) 4)).map vu)]]:=by
      rw[ZdK,N,Zeb,d];have J:x.data.take (min (xq x.data) 4)=x.data.take 4:=by
       by_cases hd:xq x.data<=4;grind;grind
      rw[J];simp[Yf,Ur]
     have B:Wc 1 ((x.data.take (min (xq x.data) 4)).map vu)=xy:=BE _;have u:min (xq x.data) 4<=Y5:=by grind [Y5]
     have H:min i (xq l)+1<=Y5:=by grind [Y5]
     have I:min (xq x.data) 4<=xq x.data:=Z0;simp only[List.map_take]at o B;have g:k<xq x.ptrs->¬(k:Int)<4:=Z0;by_cases f:k<xq x.ptrs
     all_goals (
      simp[r,A,f,g,F,u,H,B,hw,I];exact⟨⟨i+1,Z0,o.symm,Z1⟩,Z0⟩)
  .have:i=n:=Z0;subst this;simp;have D:=Zz ((i:Int) -1) Z0 Z0;refine UI (λt=>∃k:Nat,k<=xq a/\k<=5/\t=[.v (.sl (l.map Yf)),.v (.sl (a.map vi)),.m [.sl [],.sl []],.v (vi i),.m [.sl ((l.take i).map (Yf∘Ur i)),.sl ((a.take k).map (vi∘rp i))],.v (vi i),.v (.bool xh),.no,.no,.no,.v (vi k)]) (λt=>match get t 10 with|.v (.int _ i)=>5-i.toNat|_=>0) ?_ ?_;exact⟨0,Z1,Z1,Z1⟩
   .rintro t ⟨k,G,X,rfl⟩;have w:=Zz ((k:Int)+1) Z0 Z0;by_cases T:k<xq a/\k<5;obtain⟨f,U⟩:=T;have K:a[k]?=xk a[k]:=ZcM f;have g:(k:Int)<5:=Z0;simp[f,g,C];refine Zy (HZ (hr _ (Zd3 f)) Z0) Z1 ?_;have L:=Tc (c:=a[k]) (n:=(i:Int)+1) Z0;have y:=Zz (pick a[k] ((i:Int)+1) -1) Z0 Z0;simp[w,y];refine⟨by grind [Y5],⟨k+1,Z0,Z0,?_,Z1⟩,Z0⟩;rw[ZdK,Zdb,K];rfl
    .have d:(a.take k)=a.take 5:=by
      by_cases f:k<xq a;grind;grind
     have g:k<xq a->¬(k:Int)<5:=Z0;have P:ZS l a=⟨(l.take i).map (Ur i),if a.take 5=[]then [(i:Int) -1]else(a.take 5).map (rp i)⟩:=by
      unfold ZS;rw[Z]
     have q:xq (a.take k)=k:=by rw[Ze3];omega
     by_cases R:k=0;subst R;have j:a.take 5=[]:=by rw[<-d];rfl
     rw[P,if_pos j];have f:¬0<xq a:=Z0;have u:1<=Y5:=by simp[Y5]
     simp[f,Yd,D,u]
     .have j:a.take 5≠[]:=by
       rw[<-d];intro h;rw[h]at q;simp at q;omega
      rw[P,if_neg j,<-d];have M:¬a=[]:=by intro h;rw[h]at G;simp at G;omega
      by_cases f:k<xq a;all_goals simp[f,g,Yd,R,M]
def IM{n:Nat}{p:Int}: -1<=rp n p/\rp n p<n:=by
 have:=Tc (c:=p) (n:=(n:Int)+1) Z0;grind [rp]
def zd(l:List Nd)(a:Zf):(ZS l a).nodes.length=Vb l:=by
 simp[ZS,Vb]
def jW(l:List Nd)(a:Zf):Vb l<=10/\(ZS l a).roots.length<=5/\∀x∈(ZS l a).nodes,P x.ptrs<=4/\P x.data<=4:=by
 refine⟨by grind [Vb],?_,λx d=> ?_⟩;grind [ZS];simp only[ZS,Zd1]at d;obtain⟨y,_,rfl⟩:=d;grind [Ur,List.length_map,List.length_take]
end Vm
end
section
namespace Vm
open Go
open Go.Proofs
def H7:Fn:=⟨5,[0,1,2,3,10],
pQ [pR [(1,pS 0 7),(2,pZ)],pC [pK 5 45 [.mm 1 0 7,pT]] [(3,pS 5 14)],pQ [pR [pV 4 (.bin .eql (.len (.m 3 5)) (pI 0))]] (.cond (.s 4) (pQ [pC [pK 6 35 [.mm 1 0 7]] [(2,pS 6 10)]] .ret) .skip),pC [pK 7 46 [.mm 3 0 14,.mm 1 0 7]] [(2,pS 7 10)]] .ret,[(2,(.ag 10))]⟩
def P3:ZK Sol.prog fresh sig [.fz] [] Try.f16=xk H7:=Z2
def Hi:Fn:=⟨3,[0,1,2],
pQ [pR [(1,pS 0 7),(2,pZ)],pC [pK 3 45 [.mm 1 0 7,pF],pK 4 46 [.s 3,.mm 1 0 7]] [(2,pS 4 10)]] .ret,[(2,(.ag 10))]⟩
def Pg:ZK Sol.prog fresh sig [.fz] [] Try.f35=xk Hi:=Z2
def Hk:Fn:=⟨19,[0,1,2,4,5,6,7,8,26,9,10,11,12,13,57,81,14,82,165],
pQ [pR [(2,pS 0 7),(3,.m [pU 0,pI 0,pI 0,pF,pI 0,pN,pN,pN,pN,pN,pN,pN,pN,pN])],.reg ⟨[pK 19 23 [.m 2 0,.m 2 1]],[([],.ag [pU 0,pI 0,pI 0,pF,pI 0,pN,pN,pN,pN,pN,.fld (.sz (.s 19) 2) 0,.fld (.sz (.s 19) 2) 1,pN,pN])],[(4,.m [pU 0,pI 0,pI 0,pF,pI 0,pN,pN,pN,pN,pN,.fld (.sz (.s 19) 2) 0,.fld (.sz (.s 19) 2) 1,pN,pN])]⟩,pR [(5,.m [pI 0,pI 0,pI 0,pI 0,pI 0])],pR [pV 6 (pI 0)],pQ [pR [pV 7 (pI 0)]] (.block 0 (.loop [0,1,2,3,4,5,6,7] (pQ [pQ [pR [pV 8 (.bin .lss (.s 7) (.len (.m 4 10)))]] (.cond (.s 8) .skip (.exit 0)),.block 1 (pQ [pC [pK 20 76 [.mm 2 0 7,.s 7,.s 1]] [pV 9 (.ext (.s 20) 0),pV 10 (.ext (.s 20) 1)],pR [pV 11 (.bin .add (.bin .add (pI 1) (.len (.fld (.idx (.m 4 10) (.s 7) 2) 0))) (.len (.fld (.idx (.m 4 10) (.s 7) 2) 1)))],pR [(12,pM (.ag [pI 0,pI 0]) 2)],pR [(13,pM (.ag [pI 0,pI 0]) 2)],pQ [pR [pV 14 (.bin .lss (.s 9) (pI 2))]] (.cond (.s 14) (pQ [.reg ⟨[],[([],.ai (.c (.agg [(.bool xy),(.bool xy),(.bool xy),(.bool xy),(.bool xy)])) (.bin .sub (pI 2) (.s 9)) 5 1 xh)],[(12,pM (.ag [.bin .sub (pI 2) (.s 9),.one (.ai (.mm 5 0 5) (.bin .sub (pI 2) (.s 9)) 5 1 xh)]) 2)]⟩] (.reg ⟨[],[([],.ai (.c (.agg [(.bool xy),(.bool xy),(.bool xy),(.bool xy),(.bool xy)])) (.bin .sub (pI 2) (.s 9)) 5 1 xh)],[(5,pM (.aput (.mm 5 0 5) (.bin .sub (pI 2) (.s 9)) 5 1 (.bin .add (.ai (.mm 5 0 5) (.bin .sub (pI 2) (.s 9)) 5 1 xh) (.s 11))) 5)]⟩)) (pR [pV 6 (.bin .add (.s 6) (.s 11))])),pQ [pC [.lt 21 [] (.bin .gtr (.s 9) (pI 0))] [pV 15 (.ite (.s 21) (.s 1) pF)]] (.cond (.s 15) (pQ [pR [pV 16 (pI 3)],pQ [pR [pV 17 (.s 10)]] (.cond (.s 17) (pR [pV 16 (pI 4)]) .skip),.reg ⟨[],[([],.ai (.c (.agg [(.bool xy),(.bool xy),(.bool xy),(.bool xy),(.bool xy)])) (.s 16) 5 1 xh)],[(13,pM (.ag [.one (.s 16),.one (.ai (.mm 5 0 5) (.s 16) 5 1 xh)]) 2)]⟩] (.reg ⟨[],[([],.ai (.c (.agg [(.bool xy),(.bool xy),(.bool xy),(.bool xy),(.bool xy)])) (.s 16) 5 1 xh)],[(5,pM (.aput (.mm 5 0 5) (.s 16) 5 1 (.bin .add (.ai (.mm 5 0 5) (.s 16) 5 1 xh) (.s 11))) 5)]⟩)) .skip),pR [(4,.m [.m 4 0,.m 4 1,.m 4 2,.m 4 3,.m 4 4,.m 4 5,.m 4 6,.m 4 7,.m 4 8,.m 4 9,.m 4 10,.m 4 11,.app (.m 4 12) (.lit [.mm 12 0 2]) 2,.m 4 13])]] (pR [(4,.m [.m 4 0,.m 4 1,.m 4 2,.m 4 3,.m 4 4,.m 4 5,.m 4 6,.m 4 7,.m 4 8,.m 4 9,.m 4 10,.m 4 11,.m 4 12,.app (.m 4 13) (.lit [.mm 13 0 2]) 2])]))] (pR [pV 7 (.bin .add (.s 7) (pI 1))])))),.reg ⟨[pK 22 77 [.m 2 6,pI 2]],[([],.ai (.c (.agg [(.bool xy),(.bool xy),(.bool xy),(.bool xy),(.bool xy)])) (pI 1) 5 1 xh),([],.ai (.c (.agg [(.bool xy),(.bool xy),(.bool xy),(.bool xy),(.bool xy)])) (pI 2) 5 1 xh),([],.ai (.c (.agg [(.bool xy),(.bool xy),(.bool xy),(.bool xy),(.bool xy)])) (pI 3) 5 1 xh),([],.ai (.c (.agg [(.bool xy),(.bool xy),(.bool xy),(.bool xy),(.bool xy)])) (pI 4) 5 1 xh),([],.ag [pU 0,pI 0,.one (.s 22),.one (.s 1),pI 0,.mk (.int .u64 0) (.ai (.mm 5 0 5) (pI 1) 5 1 xh),.mk (.int .u64 0) (.ai (.mm 5 0 5) (pI 2) 5 1 xh),.mk (.int .u64 0) (.ai (.mm 5 0 5) (pI 3) 5 1 xh),.mk (.int .u64 0) (.ai (.mm 5 0 5) (pI 4) 5 1 xh),pN])],[(4,.m [pU 0,pI 0,.one (.s 22),.one (.s 1),pI 0,.mk (.int .u64 0) (.ai (.mm 5 0 5) (pI 1) 5 1 xh),.mk (.int .u64 0) (.ai (.mm 5 0 5) (pI 2) 5 1 xh),.mk (.int .u64 0) (.ai (.mm 5 0 5) (pI 3) 5 1 xh),.mk (.int .u64 0) (.ai (.mm 5 0 5) (pI 4) 5 1 xh),pN,.m 4 10,.m 4 11,.m 4 12,.m 4 13])]⟩,.reg ⟨[pK 23 77 [.m 2 4,pI 12]],[([],.ai (.c (.agg [(.bool xy),(.bool xy),(.bool xy),(.bool xy),(.bool xy)])) (pI 1) 5 1 xh),([],.ai (.c (.agg [(.bool xy),(.bool xy),(.bool xy),(.bool xy),(.bool xy)])) (pI 2) 5 1 xh),([],.ai (.c (.agg [(.bool xy),(.bool xy),(.bool xy),(.bool xy),(.bool xy)])) (pI 3) 5 1 xh),([],.ai (.c (.agg [(.bool xy),(.bool xy),(.bool xy),(.bool xy),(.bool xy)])) (pI 4) 5 1 xh)],[(4,.m [.m 4 0,.bin .add (.mx (.bin .add (.bin .add (.ai (.mm 5 0 5) (pI 1) 5 1 xh) (.ai (.mm 5 0 5) (pI 2) 5 1 xh)) (.s 6)) (.bin .add (.ai (.mm 5 0 5) (pI 3) 5 1 xh) (.ai (.mm 5 0 5) (pI 4) 5 1 xh))) (.s 23),.m 4 2,.m 4 3,.m 4 4,.m 4 5,.m 4 6,.m 4 7,.m 4 8,.m 4 9,.m 4 10,.m 4 11,.m 4 12,.m 4 13])]⟩,pR [(4,.m [.bin .add (pU 1) (.bin .rem (.m 2 3) (.bin .sub (pU 9223372036854775808) (.bin .mul (pU 2) (.conv .u64 (.m 4 1))))),.m 4 1,.m 4 2,.m 4 3,.m 4 4,.m 4 5,.m 4 6,.m 4 7,.m 4 8,.m 4 9,.m 4 10,.m 4 11,.m 4 12,.m 4 13])],.reg ⟨[],[([],.ai (.c (.agg [(.bool xy),(.bool xy),(.bool xy),(.bool xy),(.bool xy)])) (pI 1) 5 1 xh)],[(4,.m [.m 4 0,.m 4 1,.m 4 2,.m 4 3,.one (.ai (.mm 5 0 5) (pI 1) 5 1 xh),.m 4 5,.m 4 6,.m 4 7,.m 4 8,.m 4 9,.m 4 10,.m 4 11,.m 4 12,.m 4 13])]⟩,pQ [.reg ⟨[.lt 24 [] (.s 1)],[([(24,xy)],.ai (.c (.agg [(.bool xy),(.bool xy),(.bool xy),(.bool xy),(.bool xy)])) (pI 1) 5 1 xh),([(24,xy)],.bin .gtr (.ai (.mm 5 0 5) (pI 1) 5 1 xh) (pI 0))],[pV 18 (.ite (.s 24) (.bin .gtr (.ai (.mm 5 0 5) (pI 1) 5 1 xh) (pI 0)) pF)]⟩] (.cond (.s 18) (.reg ⟨[pK 25 77 [.m 2 5,.ai (.mm 5 0 5) (pI 1) 5 1 xh]],[([],.ai (.c (.agg [(.bool xy),(.bool xy),(.bool xy),(.bool xy),(.bool xy)])) (pI 1) 5 1 xh)],[(4,.m [.m 4 0,.m 4 1,.m 4 2,.m 4 3,.one (.s 25),.m 4 5,.m 4 6,.m 4 7,.m 4 8,.m 4 9,.m 4 10,.m 4 11,.m 4 12,.m 4 13])]⟩) .skip),pR [(3,pM (.mm 4 0 14) 14)]] .ret,[(3,(.ag 14))]⟩
def Pk:ZK Sol.prog fresh sig [.fz,.fz] [] Try.f45=xk Hk:=Z2
def Hl:Fn:=⟨17,[0,1,2,3,4,5,16,6,31,59,83,7,8,9,125,10,134],
pQ [pR [(2,pS 0 14),(3,pS 1 7),(4,pZ)],pQ [pR [pV 5 (pI 0)]] (.block 0 (.loop [0,1,2,3,4,5] (pQ [pQ [pR [pV 6 (.bin .lss (.s 5) (.len (.m 2 10)))]] (.cond (.s 6) .skip (.exit 0)),.block 1 (pQ [pR [(7,pM (.flds (.idx (.m 2 10) (.s 5) 2) 0 2) 2)],pQ [pR [pV 8 (.bin .gtr (.fld (.idx (.m 2 12) (.s 5) 2) 0) (pI 0))]] (.cond (.s 8) (pC [pK 17 78 [.mm 2 0 14,.flds (.idx (.m 2 12) (.s 5) 2) 0 2,.mm 7 0 2,.bin .add (.m 3 4) (.s 5)]] [(2,pS 17 14)]) .skip),pQ [.reg ⟨[.lt 18 [] (.bin .gtr (.fld (.idx (.m 2 13) (.s 5) 2) 0) (pI 0))],[([(18,xy)],.bin .eql (.fld (.idx (.m 2 12) (.s 5) 2) 0) (pI 0))],[pV 9 (.ite (.s 18) (.bin .eql (.fld (.idx (.m 2 12) (.s 5) 2) 0) (pI 0)) pF)]⟩] (.cond (.s 9) (pC [pK 19 78 [.mm 2 0 14,.flds (.idx (.m 2 13) (.s 5) 2) 0 2,.mm 7 0 2,pI 0]] [(2,pS 19 14)]) .skip),.reg ⟨[.lt 20 [] (.bin .gtr (.fld (.idx (.m 2 13) (.s 5) 2) 0) (pI 0))],[([(20,xy)],.bin .gtr (.fld (.idx (.m 2 12) (.s 5) 2) 0) (pI 0))],[pV 10 (.ite (.s 20) (.bin .gtr (.fld (.idx (.m 2 12) (.s 5) 2) 0) (pI 0)) pF)]⟩] (.cond (.s 10) (pQ [pC [pK 21 28 [.mm 2 0 10,.fld (.idx (.m 2 13) (.s 5) 2) 0]] [pV 11 (.app pN (.s 21) 1)],.reg ⟨[pK 22 79 [.mm 2 0 14,.flds (.idx (.m 2 12) (.s 5) 2) 0 2]],[([],.idx (.s 11) (.fld (.idx (.m 2 13) (.s 5) 2) 1) 1)],[pV 11 (.upd (.s 11) (.fld (.idx (.m 2 13) (.s 5) 2) 1) 0 (.one (.s 22)))]⟩] (pC [pK 23 29 [.mm 2 0 10,.fld (.idx (.m 2 13) (.s 5) 2) 0,.s 11]] [(2,.m [.fld (.sz (.s 23) 10) 0,.fld (.sz (.s 23) 10) 1,.fld (.sz (.s 23) 10) 2,.fld (.sz (.s 23) 10) 3,.fld (.sz (.s 23) 10) 4,.fld (.sz (.s 23) 10) 5,.fld (.sz (.s 23) 10) 6,.fld (.sz (.s 23) 10) 7,.fld (.sz (.s 23) 10) 8,.fld (.sz (.s 23) 10) 9,.m 2 10,.m 2 11,.m 2 12,.m 2 13])])) .skip))] (pR [pV 5 (.bin .add (.s 5) (pI 1))])))),pR [pV 12 pN],pQ [pR [pV 13 (pI 0)]] (.block 2 (.loop [0,1,2,3,4,5,6,12,13] (pQ [pQ [pR [pV 14 (.bin .lss (.s 13) (.len (.m 2 11)))]] (.cond (.s 14) .skip (.exit 2)),.block 3 (pQ [pR [pV 15 (pU 0)],pQ [pR [pV 16 (.bin .geq (.fld (.idx (.m 2 11) (.s 13) 1) 0) (pI 0))]] (.cond (.s 16) (pC [pK 24 79 [.mm 2 0 14,.flds (.idx (.m 2 12) (.fld (.idx (.m 2 11) (.s 13) 1) 0) 2) 0 2]] [pV 15 (.s 24)]) .skip)] (pR [pV 12 (.app (.s 12) (.lit [.one (.s 15)]) 1)]))] (pR [pV 13 (.bin .add (.s 13) (pI 1))])))),pR [(2,.m [.m 2 0,.m 2 1,.m 2 2,.m 2 3,.m 2 4,.m 2 5,.m 2 6,.m 2 7,.m 2 8,.one (.s 12),.m 2 10,.m 2 11,.m 2 12,.m 2 13])],pR [(4,pM (.mm 2 0 10) 10)]] .ret,[(4,(.ag 10))]⟩
def Pm:ZK Sol.prog fresh sig [.fz,.fz] [] Try.f46=xk Hl:=Z2
end Vm
end
section
namespace Vm
open Go Go.Proofs
structure Pl where
 part:Int
 at_:Int
 deriving DecidableEq,Inhabited
def XU(p:Pl):V:=.agg [vi p.part,vi p.at_]
@[simp]theorem ZaZ(p:Pl):(XU p).cells=[vi p.part,vi p.at_]:=rfl
@[simp]theorem Z9W(p:Pl):VL (XU p) 0 2=xk (XU p):=rfl
@[simp]theorem Z9C(p:Pl):ZW (XU p) 0=xk (vi p.part):=rfl
@[simp]theorem Z9D(p:Pl):ZW (XU p) 1=xk (vi p.at_):=rfl
@[simp]theorem Zbp(p:Pl):Ve (XU p) 2=xk (XU p):=rfl
structure Rw where
 nodes:List Nd
 roots:List Int
 cls:List Int
 base:Int
 slack:Int
 scan:Int
 to:Int
 deriving Inhabited
def XY(x:Rw):V:=.agg [.sl (x.nodes.map Yf),.sl (x.roots.map vi),.sl (x.cls.map vi),vu x.base,vi x.slack,vi x.scan,vi x.to]
@[simp]theorem Zbq(x:Rw):Ve (XY x) 7=xk (XY x):=rfl
@[simp]theorem Zba(x:Rw):(XY x).cells=[.sl (x.nodes.map Yf),.sl (x.roots.map vi),.sl (x.cls.map vi),vu x.base,vi x.slack,vi x.scan,vi x.to]:=rfl
@[simp]theorem Z9E(x:Rw):ZW (XY x) 0=xk (.sl (x.nodes.map Yf)):=rfl
@[simp]theorem Z9F(x:Rw):ZW (XY x) 1=xk (.sl (x.roots.map vi)):=rfl
@[simp]theorem Z9G(x:Rw):ZW (XY x) 2=xk (.sl (x.cls.map vi)):=rfl
@[simp]theorem Z9H(x:Rw):ZW (XY x) 3=xk (vu x.base):=rfl
@[simp]theorem Z9I(x:Rw):ZW (XY x) 4=xk (vi x.slack):=rfl
@[simp]theorem Z9J(x:Rw):ZW (XY x) 5=xk (vi x.scan):=rfl
@[simp]theorem Z9K(x:Rw):ZW (XY x) 6=xk (vi x.to):=rfl
structure Rw.ok (x:Rw):Prop where
 ptrs:∀n∈x.nodes,∀p∈n.ptrs,YD p
 data:∀n∈x.nodes,∀p∈n.data,ZA p
 roots:∀p∈x.roots,YD p
 cls:∀p∈x.cls,YD p
 base:ZA x.base
 slack:YD x.slack
 scan:YD x.scan
 to:YD x.to
def Vu(x:Rw)(i:Nat):Int:=if P x.cls=0 then i else(x.cls[i%P x.cls]?).getD 0
def WG(x:Rw)(i:Nat)(cycle:Bool):Int:=if pick (Vu x i) 3=2/\cycle=xh then 1 else pick (Vu x i) 3
def Wf(x:Rw)(i:Nat):Bool:=decide (pick ((Vu x i).tdiv 3) 2=1)
def Sd(x:Rw)(i:Nat)(cycle:Bool):WG x i cycle=0\/WG x i cycle=1\/(WG x i cycle=2/\cycle=xy):=by
 have:=Tc (c:=Vu x i) (n:=3) Z0;unfold WG;grind
def x6{x:Rw}(hx:x.ok){i:Nat}(C:i<=1000){cycle:Bool}:VC Sol.prog 76 xh [XY x,vi i,.bool cycle] (.tup [vi (WG x i cycle),.bool (Wf x i)]):=by
 refine ZV Sol.func76 follows Z2 PD rfl ?_;have t:YD (Vu x i):=by
  unfold Vu;split;exact⟨Z0,Z0⟩;rename_i h;have:i%P x.cls<P x.cls:=ZfS _ Z0;rw[ZcM this];exact hx.cls _ (Zd3 this)
 have g:=K7 (c:=Vu x i) (n:=3) t Z0;have p:YD ((Vu x i).tdiv 3):=by
  obtain⟨B,f⟩:=t;unfold YD;rw[Int.tdiv_eq_ediv];have:Int.sign 3=1:=rfl;split<;>omega
 have d:=Zz _ p.1 p.2;have a:=K7 (c:=(Vu x i).tdiv 3) (n:=2) p Z0;have fin:∀(b:Bool),(decide (pick ((Vu x i).tdiv 3) 2=1)=b)->Wf x i=b:=λb h=>h;by_cases q:P x.cls=0;have k:Vu x i=i:=by simp[Vu,q]
 rw[k]at g a d;rw[Zg8 Z0]at a d;simp[Aw,q];refine Zy g Z1 ?_;by_cases f:pick (i:Int) 3=2;cases cycle;simp[f,d];refine Zy a Z1 ?_;simp[WG,Wf,k,f];simp[f,d];refine Zy a Z1 ?_;simp[WG,Wf,k,f];simp[f,d];refine Zy a Z1 ?_;simp[WG,Wf,k,f];have l:i%P x.cls<P x.cls:=ZfS _ Z0;have w:x.cls[i%P x.cls]?=xk x.cls[i%P x.cls]:=ZcM l;have k:Vu x i=x.cls[i%P x.cls]:=by simp[Vu,q,w]
 have z:(i:Int).tmod (P x.cls:Int)=((i%P x.cls:Nat):Int):=by
  rw[Ze5 Z0];rfl
 rw[k]at g a d;have u:0<P x.cls:=Z0;have r:x.cls≠[]:=λe=>ZbU;have A:((i:Int) % (P x.cls:Int))=((i%P x.cls:Nat):Int):=rfl;generalize o:x.cls[i%P x.cls]=c at*;generalize y:i%P x.cls=j at*;simp[Aw,u,r,z,l,o];refine Zy g Z1 ?_;by_cases f:pick c 3=2;cases cycle;simp[f,d];refine Zy a Z1 ?_;simp[WG,Wf,k,f];simp[f,d];refine Zy a Z1 ?_;simp[WG,Wf,k,f];simp[f,d];refine Zy a Z1 ?_;simp[WG,Wf,k,f]
def ZI(n:Nd):Nat:=1+P n.ptrs+P n.data
structure St8 where
 n1:Nat
 n2:Nat
 n3:Nat
 n4:Nat
 wt:Nat
 here:List Pl
 old:List Pl
def YZ(x:Rw)(cycle:Bool)(sz:Nat)(i:Nat)(s:St8):St8:=
 let k:=WG x i cycle;let a:=Wf x i;let o:Bool:=decide (0<k)&&cycle
 {n1:=if k=1 then s.n1+sz else s.n1
  n2:=if k=0 then s.n2+sz else s.n2
  n3:=if o&& !a then s.n3+sz else s.n3
  n4:=if o&&a then s.n4+sz else s.n4
  wt:=if k=2 then s.wt+sz else s.wt
  here:=s.here++[if k=0 then⟨2,s.n2⟩else if k=1 then⟨1,s.n1⟩else⟨0,0⟩]
  old:=s.old++[if o then(if a then⟨4,s.n4⟩else⟨3,s.n3⟩)else⟨0,0⟩]}
def Y0(x:Rw)(cycle:Bool)(g:Gr):Nat->St8
 |0=>⟨0,0,0,0,0,[],[]⟩
 |i+1=>YZ x cycle (ZI ((g.nodes[i]?).getD default)) i (Y0 x cycle g i)
def Z6M{x:Rw}{cycle:Bool}{sz i:Nat}(h:sz<=9)(s:St8)(d:s.n1+s.n2+s.wt<=9*i)(h2:s.n3+s.n4<=9*i)(f:P s.here=i)(g:P s.old=i):
  (YZ x cycle sz i s).n1+(YZ x cycle sz i s).n2+(YZ x cycle sz i s).wt<=9*(i+1)/\(YZ x cycle sz i s).n3+(YZ x cycle sz i s).n4<=9*(i+1)/\(YZ x cycle sz i s).here.length=i+1/\(YZ x cycle sz i s).old.length=i+1:=by
 obtain a|a|⟨a,rfl⟩:=Sd x i cycle;grind [YZ];grind [Wf,YZ];grind [Wf,YZ]
def KG{x:Rw}{cycle:Bool}{g:Gr}(a:∀n∈g.nodes,ZI n<=9):∀i,i<=P g.nodes->(Y0 x cycle g i).n1+(Y0 x cycle g i).n2+(Y0 x cycle g i).wt<=9*i/\(Y0 x cycle g i).n3+(Y0 x cycle g i).n4<=9*i/\(Y0 x cycle g i).here.length=i/\(Y0 x cycle g i).old.length=i
 |0,_=>by simp[Y0]
 |i+1,k=>by
  obtain⟨d,f,h,j⟩:=KG (x:=x) (cycle:=cycle) a i Z0;have l:=a _ (Zd3 (Z0:i<P g.nodes));simp only[Y0,ZcM (Z0:i<P g.nodes),Zdg];simp_all[Z6M]
structure Bt where
 h:Hp
 g:Gr
 here:List Pl
 old:List Pl
def Xn(b:Bt):List V:=[vu b.h.base,vi b.h.cap,vi b.h.to,.bool b.h.cycle,vi b.h.scan,.sl (b.h.low.map vu),.sl (b.h.high.map vu),.sl (b.h.old.map vu),.sl (b.h.far.map vu),.sl (b.h.roots.map vu),.sl (b.g.nodes.map Yf),.sl (b.g.roots.map vi),.sl (b.here.map XU),.sl (b.old.map XU)]
def Xa(b:Bt):V:=.agg [vu b.h.base,vi b.h.cap,vi b.h.to,.bool b.h.cycle,vi b.h.scan,.sl (b.h.low.map vu),.sl (b.h.high.map vu),.sl (b.h.old.map vu),.sl (b.h.far.map vu),.sl (b.h.roots.map vu),.sl (b.g.nodes.map Yf),.sl (b.g.roots.map vi),.sl (b.here.map XU),.sl (b.old.map XU)]
def Yq(x:Rw)(cycle:Bool):Bt:=
 let g:=ZS x.nodes x.roots;let s:=Y0 x cycle g (P g.nodes);let cap:Int:=max ((s.n1:Int)+s.n2+s.wt) ((s.n3:Int)+s.n4)+pick x.slack 12
 ⟨⟨1+x.base% (9223372036854775808-2*cap),cap,pick x.to 2,cycle,if cycle=xy/\0<s.n1 then pick x.scan s.n1 else s.n1,List.replicate s.n1 0,List.replicate s.n2 0,List.replicate s.n3 0,List.replicate s.n4 0,[]⟩,g,s.here,s.old⟩
def Mq{x:Rw}(hx:x.ok){cycle:Bool}:VC Sol.prog 45 xh [XY x,.bool cycle] (Xa (Yq x cycle)):=by
 refine ZV Sol.func45 follows Z2 Pk rfl ?_;simp[Hk];refine Zy (NE hx.ptrs hx.roots) Z1 ?_;obtain⟨K,L,B⟩:=jW x.nodes x.roots;have M:=zd x.nodes x.roots;unfold Yq;generalize ZS x.nodes x.roots=g at*;have l:∀n∈g.nodes,ZI n<=9:=λn d=>by have:=B n d;unfold ZI;omega
 simp
 refine VB 7 (xq g.nodes) (λi=>[(4,.m [.int .u64 0,.int .i64 0,.int .i64 0,.bool xh,.int .i64 0,.sl [],.sl [],.sl [],.sl [],.sl [],.sl (g.nodes.map Yf),.sl (g.roots.map vi),.sl ((Y0 x cycle g i).here.map XU),.sl ((Y0 x cycle g i).old.map XU)]),
  (5,.m [vi 0,vi (Y0 x cycle g i).n1,vi (Y0 x cycle g i).n2,vi (Y0 x cycle g i).n3,vi (Y0 x cycle g i).n4]),(6,.v (vi (Y0 x cycle g i).wt)),(7,.v (vi i))]) (λ_=>True) (by simp[Y0]) (λi=>Z1) trivial ?_
 rintro i P-;have o:=Zz ((i:Int)+1) Z0 Z0;obtain⟨s1,s2,s3,s4⟩:=KG (x:=x) (cycle:=cycle) l i P;by_cases h:i<xq g.nodes;have d:g.nodes[i]?=xk g.nodes[i]:=ZcM h;have p:=l _ (Zd3 h);simp only[Y0,d,Zdg];generalize Y0 x cycle g i=s at*;generalize g.nodes[i]=n at*;have N:=x6 hx (i:=i) Z0 (cycle:=cycle);have C:=Sd x i cycle;have w1:=Zz (1+(xq n.ptrs:Int)) (by unfold ZI at p;omega) (by unfold ZI at p;omega);have w2:=Zz (1+(xq n.ptrs:Int)+xq n.data) (by unfold ZI at p;omega) (by unfold ZI at p;omega);have f:(1+(xq n.ptrs:Int)+xq n.data)=(ZI n:Nat):=by unfold ZI;omega
 rw[f]at w2;simp[h];refine Zy N Z1 ?_;generalize I:ZI n=sz at*;unfold YZ;generalize Wf x i=H at*;generalize WG x i cycle=k at*;have t:=Zz ((s.n1:Int)+sz) Z0 Z0;have u:=Zz ((s.n2:Int)+sz) Z0 Z0;have w:=Zz ((s.n3:Int)+sz) Z0 Z0;have y:=Zz ((s.n4:Int)+sz) Z0 Z0;have z:=Zz ((s.wt:Int)+sz) Z0 Z0;have q:xq s.here+1<=Y5:=Zci;have r:xq s.old+1<=Y5:=Zci;obtain rfl|rfl|⟨rfl,rfl⟩:=C;cases cycle<;>simp[d,Yb d,w1,f,w2,Y4,Ui,setCells,Zz,t,u,w,y,z,q,r,XU,o];cases cycle;simp[d,Yb d,w1,f,w2,Y4,Ui,setCells,Zz,t,u,w,y,z,q,r,XU,o];cases H<;>simp[d,Yb d,w1,f,w2,Y4,Ui,setCells,Zz,t,u,w,y,z,q,r,XU,o];cases H<;>simp[d,Yb d,w1,f,w2,Y4,Ui,setCells,Zz,t,u,w,y,z,q,r,XU,o];have:i=xq g.nodes:=Z0;subst this;generalize R:Y0 x cycle g (xq g.nodes)=s at*;have G:=K7 (c:=x.to) (n:=2) hx.to Z0;have F:=K7 (c:=x.slack) (n:=12) hx.slack Z0;have S:=Tc (c:=x.slack) (n:=12) Z0;simp;refine Zy G Z1 ?_;have T:s.n1<=Y5:=Zci;have U:s.n2<=Y5:=Zci;have W:s.n3<=Y5:=Zci;have X:s.n4<=Y5:=Zci;simp[Y4,T,U,W,X];refine Zy F Z1 ?_;have w1:=Zz ((s.n1:Int)+s.n2) Z0 Z0;have w2:=Zz ((s.n1:Int)+s.n2+s.wt) Z0 Z0;have w3:=Zz ((s.n3:Int)+s.n4) Z0 Z0;have j:(if(s.n1:Int)+s.n2+s.wt< (s.n3:Int)+s.n4 then(s.n3:Int)+s.n4 else(s.n1:Int)+s.n2+s.wt)=max ((s.n1:Int)+s.n2+s.wt) ((s.n3:Int)+s.n4):=by split<;>omega
 obtain⟨cap,a⟩:∃cap:Int,max ((s.n1:Int)+s.n2+s.wt) ((s.n3:Int)+s.n4)+pick x.slack 12=cap:=⟨_,rfl⟩;have O:0<=cap/\cap<=200:=Z0;have w4:=Zz cap Z0 Z0;have Y:=ZT cap Z0 Z0;have Z:=ZT (2*cap) Z0 Z0;have w7:=ZT (9223372036854775808-2*cap) Z0 Z0;obtain⟨J,b2⟩:=hx.base;have w8:x.base.tmod (9223372036854775808-2*cap)=x.base% (9223372036854775808-2*cap):=Ze5 J;have h1:=ZgG x.base (Z0:(9223372036854775808-2*cap)≠0);have h2:=Zgc x.base (Z0:0< (9223372036854775808-2*cap));have w9:=ZT (1+x.base% (9223372036854775808-2*cap)) Z0 Z0;have D:¬((9223372036854775808-2*cap)=0):=Z0;simp[Y4,w1,w2,w3,j,a,w4,Y,Z,w7,w8,w9,D];cases cycle;simp[Xa,a];by_cases A:0<s.n1;have Q:=K7 (c:=x.scan) (n:=(s.n1:Int)) hx.scan Z0;simp[A];refine Zy Q Z1 ?_;simp[Xa,a,A,Y4];simp[Xa,a,A]
end Vm
namespace Vm
open Go Go.Proofs
@[simp]theorem Zbi(b:Bt):Ve (Xa b) 14=xk (Xa b):=rfl
@[simp]theorem Z8i(b:Bt):(Xa b).cells=Xn b:=rfl
@[simp]theorem Z93(b:Bt)(i:Nat):ZW (Xa b) i=(Xn b)[i]?.bind YM:=rfl
def Z46(s p:Int):0<=(U6 s p).1/\(U6 s p).1<100000000:=by
 grind [U6,YG]
def CM(l:Ly)(g:l.fits)(p a:Int):0<=(ZY l p a).1/\(ZY l p a).1<=9223372036854775807:=by
 unfold ZY;split;simp;rename_i f;have d:ZG l=xy:=Zc9;split;simp;split;simp;have:=WH d p;omega
def Z4J{a:Int}:0<=(XC a).1/\(XC a).1<18446744073709551616:=by
 unfold XC;split;simp;omega
def YB(h:Hp)(p:Pl):Int:=if p.part=0 then 0 else(XC (ZY (Zu h) p.part p.at_).1).1
theorem Bd(h:Hp)(p:Pl):ZA (YB h p):=by
 unfold YB;split;exact⟨Z0,Z0⟩;exact Z4J
def Kl{b:Bt}(f:(Zu b.h).fits){p:Pl}:VC Sol.prog 79 xh [Xa b,XU p] (vu (YB b.h p)):=by
 refine ZV Sol.func79 follows Z2 PG rfl ?_;by_cases d:p.part=0;simp[Az,Xn,YB,d];have g:=CM (Zu b.h) f p.part p.at_;simp[Az,Xn,d];refine Zy (Iw (h:=b.h)) ZcB ?_;simp;refine Zy (Iu f (part:=p.part) (at_:=p.at_)) Z1 ?_;simp;refine Zy (Z5j (a:=(ZY (Zu b.h) p.part p.at_).1) ⟨g.1,Z0⟩) Z1 ?_;simp[YB,d]
def WZ(b:Bt)(p:Pl)(to tw:Int):Int:=
 if to<0 then 0 else if 2<p.part then YB b.h ((b.old[to.toNat]?).getD ⟨0,0⟩)
 else if p.part=1/\b.h.scan<=p.at_/\(((b.here[to.toNat]?).getD ⟨0,0⟩).part=0\/0< ((b.old[to.toNat]?).getD ⟨0,0⟩).part/\tw%2=0)then YB b.h ((b.old[to.toNat]?).getD ⟨0,0⟩)
 else YB b.h ((b.here[to.toNat]?).getD ⟨0,0⟩)
theorem Z6A(b:Bt)(p:Pl)(to tw:Int):ZA (WZ b p to tw):=by
 unfold WZ;split;exact⟨Z0,Z0⟩;grind [Bd]
def MC(t:Int):t.tmod 2=0↔t%2=0:=by
 grind
def Z6B{b:Bt}(l:(Zu b.h).fits){p:Pl}{to tw:Int}(r:to<P b.here)(h2:to<P b.old):VC Sol.prog 100 xh [Xa b,XU p,vi to,vi tw] (vu (WZ b p to tw)):=by
 refine ZV Sol.func100 follows Z2 OC rfl ?_;by_cases o:to<0;simp[TL,Xn,WZ,o];obtain⟨t,rfl⟩:=Zd7 (Z0:0<=to);have g1:b.here[t]?=xk (b.here[t]'Z0):=ZcM Z0;have g2:b.old[t]?=xk (b.old[t]'Z0):=ZcM Z0;generalize b.here[t]'Z0=x at*;generalize b.old[t]'Z0=y at*;unfold WZ;simp only[Zda,g1,g2,Zdg,if_neg o];by_cases a:2<p.part;simp[TL,Xn,a,g2];refine Zy (Kl l (p:=y)) (by simp[Xa]) ?_;simp;have k1:=Kl l (p:=x);have q:=Kl l (p:=y);by_cases f:p.part=1;by_cases g:b.h.scan<=p.at_;by_cases j:x.part=0;simp[TL,Xn,a,f,g,j,g1,g2];refine Zy q (by simp[Xa]) ?_;simp;by_cases n:0<y.part;by_cases k:tw%2=0;have d:=(MC tw).2 k;simp[TL,Xn,a,f,g,j,n,k,d,g1,g2];refine Zy q (by simp[Xa]) ?_;simp;have d:=mt (MC tw).1 k;simp[TL,Xn,a,f,g,j,n,k,d,g1,g2];refine Zy k1 (by simp[Xa]) ?_;simp;simp[TL,Xn,a,f,g,j,n,g1,g2];refine Zy k1 (by simp[Xa]) ?_;simp;simp[TL,Xn,a,f,g,g1,g2];refine Zy k1 (by simp[Xa]) ?_;simp;simp[TL,Xn,a,f,g1,g2];refine Zy k1 (by simp[Xa]) ?_;simp
@[simp]theorem Z4U(x y:Int):V.put (vu x) 0 [vu y]=vu y:=rfl
def Bw{l pre:List Int}{m:Nat}(h:P pre=m)(a:m<P l)(z:Int):(pre++l.drop m).set m z=pre++[z]++l.drop (m+1):=by
 subst h;rw[ZgL _ _ (ZcR _),Zey,ZdG a,List.set_cons_zero,ZdB];rfl
def XF(b:Bt)(p:Pl)(a:Nat)(d:List Int)(tw:Int):List Int:=(List.range (P d)).map λi=>WZ b ⟨p.part,((a+1+i:Nat):Int)⟩ ((d[i]?).getD 0) (IntKind.i64.wrap (tw+i))
def Tz(b:Bt)(p:Pl)(a:Nat)(n:Nd)(tw:Int):List Int:=
 let l:=Zx b.h p.part
 l.take a++[(U6 ((P n.ptrs:Int)+P n.data) (P n.ptrs)).1]++XF b p a n.ptrs tw++n.data++l.drop (a+ZI n)
def XR(b:Bt)(p:Pl)(n:Nd)(tw:Int):Bt:= {b with h:=Xf b.h p.part (Tz b p p.at_.toNat n tw)}
def Fp{b:Bt}(hb:(Zu b.h).fits){p:Pl}{n:Nd}{tw:Int}{a:Nat}(ha:p.at_=a)(a1:xq (Zx b.h p.part)<=1000000)(d:a+ZI n<=xq (Zx b.h p.part))
  (h1:∀q∈n.ptrs,q<xq b.here/\q<xq b.old):VC Sol.prog 78 xh [Xa b,XU p,Yf n,vi tw] (Xa (XR b p n tw)):=by
 refine ZV Sol.func78 follows Z2 PF rfl ?_;have M:xq (Zx b.h p.part)<=Y5:=Zci;have w1:=Zz ((xq n.ptrs:Int)+xq n.data) Zck Zck;unfold XR;rw[show p.at_.toNat=a by omega];simp[Hz,Xn];refine Zy (UK (h:=b.h) (n:=p.part)) ZcB ?_;simp[M,w1];refine Zy (Z5i (s:=(xq n.ptrs:Int)+xq n.data) (p:=xq n.ptrs)) Z1 ?_;have O:a< xq (Zx b.h p.part):=Zck;simp[ha,O];generalize U:Zx b.h p.part=l at*;generalize T:(U6 ((xq n.ptrs:Int)+xq n.data) (xq n.ptrs)).1=A at*;have D:(l.map vu).set a (vu A)=((l.take a++[A])++l.drop (a+1)).map vu:=by
  rw[<-Zfq];congr 1;have:=Bw (l:=l) (pre:=l.take a) (m:=a) ZbV O A;rw[ZeO]at this;exact this
 simp only[Z4U,D];have H:=Zz ((a:Int)+1) Z0 Z0;have a2:xq n.ptrs<=xq l:=Zck;have P:xq (XF b p a n.ptrs tw)=xq n.ptrs:=by simp[XF]
 refine VB 11 (xq n.ptrs) (λk=>[(8,.v (.sl (((l.take a++[A]++(XF b p a n.ptrs tw).take k)++l.drop (a+1+k)).map vu))),(11,.v (vi k))]) (λ_=>True) Z1 (λi=>Z1) trivial ?_;rintro k hk-;have J:=Zz ((k:Int)+1) Z0 Z0;have X:=Zz ((a:Int)+1+k) Z0 Z0;by_cases o:k<xq n.ptrs;have K:n.ptrs[k]?=xk n.ptrs[k]:=ZcM o;obtain⟨q1,q2⟩:=h1 _ (Zd3 o);have t:=Z6B hb (p:=⟨p.part,((a+1+k:Nat):Int)⟩) (to:=n.ptrs[k]) (tw:=IntKind.i64.wrap (tw+k)) q1 q2;have W:(XF b p a n.ptrs tw)[k]?=xk (WZ b ⟨p.part,((a+1+k:Nat):Int)⟩ n.ptrs[k] (IntKind.i64.wrap (tw+k))):=by
  simp[XF,o]
 generalize n.ptrs[k]=q at*;generalize WZ b ⟨p.part,((a+1+k:Nat):Int)⟩ q (IntKind.i64.wrap (tw+k))=z at*;have G:(XF b p a n.ptrs tw).take (k+1)=(XF b p a n.ptrs tw).take k++[z]:=by rw[ZdK,W];rfl
 have r:xq (l.take a++[A]++(XF b p a n.ptrs tw).take k)=a+1+k:=by simp[P];omega
 have N:a+1+k<xq l:=Zck;have F:=Bw (l:=l) r N z;generalize C:l.take a++[A]++(XF b p a n.ptrs tw).take k=pre at*;have g:∃x,((pre++l.drop (a+1+k)).map vu)[a+1+k]?=xk (vu x):=by
  refine⟨l[a+1+k],?_⟩;rw[Zdb,Zd9 Z0,r,Zey,ZdG N];rfl
 have f:((pre++l.drop (a+1+k)).map vu).set (a+1+k) (vu z)=(pre++[z]++l.drop (a+1+(k+1))).map vu:=by
  rw[<-Zfq,F];rfl
 obtain⟨m,B⟩:∃m:Nat,a+1+k=m:=⟨_,rfl⟩;have u:(a:Int)+1+k=m:=Z0;have w:=Zz (m:Int) Z0 Z0;rw[show a+1+(k+1)=a+1+k+1 by omega]at f⊢;rw[B]at g f t⊢;generalize S:(pre++l.drop m).map vu=LL at g f⊢;rw[G];obtain⟨y,hy⟩:=g;simp[o,K,Yb K,H,X,u,w];refine Zy t (by simp[Xa]) ?_;simp[hy,f,J,o,H,u,w];rw[<-C];simp;have:k=xq n.ptrs:=Z0;subst this;rw[show(XF b p a n.ptrs tw).take (xq n.ptrs)=XF b p a n.ptrs tw from ZdR Z0];have Y:=Zz ((a:Int)+1+xq n.ptrs) Z0 Z0;have Z:∀j:Nat,j<=1000+xq n.data->IntKind.i64.wrap ((a:Int)+1+xq n.ptrs+j)=(a:Int)+1+xq n.ptrs+j:=λj hj=>Zz _ Z0 Zck;generalize Q:l.take a++[A]++XF b p a n.ptrs tw=sp at*;have R:xq sp=a+1+xq n.ptrs:=by rw[<-Q];simp[P];omega
 simp;refine VB 13 (xq n.data) (λk=>[(8,.v (.sl (((sp++n.data.take k)++l.drop (a+1+xq n.ptrs+k)).map vu))),(13,.v (vi k))]) (λ_=>True) Z1 (λi=>Z1) trivial ?_;rintro k hk-;have J:=Zz ((k:Int)+1) Z0 Zck;by_cases o:k<xq n.data;have K:n.data[k]?=xk n.data[k]:=ZcM o;generalize n.data[k]=z at*;have G:n.data.take (k+1)=n.data.take k++[z]:=by rw[ZdK,K];rfl
 have r:xq (sp++n.data.take k)=a+1+xq n.ptrs+k:=by simp[R];omega
 have N:a+1+xq n.ptrs+k<xq l:=Zck;have F:=Bw (l:=l) r N z;generalize C:sp++n.data.take k=pre at*;have g:∃x,((pre++l.drop (a+1+xq n.ptrs+k)).map vu)[a+1+xq n.ptrs+k]?=xk (vu x):=by
  refine⟨l[a+1+xq n.ptrs+k],?_⟩;rw[Zdb,Zd9 Z0,r,Zey,ZdG N];rfl
 have f:((pre++l.drop (a+1+xq n.ptrs+k)).map vu).set (a+1+xq n.ptrs+k) (vu z)=(pre++[z]++l.drop (a+1+xq n.ptrs+k+1)).map vu:=by
  rw[<-Zfq,F]
 rw[show a+1+xq n.ptrs+(k+1)=a+1+xq n.ptrs+k+1 by omega];have a0:=Z k Z0;obtain⟨m,B⟩:∃m:Nat,a+1+xq n.ptrs+k=m:=⟨_,rfl⟩;have u:(a:Int)+1+xq n.ptrs+k=m:=Z0;have w:=Zz (m:Int) Z0 Z0;rw[B]at g f⊢;generalize S:(pre++l.drop m).map vu=LL at g f⊢;rw[G];obtain⟨y,hy⟩:=g;simp[o,K,Yb K,H,Y,a0,u,w,hy,f,J];rw[<-C];simp;have:k=xq n.data:=Z0;subst this;rw[show n.data.take (xq n.data)=n.data from Zek];have I:=CJ (h:=b.h) (n:=p.part) (l:=sp++n.data++l.drop (a+1+xq n.ptrs+xq n.data));have L:Tz b p a n tw=sp++n.data++l.drop (a+1+xq n.ptrs+xq n.data):=by
  unfold Tz;rw[U,T];dsimp only;rw[Q,show a+ZI n=a+1+xq n.ptrs+(xq n.data) by unfold ZI;omega]
 rw[L];generalize sp++n.data++l.drop (a+1+xq n.ptrs+xq n.data)=fin at*;simp;refine Zy I ZcB ?_;simp[Xa]
end Vm
namespace Vm
open Go Go.Proofs
def RQ(h:Hp):Prop:=(∀k,∀w∈Zx h k,ZA w)/\∀w∈h.roots,ZA w
structure BOk (b:Bt):Prop where
 lay:(Zu b.h).fits
 hl:P b.here=P b.g.nodes
 ol:P b.old=P b.g.nodes
 nn:P b.g.nodes<=10
 ptr:∀n∈b.g.nodes,∀q∈n.ptrs,q< (P b.g.nodes:Int)
 dat:∀n∈b.g.nodes,∀q∈n.data,ZA q
 rts:∀q∈b.g.roots,q< (P b.g.nodes:Int)
 rl:P b.g.roots<=5
 here:∀(i:Nat) (p:Pl) (n:Nd),b.here[i]?=xk p->b.g.nodes[i]?=xk n->p=⟨0,0⟩\/∃a:Nat,p.at_=a/\(p.part=1\/p.part=2)/\a+ZI n<=P (Zx b.h p.part)
 old:∀(i:Nat) (p:Pl) (n:Nd),b.old[i]?=xk p->b.g.nodes[i]?=xk n->p=⟨0,0⟩\/∃a:Nat,p.at_=a/\(p.part=3\/p.part=4)/\a+ZI n<=P (Zx b.h p.part)
 len:∀k,P (Zx b.h k)<=1000
 words:RQ b.h
theorem zT{h h':Hp}(a:Zu h'=Zu h)(k:Int):P (Zx h' k)=P (Zx h k):=by
 grind [Zu,Ly.mk.injEq,Zx]
def BOk.keep{b:Bt}(hb:BOk b){h':Hp}(hl:Zu h'=Zu b.h)(hw:RQ h'):BOk {b with h:=h'} where
 lay:=by show(Zu h').fits;rw[hl];exact hb.lay
 hl:=hb.hl
 ol:=hb.ol
 nn:=hb.nn
 ptr:=hb.ptr
 dat:=hb.dat
 rts:=hb.rts
 rl:=hb.rl
 here:=λi p n hp hn=>by
  obtain h|⟨a,h1,h2,h3⟩:=hb.here i p n hp hn;grind;grind [Zx,zT,hl]
 old:=λi p n hp hn=>by
  obtain h|⟨a,h1,h2,h3⟩:=hb.old i p n hp hn;grind;grind [Zx,zT,hl]
 len:=λk=>by show P (Zx h' k)<=1000;rw[zT hl];exact hb.len k
 words:=hw
def Cc{h:Hp}{p:Int}{l:List Int}(a:P l=P (Zx h p)):Zu (Xf h p l)=Zu h:=by
 unfold Xf Zx at*;split;simp_all[if_pos,Zu];rename_i d;rw[if_neg d]at a;split;simp_all[if_pos,Zu];rename_i f;rw[if_neg f]at a;split;simp_all[if_pos,Zu];simp_all[if_neg,Zu]
def Z7z{h:Hp}{p:Int}{l:List Int}(a:RQ h)(k:∀w∈l,ZA w):RQ (Xf h p l):=by
 have d:=a.1 1;have f:=a.1 2;have g:=a.1 3;have j:=a.1 4;grind [QG,zQ,zR,zS,ZA,RQ,Zx,Xf]
def Z2m{b:Bt}{p:Pl}{a:Nat}{n:Nd}{tw:Int}(d:a+ZI n<=P (Zx b.h p.part)):P (Tz b p a n tw)=P (Zx b.h p.part):=by
 grind [Tz,ZI,XF]
def Z2n{b:Bt}{p:Pl}{a:Nat}{n:Nd}{tw:Int}(f:RQ b.h)(g:∀q∈n.data,ZA q):∀w∈Tz b p a n tw,ZA w:=by
 intro w d;unfold Tz at d;simp only[Zdd,ZdP]at d;obtain(((d|d)|d)|d)|d:=d;exact f.1 _ w (ZdE d);subst d;have:=Z46 ((P n.ptrs:Int)+P n.data) (P n.ptrs);exact⟨this.1,Z0⟩;simp only[XF,Zd1]at d;obtain⟨i,_,rfl⟩:=d;grind [Z6A];grind;exact f.1 _ w (Zeg d)
def VY(x:Rw)(b:Bt)(i:Nat)(n:Nd)(p:Pl):Bt:=if 0<p.part then XR b p n (IntKind.i64.wrap (x.slack+i))else b
def VZ(b:Bt)(n:Nd)(p o:Pl):Bt:=if 0<o.part/\p.part=0 then XR b o n 0 else b
def VI(b:Bt)(p o:Pl):Bt:=if 0<o.part/\0<p.part then {b with h:=Xf b.h o.part ((Zx b.h o.part).set o.at_.toNat (YB b.h p))}else b
def Qb(x:Rw)(b:Bt)(i:Nat):Bt:=
 let n:=(b.g.nodes[i]?).getD default;let p:=(b.here[i]?).getD ⟨0,0⟩;let o:=(b.old[i]?).getD ⟨0,0⟩
 VI (VZ (VY x b i n p) n p o) p o
structure Like (b b':Bt):Prop where
 g:b'.g=b.g
 here:b'.here=b.here
 old:b'.old=b.old
 lay:Zu b'.h=Zu b.h
 words:RQ b'.h
 scan:b'.h.scan=b.h.scan
 cycle:b'.h.cycle=b.h.cycle
def Like.ok{b a:Bt}(o:Like b a)(n:BOk b):BOk a:=by
 obtain⟨q,p,d,l⟩:=a;obtain⟨f,g,h,j,k,_⟩:=o;simp only at f g h j k;subst f g h;exact n.keep j k
theorem Like.trans{a b c:Bt}(h:Like a b)(k:Like b c):Like a c:=⟨k.g.trans h.g,k.here.trans h.here,k.old.trans h.old,k.lay.trans h.lay,k.words,k.scan.trans h.scan,k.cycle.trans h.cycle⟩
def N1(h:Hp)(p:Int)(l:List Int):(Xf h p l).scan=h.scan/\(Xf h p l).cycle=h.cycle:=by
 unfold Xf;grind
def Fy{b:Bt}(a:BOk b){p:Int}{l:List Int}(d:P l=P (Zx b.h p))(f:∀w∈l,ZA w):Like b {b with h:=Xf b.h p l}:=
 ⟨rfl,rfl,rfl,Cc d,Z7z a.words f,(N1 _ _ _).1,(N1 _ _ _).2⟩
def LX{b:Bt}(a:BOk b):Like b b:=⟨rfl,rfl,rfl,rfl,a.words,rfl,rfl⟩
def Fx{b:Bt}(d:BOk b){p:Pl}{n:Nd}{tw:Int}{a:Nat}(f:p.at_=a)(g:a+ZI n<=P (Zx b.h p.part))(j:∀q∈n.data,ZA q):Like b (XR b p n tw):=by
 unfold XR;rw[f,Zda];exact Fy d (Z2m g) (Z2n d.words j)
def jE{x:Rw}{b:Bt}(d:BOk b){i:Nat}{n:Nd}{p:Pl}(f:b.g.nodes[i]?=xk n)(l:b.here[i]?=xk p):Like b (VY x b i n p):=by
 unfold VY;split;rename_i h;obtain rfl|⟨a,j,o,k⟩:=d.here i p n l f;simp at h;exact Fx d j k (d.dat n (ZcT f));exact LX d
def jF{b:Bt}(d:BOk b){i:Nat}{n:Nd}{p o:Pl}(f:b.g.nodes[i]?=xk n)(l:b.old[i]?=xk o):Like b (VZ b n p o):=by
 unfold VZ;split;rename_i h;obtain rfl|⟨a,j,q,k⟩:=d.old i o n l f;simp at h;exact Fx d j k (d.dat n (ZcT f));exact LX d
def Z2r{b:Bt}(a:BOk b){p o:Pl}:Like b (VI b p o):=by
 unfold VI;split;refine Fy a Z1 λw d=> ?_;obtain h|rfl:=Zet d;exact a.words.1 _ w h;exact Bd _ _;exact LX a
def Z2s{x:Rw}{b:Bt}(a:BOk b){i:Nat}(f:i<P b.g.nodes):Like b (Qb x b i):=by
 have h:b.g.nodes[i]?=xk b.g.nodes[i]:=ZcM f;have l:b.here[i]?=xk (b.here[i]'(by rw[a.hl];exact f)):=ZcM _;have k:b.old[i]?=xk (b.old[i]'(by rw[a.ol];exact f)):=ZcM _;unfold Qb;simp only[h,l,k,Zdg];have d:=jE (x:=x) a h l;have j:=jF (p:=b.here[i]'(by rw[a.hl];exact f)) (d.ok a) (by rw[d.g];exact h) (by rw[d.old];exact k);exact(d.trans j).trans (Z2r (j.ok (d.ok a)))
def VJ(x:Rw)(b:Bt):Nat->Bt
 |0=>b
 |i+1=>Qb x (VJ x b i) i
def JK{x:Rw}{b:Bt}(a:BOk b):∀i,i<=P b.g.nodes->Like b (VJ x b i)
 |0,_=>LX a
 |i+1,d=>by
  have h:=JK (x:=x) a i Z0;exact h.trans (Z2s (h.ok a) (by rw[h.g];omega))
def Yp(x:Rw)(b:Bt):Hp:=
 let a:=VJ x b (P b.g.nodes)
 {a.h with roots:=b.g.roots.map λr=>if 0<=r then YB a.h ((b.here[r.toNat]?).getD ⟨0,0⟩)else 0}
def DV{x:Rw}(hx:x.ok){b:Bt}(H:BOk b):VC Sol.prog 46 xh [Xa b,XY x] (ZL (Yp x b)):=by
 refine ZV Sol.func46 follows Z2 Pm rfl ?_;simp[Hl,Xn];refine VB 5 (xq b.g.nodes) (λi=>[(2,.m (Xn (VJ x b i))),(5,.v (vi i))]) (λ_=>True) (by simp[VJ,Xn]) (λi=>Z1) trivial ?_;rintro i hi-;have F:=JK (x:=x) H i hi;have J:=Zz ((i:Int)+1) (by have:=H.nn;omega) (by have:=H.nn;omega);by_cases h:i<xq b.g.nodes;have f:=F.ok H;simp only[VJ];have z:i< (VJ x b i).g.nodes.length:=by rw[F.g];exact h
 generalize a3:VJ x b i=c at*;have t:c.g.nodes[i]?=xk c.g.nodes[i]:=ZcM z;have y:c.here[i]?=xk (c.here[i]'(by rw[f.hl];exact z)):=ZcM _;have w:c.old[i]?=xk (c.old[i]'(by rw[f.ol];exact z)):=ZcM _;unfold Qb;simp only[t,y,w,Zdg];generalize c.g.nodes[i]=n at*;generalize c.here[i]'(by rw[f.hl];exact z)=p at*;generalize c.old[i]'(by rw[f.ol];exact z)=o at*;have S:∀q∈n.ptrs,q< (xq c.here:Int)/\q< (xq c.old:Int):=λq T=>by
  have:=f.ptr n (ZcT t) q T;rw[f.hl,f.ol];exact⟨this,this⟩
 have kA:=jE (x:=x) f t y;have bA:=kA.ok f;have kO:=jF (p:=p) bA (by rw[kA.g];exact t) (by rw[kA.old];exact w);have bO:=kO.ok bA;have I:xq c.g.nodes=xq b.g.nodes:=by rw[F.g]
 have a5:c.g=b.g:=F.g;have Q:0<p.part->VC Sol.prog 78 xh [Xa c,XU p,Yf n,vi (IntKind.i64.wrap (x.slack+i))] (Xa (XR c p n (IntKind.i64.wrap (x.slack+i)))):=λN=>by
  obtain rfl|⟨a,K,X,L⟩:=f.here i p n y t;simp at N;exact Fp f.lay K (by have:=f.len p.part;omega) L S
 have M:0<o.part->VC Sol.prog 78 xh [Xa c,XU o,Yf n,vi 0] (Xa (XR c o n 0)):=λN=>by
  obtain rfl|⟨a,K,X,L⟩:=f.old i o n w t;simp at N;exact Fp f.lay K (by have:=f.len o.part;omega) L S
 have a1:p.part=0\/0<p.part:=by
  obtain rfl|⟨a,K,X,L⟩:=f.here i p n y t;exact .inl rfl;exact .inr Z0
 have R:o.part=0\/0<o.part:=by
  obtain rfl|⟨a,K,X,L⟩:=f.old i o n w t;exact .inl rfl;exact .inr Z0
 obtain u|u:=a1;obtain j|j:=R;simp[Xn,h,z,I,t,y,w,Yb t,Yb y,Yb w,VY,VZ,VI,u,j,J];have a6:¬0<p.part:=Z0;have A:Like c (XR c o n 0):=by
  have:=jF (p:=p) f t w;unfold VZ at this;rwa[if_pos ⟨j,u⟩]at this
 have a0:=M j;simp[Xn,h,z,I,t,y,w,Yb t,Yb y,Yb w,VY,VZ,VI,u,j,J];generalize XR c o n 0=d at*;obtain⟨d1,d2,d3,d4,Y,_,_⟩:=A;refine Zy a0 (by simp[Xa]) ?_;simp[Xn,d1,d2,d3,t,y,w,Yb t,Yb y,Yb w,u,j,J,h];have C:¬p.part=0:=Z0;have A:Like c (XR c p n (IntKind.i64.wrap (x.slack+i))):=by
  have:=jE (x:=x) f t y;unfold VY at this;rwa[if_pos u]at this
 have P:=Q u;have W:=A.ok f;obtain j|j:=R;simp[Xn,h,z,I,t,y,w,Yb t,Yb y,Yb w,VY,VZ,VI,u,j,C,J];generalize XR c p n (IntKind.i64.wrap (x.slack+i))=d at*;obtain⟨d1,d2,d3,d4,Y,_,_⟩:=A;refine Zy P (by simp[Xa]) ?_;simp[Xn,d1,d2,d3,t,y,w,Yb t,Yb y,Yb w,u,j,C,J,h];simp[Xn,h,z,I,t,y,w,Yb t,Yb y,Yb w,VY,VZ,VI,u,j,C,J];generalize XR c p n (IntKind.i64.wrap (x.slack+i))=d at*;obtain⟨d1,d2,d3,d4,Y,_,_⟩:=A;refine Zy P (by simp[Xa]) ?_;simp[Xn,d1,d2,d3,t,y,w,Yb t,Yb y,Yb w,u,j,C,J,h];obtain rfl|⟨a,K,X,L⟩:=f.old i o n w t;simp at j;have a4:=W.len o.part;have B:xq (Zx d.h o.part)<=Y5:=Zci;have Z:a< xq (Zx d.h o.part):=by
  have:=zT d4 o.part;unfold ZI at L;omega
 refine Zy (UK (h:=d.h) (n:=o.part)) ZcB ?_;simp[B,y];refine Zy (Kl (b:=⟨d.h,c.g,c.here,c.old⟩) W.lay (p:=p)) Z1 ?_;simp[K,Z,w,Yb w];have G:=CJ (h:=d.h) (n:=o.part) (l:=(Zx d.h o.part).set a (YB d.h p));rw[Zfq]at G;refine Zy G ZcB ?_;simp[J,h,d1,d2,d3];have:i=xq b.g.nodes:=Z0;subst this;have W:=F.ok H;unfold Yp;generalize VJ x b (xq b.g.nodes)=d at*;obtain⟨d1,d2,d3,d4,Y,_,_⟩:=F;simp[Xn,d1,d2,d3];refine VB 13 (xq b.g.roots) (λk=>[(12,.v (.sl ((b.g.roots.take k).map λr=>vu (if 0<=r then YB d.h ((b.here[r.toNat]?).getD ⟨0,0⟩)else 0)))),(13,.v (vi k))]) (λ_=>True) Z1 (λi=>Z1) trivial ?_;rintro k hk-;have a7:=H.rl;have U:=Zz ((k:Int)+1) Z0 Z0;by_cases D:k<xq b.g.roots;have O:b.g.roots[k]?=xk b.g.roots[k]:=ZcM D;have a8:=H.rts _ (Zd3 D);generalize b.g.roots[k]=r at*;have a2:b.g.roots.take (k+1)=b.g.roots.take k++[r]:=by rw[ZdK,O];rfl
 have B:min k (xq b.g.roots)+1<=Y5:=Zci;by_cases N:0<=r;obtain⟨q,rfl⟩:=Zd7 N;have T:b.here[q]?=xk (b.here[q]'(by rw[H.hl];omega)):=ZcM _;generalize b.here[q]'(by rw[H.hl];omega)=p at*;simp[D,O,Yb O,T,Yb T];refine Zy (Kl (b:=⟨d.h,b.g,b.here,b.old⟩) W.lay (p:=p)) Z1 ?_;simp[U,B,D];rw[ZdK,Zdb,O];simp[T];simp[D,O,Yb O,N,U,B,a2,D];have:k=xq b.g.roots:=Z0;subst this;simp[ZL]
end Vm
namespace Vm
open Go Go.Proofs
def PIn(s:St8)(p:Pl)(sz:Nat):Prop:=p=⟨0,0⟩\/∃a:Nat,p.at_=a/\((p.part=1/\a+sz<=s.n1)\/(p.part=2/\a+sz<=s.n2))
def POl(s:St8)(p:Pl)(sz:Nat):Prop:=p=⟨0,0⟩\/∃a:Nat,p.at_=a/\((p.part=3/\a+sz<=s.n3)\/(p.part=4/\a+sz<=s.n4))
def Z6N{x:Rw}{cycle:Bool}{sz i:Nat}{s:St8}:s.n1<=(YZ x cycle sz i s).n1/\s.n2<=(YZ x cycle sz i s).n2/\s.n3<=(YZ x cycle sz i s).n3/\s.n4<=(YZ x cycle sz i s).n4:=by
 grind [YZ]
def PIn.mono{s t:St8}{p:Pl}{sz:Nat}(h:PIn s p sz)(g:s.n1<=t.n1)(h2:s.n2<=t.n2):PIn t p sz:=by
 obtain h|⟨a,f,⟨d,h⟩|⟨d,h⟩⟩:=h;exact .inl h;exact .inr ⟨a,f,.inl ⟨d,Z0⟩⟩;exact .inr ⟨a,f,.inr ⟨d,Z0⟩⟩
def POl.mono{s t:St8}{p:Pl}{sz:Nat}(h:POl s p sz)(g:s.n3<=t.n3)(h2:s.n4<=t.n4):POl t p sz:=by
 obtain h|⟨a,f,⟨d,h⟩|⟨d,h⟩⟩:=h;exact .inl h;exact .inr ⟨a,f,.inl ⟨d,Z0⟩⟩;exact .inr ⟨a,f,.inr ⟨d,Z0⟩⟩
def Mo{x:Rw}{cycle:Bool}{g:Gr}(k:∀n∈g.nodes,ZI n<=9):∀i,i<=P g.nodes->∀(j:Nat) (n:Nd),g.nodes[j]?=xk n->
  (∀p,(Y0 x cycle g i).here[j]?=xk p->PIn (Y0 x cycle g i) p (ZI n))/\(∀p,(Y0 x cycle g i).old[j]?=xk p->POl (Y0 x cycle g i) p (ZI n))
 |0,_,j,n,h=>⟨λp a=>by simp[Y0]at a,λp a=>by simp[Y0]at a⟩
 |i+1,C,j,n,h=>by
  obtain⟨o,q⟩:=Mo (x:=x) (cycle:=cycle) k i Z0 j n h;obtain⟨_,_,u,w⟩:=KG (x:=x) (cycle:=cycle) k i Z0;have d:g.nodes[i]?=xk g.nodes[i]:=ZcM Z0;simp only[Y0,d,Zdg];generalize Y0 x cycle g i=s at*;obtain⟨y,z,A,B⟩:=Z6N (x:=x) (cycle:=cycle) (sz:=ZI g.nodes[i]) (i:=i) (s:=s);have t:j<P g.nodes:=(ZcN.1 h).1;constructor;intro p a;by_cases r:j<i;have:s.here[j]?=xk p:=by
   simp only[YZ]at a;rwa[Zdk Z0]at a
  exact(o p this).mono y z;by_cases f:j=i;subst f;rw[d]at h;cases h;simp only[YZ]at a;rw[Zd9 Z0,u,Zey]at a;simp only[ZeZ,ZcL]at a;subst a;unfold PIn;obtain l|l|⟨l,rfl⟩:=Sd x j cycle;grind [YZ];grind [YZ];simp_all;grind [YZ,List.getElem?_eq_some_iff];intro p a;by_cases r:j<i;have:s.old[j]?=xk p:=by
   simp only[YZ]at a;rwa[Zdk Z0]at a
  exact(q p this).mono A B;by_cases f:j=i;subst f;rw[d]at h;cases h;simp only[YZ]at a;rw[Zd9 Z0,w,Zey]at a;grind [List.getElem?_cons_zero,Option.some.injEq,POl,decide,WG,Wf,YZ];grind [YZ,List.getElem?_eq_some_iff]
def FU(l:List Nd)(a:List Int):∀n∈(ZS l a).nodes,∀q∈n.ptrs,-1<=q/\q< ((ZS l a).nodes.length:Int):=by
 intro n d q f;rw[zd];simp only[ZS,Zd1]at d;obtain⟨y,_,rfl⟩:=d;simp only[Ur,Zd1]at f;obtain⟨p,_,rfl⟩:=f;exact IM
def Z30(l:List Nd)(a:List Int):∀q∈(ZS l a).roots,-1<=q/\q< ((ZS l a).nodes.length:Int):=by
 intro q d;rw[zd];simp only[ZS]at d;split at d;grind;simp only[Zd1]at d;obtain⟨p,_,rfl⟩:=d;exact IM
def Z2Y(l:List Nd)(a:List Int)(f:∀n∈l,∀q∈n.data,ZA q):∀n∈(ZS l a).nodes,∀q∈n.data,ZA q:=by
 intro n d q g;simp only[ZS,Zd1]at d;obtain⟨y,h,rfl⟩:=d;grind [Ur,List.mem_of_mem_take]
def KH{x:Rw}(hx:x.ok)(cycle:Bool):BOk (Yq x cycle)/\YD (Yq x cycle).h.scan/\ZG (Zu (Yq x cycle).h)=xy:=by
 obtain⟨w,u,y⟩:=jW x.nodes x.roots;have z:=zd x.nodes x.roots;have K:=FU x.nodes x.roots;have L:=Z30 x.nodes x.roots;have B:=Z2Y x.nodes x.roots hx.data;unfold Yq;generalize ZS x.nodes x.roots=g at*;have t:∀n∈g.nodes,ZI n<=9:=λn J=>by grind [ZI]
 obtain⟨M,N,F,G⟩:=KG (x:=x) (cycle:=cycle) t (P g.nodes) (ZcR _);have r:=Mo (x:=x) (cycle:=cycle) t (P g.nodes) (ZcR _);dsimp only;generalize Y0 x cycle g (P g.nodes)=s at*;have C:=Tc (c:=x.slack) (n:=12) Z0;have D:=Tc (c:=x.to) (n:=2) Z0;obtain⟨cap,q⟩:∃cap:Int,max ((s.n1:Int)+s.n2+s.wt) ((s.n3:Int)+s.n4)+pick x.slack 12=cap:=⟨_,rfl⟩;rw[q];have A:0<=cap/\cap<=200:=Z0;have H:=ZgG x.base (Z0:(9223372036854775808-2*cap)≠0);have I:=Zgc x.base (Z0:0< (9223372036854775808-2*cap));generalize x.base% (9223372036854775808-2*cap)=base at*;have l:YD (if cycle=xy/\0<s.n1 then pick x.scan s.n1 else s.n1):=by
  split;rename_i h;have:=Tc (c:=x.scan) (n:=s.n1) Z0;exact⟨Z0,Z0⟩;exact⟨Z0,Z0⟩
 refine⟨⟨?_,?_,?_,?_,?_,?_,?_,?_,?_,?_,?_,?_⟩,l,?_⟩;refine⟨⟨?_,?_⟩,⟨?_,?_⟩,⟨?_,?_⟩,⟨?_,?_⟩,⟨?_,?_⟩,⟨?_,?_⟩,⟨?_,?_⟩⟩<;>simp[Zu]<;>omega;exact F;exact G;simp_all;grind;exact B;simp_all;exact u;intro i p n j f;rcases(r i n f).1 p j with h|⟨a,o,⟨d,h⟩|⟨d,h⟩⟩;grind;exact .inr ⟨a,o,.inl d,ZbU⟩;exact .inr ⟨a,o,.inr d,ZbU⟩;intro i p n j f;rcases(r i n f).2 p j with h|⟨a,o,⟨d,h⟩|⟨d,h⟩⟩;grind;exact .inr ⟨a,o,.inl d,ZbU⟩;exact .inr ⟨a,o,.inr d,ZbU⟩;grind [Zx];refine⟨λk=> ?_,Z1⟩;grind [List.replicate,ZA,Zx];refine VS.2 ?_;simp only[Zu,ZgK];omega
def BT(x:Rw):Hp:=Yp x (Yq x xh)
def Uo(x:Rw):Hp:=if(Yq x xy).h.low.length=0 then BT x else Yp x (Yq x xy)
def NS{x:Rw}(hx:x.ok):VC Sol.prog 35 xh [XY x] (ZL (BT x)):=by
 refine ZV Sol.func35 follows Z2 Pg rfl ?_;simp[Hi];refine Zy (Mq hx (cycle:=xh)) (by simp[XY]) ?_;simp;refine Zy (DV hx (KH hx xh).1) Z1 ?_;simp;rfl
def NH{x:Rw}(hx:x.ok):VC Sol.prog 16 xh [XY x] (ZL (Uo x)):=by
 refine ZV Sol.func16 follows Z2 P3 rfl ?_;simp[H7];refine Zy (Mq hx (cycle:=xy)) (by simp[XY]) ?_;unfold Uo;by_cases a:(Yq x xy).h.low.length=0;simp[Xn,a];refine Zy (NS hx) Z1 ?_;simp;rfl;simp[Xn,a];refine Zy (DV hx (KH hx xy).1) Z1 ?_;simp;rfl
def DS{x:Rw}{b:Bt}(l:BOk b)(t:YD b.h.scan):(Yp x b).ok/\Zu (Yp x b)=Zu b.h/\(Yp x b).scan=b.h.scan/\(Yp x b).cycle=b.h.cycle:=by
 have j:=JK (x:=x) l (P b.g.nodes) (ZcR _);have o:=j.ok l;unfold Yp;generalize VJ x b (P b.g.nodes)=d at*;obtain⟨k,B,C,D,F,G,H,I,J,p,a,f⟩:=o;have u:=a 1;have y:=a 2;have z:=a 3;have A:=a 4;have w1:=f.1 1;have w2:=f.1 2;have w3:=f.1 3;have w4:=f.1 4;simp only[QG,zQ,zR,zS]at u y z A w1 w2 w3 w4;have q:=l.rl;refine⟨⟨k.1,k.2.1,k.2.2.1,by rw[j.scan];exact t,?_,?_,?_,?_,?_,w1,w2,w3,w4,?_⟩,j.lay,j.scan,j.cycle⟩;grind;grind;grind;grind;simp;omega;intro w n;simp only[Zd1]at n;obtain⟨r,_,rfl⟩:=n;split;exact Bd _ _;exact⟨Z0,Z0⟩
end Vm
end
section

end
section
namespace Vm
open Go Go.Proofs
structure Ob where
 at_:Int
 size:Int
 ptrs:Int
 gone:Bool
 target:Int
 deriving DecidableEq,Inhabited
def ZH(o:Ob):V:=.agg [vi o.at_,vi o.size,vi o.ptrs,.bool o.gone,vu o.target]
@[simp]theorem Zbo(o:Ob):Ve (ZH o) 5=xk (ZH o):=rfl
@[simp]theorem Z9U(o:Ob):VL (ZH o) 0 5=xk (ZH o):=rfl
@[simp]theorem Zas(o:Ob):(ZH o).cells=[vi o.at_,vi o.size,vi o.ptrs,.bool o.gone,vu o.target]:=rfl
@[simp]theorem Z9x(o:Ob):ZW (ZH o) 0=xk (vi o.at_):=rfl
@[simp]theorem Z9y(o:Ob):ZW (ZH o) 1=xk (vi o.size):=rfl
@[simp]theorem Z9z(o:Ob):ZW (ZH o) 2=xk (vi o.ptrs):=rfl
@[simp]theorem Z9A(o:Ob):ZW (ZH o) 3=xk (.bool o.gone):=rfl
@[simp]theorem Z9B(o:Ob):ZW (ZH o) 4=xk (vu o.target):=rfl
@[simp]theorem Z9V(o:Ob):VL (ZH o) 1 2=xk (QP o.size o.ptrs):=rfl
def XZ(s:Int×Int):V:=QP s.1 s.2
@[simp]theorem Zbb(s:Int×Int):(XZ s).cells=[vi s.1,vi s.2]:=rfl
@[simp]theorem Zbr(s:Int×Int):Ve (XZ s) 2=xk (XZ s):=rfl
@[simp]theorem Z9X(s:Int×Int):VL (XZ s) 0 2=xk (XZ s):=rfl
@[simp]theorem Z9L(s:Int×Int):ZW (XZ s) 0=xk (vi s.1):=rfl
@[simp]theorem Z9M(s:Int×Int):ZW (XZ s) 1=xk (vi s.2):=rfl
def U2(w:Int):Bool:=decide (w=0)||decide ((adr w).2=0)
def XG(l:Zf)(gone:Bool)(ptrs:Int)(i:Nat):Bool:=
 match l with
 | []=>xy
 |w::l=>(!gone||decide (w=0))&&(!decide ((i:Int)<ptrs)||U2 w)&&XG l gone ptrs (i+1)
def Z6E{l:Zf}{gone:Bool}{ptrs:Int}{i:Nat}{w:Int}(h:l[i]?=xk w):XG (l.drop i) gone ptrs i=((!gone||decide (w=0))&&(!decide ((i:Int)<ptrs)||U2 w)&&XG (l.drop (i+1)) gone ptrs (i+1)):=by
 obtain⟨a,d⟩:=ZcN.1 h;rw[ZdG a,d];rfl
def XT(shs:List (Int×Int))(old:Bool)(at_ a:Nat)(w:Int):Option (Ob×Nat):=
 if old=xy/\(adr w).2=0 then
  match shs[a]? with
  |none=>xw
  |some s=>if Yx s.1 s.2 then xk (⟨at_,s.1,s.2,xy,(adr w).1⟩,a+1)else xw
 else if(ZP w).2.2=0 then xk (⟨at_,(ZP w).1,(ZP w).2.1,xh,0⟩,a)else xw
def C1{w:Int}(h:(ZP w).2.2=0):Yx (ZP w).1 (ZP w).2.1=xy:=by
 unfold ZP at*;grind
def zt{shs:List (Int×Int)}{old:Bool}{at_ d:Nat}{w:Int}{o:Ob}{t:Nat}(h:XT shs old at_ d w=xk (o,t)):Yx o.size o.ptrs=xy/\o.at_=at_:=by
 unfold XT at h;split at h;grind;split at h;rename_i a;cases h;exact⟨C1 a,rfl⟩;cases h
def Xi(ws:Zf)(shs:List (Int×Int))(old:Bool):Nat->Nat->Nat->List Ob->List Ob×Int
 |0,_,_,_=>([],3)
 |f+1,at_,d,a=>
  match ws[at_]? with
  |none=>if d<(P shs) then([],3)else(a,0)
  |some w=>match XT shs old at_ d w with
   |none=>([],3)
   |some (o,t)=>
    if(P ws:Int)<at_+1+o.size then([],2)
    else if XG ((ws.drop (at_+1)).take o.size.toNat) o.gone o.ptrs 0=xh then([],3)
    else Xi ws shs old f (at_+1+o.size.toNat) t (a++[o])
def ZN(ws:Zf)(shs:List (Int×Int))(old:Bool):List Ob×Int:=Xi ws shs old (P ws+1) 0 0 []
def RY(n:Nat)(o:Ob):Prop:=(∃a:Nat,o.at_=a/\(a:Int)+1+o.size<=n)/\Yx o.size o.ptrs=xy
def Z3x{shs:List (Int×Int)}{old:Bool}{at_ d:Nat}{w:Int}{o:Ob}{t:Nat}(a:ZA w)(h:XT shs old at_ d w=xk (o,t)):ZA o.target:=by
 unfold XT at h;split at h;split at h;cases h;split at h;cases h;obtain⟨f,g⟩:=a;show 0<=(adr w).1/\(adr w).1<18446744073709551616;grind [adr];cases h;split at h;cases h;show(0:Int)<=0/\(0:Int)<18446744073709551616;omega;cases h
abbrev Zo:=List Ob
def MU{ws:Zf}{shs:List (Int×Int)}{old:Bool}(k:∀w∈ws,ZA w):∀(f at_ l:Nat) (d:Zo),(∀o∈d,RY (P ws) o/\ZA o.target)->∀o∈(Xi ws shs old f at_ l d).1,RY (P ws) o/\ZA o.target
 |0,_,_,_,_=>by simp[Xi]
 |f+1,at_,l,d,a=>by
  simp only[Xi];split;split;simp;exact a;rename_i w q;split;simp;rename_i o t j;split;simp;rename_i u;split;simp;refine MU k f _ _ _ λr g=> ?_;obtain h|h:=Zdd.1 g;exact a r h;simp only[ZdP]at h;subst h;obtain⟨n,p⟩:=zt j;exact⟨⟨⟨at_,p,Z0⟩,n⟩,Z3x (k w (ZcT q)) j⟩
def QX{ws:Zf}{shs:List (Int×Int)}{old:Bool}(a:∀w∈ws,ZA w):∀o∈(ZN ws shs old).1,RY (P ws) o/\ZA o.target:=MU a _ _ _ _ Z1
def MV{ws:Zf}{shs:List (Int×Int)}{old:Bool}:∀(f at_ g:Nat) (a:Zo),at_<=P ws->P a<=at_->(Xi ws shs old f at_ g a).1.length<=P ws
 |0,_,_,_,_,_=>by simp[Xi]
 |f+1,at_,g,a,k,d=>by
  simp only[Xi];split;split;simp;simp only;omega;split;simp;rename_i o t h;split;simp;rename_i l;split;simp;have j:=YG.1 (zt h).1;refine MV f _ _ _ Z0 ZbV
def QY{ws:Zf}{shs:List (Int×Int)}{old:Bool}:(ZN ws shs old).1.length<=P ws:=MV _ _ _ _ Z0 Z1
end Vm
end
section

end
section
namespace Vm
open Go Go.Proofs
def YS(h:Hp)(part at_:Int):Int:=(ZY (Zu h) part at_).1
def Yu(h:Hp)(part:Int)(l:Zo)(a:Int):Option Ob:=l.find? λo=>YS h part o.at_==a
theorem D9{h:Hp}{part a:Int}{l:Zo}{o:Ob}(d:Yu h part l a=xk o):o∈l:=Zfl d
def WM(h:Hp)(ws:Zf)(low:Zo):Nat->Nat->List (Int×Int)->Option (List (Int×Int))
 |0,_,_=>xw
 |f+1,i,a=>
  match ws[i]? with
  |none=>xk a
  |some w=>if(adr w).2=0 then(match Yu h 1 low (adr w).1 with|none=>xw|some o=>WM h ws low f (i+1+o.size.toNat) (a++[(o.size,o.ptrs)]))
   else if(ZP w).2.2=0 then WM h ws low f (i+1+(ZP w).1.toNat) a else xw
def Vd(h:Hp)(ws:Zf)(low:Zo):Option (List (Int×Int)):=WM h ws low (P ws+1) 0 []
structure Pts where
 low:List Ob
 high:List Ob
 old:List Ob
 far:List Ob
 deriving Inhabited
def Pts.at(p:Pts)(k:Int):List Ob:=if k=1 then p.low else if k=2 then p.high else if k=3 then p.old else p.far
@[simp]theorem Pts.at1(p:Pts):p.at 1=p.low:=rfl
@[simp]theorem Pts.at2(p:Pts):p.at 2=p.high:=rfl
@[simp]theorem Pts.at3(p:Pts):p.at 3=p.old:=rfl
@[simp]theorem Pts.at4(p:Pts):p.at 4=p.far:=rfl
structure Pts.ok (p:Pts) (h:Hp):Prop where
 ob:∀k,∀o∈p.at k,RY (P (Zx h k)) o/\ZA o.target
 len:∀k,P (p.at k)<=1000000
def Xh(h:Hp):Option Pts:=
 let low:=ZN h.low [] xh;let high:=ZN h.high [] xh
 if low.2≠0\/high.2≠0 then xw else
 let p:=Vd h h.old low.1;let q:=Vd h h.far low.1;let d:=ZN h.old (p.getD []) xy;let a:=ZN h.far (q.getD []) xy
 if p=xw\/q=xw\/d.2≠0\/a.2≠0 then xw else xk ⟨low.1,high.1,d.1,a.1⟩
def HU{h:Hp}(a:h.ok){p:Pts}(f:Xh h=xk p):p.ok h:=by
 unfold Xh at f;dsimp only at f;split at f;cases f;split at f;cases f;cases f;refine⟨λk o d=> ?_,λk=> ?_⟩;unfold Pts.at at d;unfold Zx;split at d;rename_i e;rw[if_pos e];exact QX a.lowW o d;rename_i g;rw[if_neg g];split at d;rename_i e;rw[if_pos e];exact QX a.highW o d;rename_i j;rw[if_neg j];split at d;rename_i e;rw[if_pos e];exact QX a.oldW o d;rename_i e;rw[if_neg e];exact QX a.farW o d;unfold Pts.at;split;exact Zdm QY a.low;split;exact Zdm QY a.high;split;exact Zdm QY a.old;exact Zdm QY a.far
def Xo(h:Hp)(p:Pts)(w one a:Int):Bool:=decide (w=0)||(decide ((adr w).2=0)&&((Yu h one (p.at one) (adr w).1).isSome||(Yu h a (p.at a) (adr w).1).isSome))
def WF(o:Ob):Nat:=if o.gone then 0 else 1+o.size.toNat
def Yt(l:Zo):Nat:=(l.map WF).sum
def Nh{l:Zo}{i:Nat}{o:Ob}(h:l[i]?=xk o):Yt (l.take (i+1))=Yt (l.take i)+WF o:=by
 simp_all[Yt,ZdK,Zeb,List.sum_append]
def SP{l:Zo}(h:∀o∈l,Yx o.size o.ptrs=xy):Yt l<=256*P l:=by
 induction l with
 |nil=>simp[Yt]
 |cons o l a=>
  grind [YG,WF,Yt,List.length_cons]
def W1(p:Pts):Nat:=Yt p.old+Yt p.far
def Xs(l:Zo)(a:Int):Nat:=P (l.filter λo=>o.gone&&decide (o.target=a))
def UF(p:Pts)(a:Int):Nat:=Xs p.old a+Xs p.far a
def T7(h:Hp):Bool:=
 ZG (Zu h)&&decide (P h.roots<=16)&&decide (0<=h.scan)&&decide (h.scan<=P h.low)&&
  (if h.cycle then decide (h.scan<P h.low)else decide (h.scan=P h.low)&&decide (P h.old=0)&&decide (P h.far=0))
def VQ(h:Hp)(p:Pts)(part:Int)(k:Nat):Bool:=
 let w:=((Zx h part)[k]?).getD 0;let a:=Xo h p w 1 2;let from_:=Xo h p w 3 4
 if 2<part then from_ else if part=1/\h.scan<=k then a||from_ else a
def zq(h:Hp)(p:Pts)(part:Int)(o:Ob):Bool:=(List.range o.ptrs.toNat).all λj=>VQ h p part (o.at_.toNat+1+j)
def Wk(h:Hp)(p:Pts)(part:Int):Bool:=(p.at part).all (zq h p part)
def CR{α:Type}{q:α->Bool}{l:List α}{i:Nat}{x:α}(h:l[i]?=xk x):(l.take (i+1)).all q=((l.take i).all q&&q x):=by
 rw[ZdK,h,ZgH];simp
def CQ{α:Type}{q:α->Bool}{l:List α}{i:Nat}{x:α}(h:l[i]?=xk x)(a:q x=xh):l.all q=xh:=by
 grind
def SK(h:Hp)(p:Pts)(o:Ob):Bool:=decide (UF p (YS h 1 o.at_)=1)
def TT(h:Hp)(p:Pts):Bool:=
 (!h.cycle||p.low.all (SK h p))&&h.roots.all (λw=>Xo h p w 1 2)&&Wk h p 1&&Wk h p 2&&Wk h p 3&&Wk h p 4&&decide ((P h.low:Int)+P h.high+W1 p<=h.cap)
def XE(h:Hp):Bool:=T7 h&&match Xh h with
 |none=>xh
 |some p=>TT h p
def XB{h:Hp}(a:h.ok)(k:Int):(∀w∈Zx h k,ZA w)/\P (Zx h k)<=1000000:=by
 unfold Zx;split;exact⟨a.lowW,a.low⟩;split;exact⟨a.highW,a.high⟩;split;exact⟨a.oldW,a.old⟩;exact⟨a.farW,a.far⟩
def Z7p{h:Hp}{p:Pts}(a:p.ok h):W1 p<=512*1000000:=by
 have f:=SP (l:=p.at 3) λo d=>(a.ob 3 o d).1.2;have g:=SP (l:=p.at 4) λo d=>(a.ob 4 o d).1.2;have j:=a.len 3;have k:=a.len 4;grind [Pts.at3,Pts.at4,W1]
def Z5B{h:Hp}(a:XE h=xy):∃p,Xh h=xk p/\TT h p=xy/\T7 h=xy:=by
 unfold XE at a;grind
def Vq(h:Hp)(part:Int):List Ob×Int:=if XE h=xy/\1<=part/\part<=4 then(((Xh h).getD default).at part,0)else([],1)
def QV(h:Hp):Int:=if XE h then W1 ((Xh h).getD default)else 0
end Vm
end
section

end
section
namespace Vm
open Go Go.Proofs
def L0{w:Int}(a:ZA w):ZA (adr w).1:=by
 grind [ZA,adr]
def Z0n{l:Ly}{a:Int}(h:(Y9 l a).2.2=0):ZG l=xy/\1<=(Y9 l a).1/\(Y9 l a).1<=4/\0<=(Y9 l a).2.1/\(Y9 l a).2.1<YR l (Y9 l a).1/\a=fstL l (Y9 l a).1+(Y9 l a).2.1:=by
 unfold Y9 at*;cases k:ZG l;grind;simp only[k]at h⊢;simp only[Zem,Zdu]at h⊢;by_cases d:YW l a 1=xy;rw[if_pos d];have:=Tx.1 d;grind;rw[if_neg d]at h⊢;by_cases f:YW l a 2=xy;rw[if_pos f];have:=Tx.1 f;grind;rw[if_neg f]at h⊢;by_cases g:YW l a 3=xy;rw[if_pos g];have:=Tx.1 g;grind;rw[if_neg g]at h⊢;by_cases j:YW l a 4=xy;rw[if_pos j];have:=Tx.1 j;grind;simp_all
theorem UD{h:Hp}{k:Int}(a:1<=k/\k<=4):YR (Zu h) k=P (Zx h k):=by
 have:k=1\/k=2\/k=3\/k=4:=Z0;obtain rfl|rfl|rfl|rfl:=this<;>rfl
def Hp.zero:Hp:=⟨0,0,0,xh,0,[],[],[],[],[]⟩
def zr(ws:List Int)(a:Nat):Nat->List Int
 |0=>ws
 |i+1=>(zr ws a i).set (a+i) 0
@[simp]theorem yW(ws:List Int)(a n:Nat):P (zr ws a n)=P ws:=by
 induction n with
 |zero=>rfl
 |succ n d=>simp[zr,d]
def Xk(h:Hp)(part:Int)(a n:Nat):Hp:= {h with low:=h.low++((Zx h part).take (a+n)).drop a}
def Ts(h:Hp)(part:Int)(a n:Nat):Int×Hp×Int:=
 if P (Zx h part)<a+n then(0,Hp.zero,2)
 else if Xl (Zu h)<n then(0,Hp.zero,7)
 else
  let d:=(XC (ZY (Zu (Xk h part a n)) 1 (P h.low)).1).1
  (d,Xf (Xk h part a n) part ((zr (Zx h part) a n).set a d),0)
def Sm(r:Int×Hp×Int):V:=.tup [vu r.1,ZL r.2.1,vi r.2.2]
def NT{l:Ly}{k a:Int}:ZA (ZY l k a).1:=by
 unfold ZY;cases d:ZG l;simp[ZA];simp only[Zem,Zdu];split;simp[ZA];split;simp[ZA];have:=WH d k;grind [ZA]
def Ic{a:Int}:ZA (XC a).1:=by
 grind [XC,ZA]
def fwd(h:Hp)(w:Int):Int×Hp×Int:=
 if ZG (Zu h)=xh then(0,Hp.zero,1)
 else if w=0 then(0,h,0)
 else if(adr w).2≠0 then(0,Hp.zero,3)
 else if(Y9 (Zu h) (adr w).1).2.2≠0 then(0,Hp.zero,6)
 else if(Y9 (Zu h) (adr w).1).1<3 then(w,h,0)
 else if(adr ((Zx h (Y9 (Zu h) (adr w).1).1).getD (Y9 (Zu h) (adr w).1).2.1.toNat 0)).2=0 then((Zx h (Y9 (Zu h) (adr w).1).1).getD (Y9 (Zu h) (adr w).1).2.1.toNat 0,h,0)
 else if(ZP ((Zx h (Y9 (Zu h) (adr w).1).1).getD (Y9 (Zu h) (adr w).1).2.1.toNat 0)).2.2≠0 then(0,Hp.zero,3)
 else Ts h (Y9 (Zu h) (adr w).1).1 (Y9 (Zu h) (adr w).1).2.1.toNat ((ZP ((Zx h (Y9 (Zu h) (adr w).1).1).getD (Y9 (Zu h) (adr w).1).2.1.toNat 0)).1.toNat+1)
def Jw(h:Hp)(w:Int):Bool:=decide ((fwd h w).2.2=0)&&decide ((fwd h w).1=w)
end Vm
namespace Vm
open Go Go.Proofs
@[simp]theorem Z7T(k:IntKind)(a b c d e f:Int):Y4 (.agg [.int k a,.int k b,.int k c,.int k d,.int k e,.int k f]) (.int .i64 0) 6 1 xh=xk (.int k a):=rfl
@[simp]theorem Z7Z(a b c d e f:Bool):Y4 (.agg [.bool a,.bool b,.bool c,.bool d,.bool e,.bool f]) (.int .i64 0) 6 1 xh=xk (.bool a):=rfl
@[simp]theorem Z7U(k:IntKind)(a b c d e f:Int):Y4 (.agg [.int k a,.int k b,.int k c,.int k d,.int k e,.int k f]) (.int .i64 1) 6 1 xh=xk (.int k b):=rfl
@[simp]theorem Z80(a b c d e f:Bool):Y4 (.agg [.bool a,.bool b,.bool c,.bool d,.bool e,.bool f]) (.int .i64 1) 6 1 xh=xk (.bool b):=rfl
@[simp]theorem Z7V(k:IntKind)(a b c d e f:Int):Y4 (.agg [.int k a,.int k b,.int k c,.int k d,.int k e,.int k f]) (.int .i64 2) 6 1 xh=xk (.int k c):=rfl
@[simp]theorem Z81(a b c d e f:Bool):Y4 (.agg [.bool a,.bool b,.bool c,.bool d,.bool e,.bool f]) (.int .i64 2) 6 1 xh=xk (.bool c):=rfl
@[simp]theorem Z7W(k:IntKind)(a b c d e f:Int):Y4 (.agg [.int k a,.int k b,.int k c,.int k d,.int k e,.int k f]) (.int .i64 3) 6 1 xh=xk (.int k d):=rfl
@[simp]theorem Z82(a b c d e f:Bool):Y4 (.agg [.bool a,.bool b,.bool c,.bool d,.bool e,.bool f]) (.int .i64 3) 6 1 xh=xk (.bool d):=rfl
@[simp]theorem Z7X(k:IntKind)(a b c d e f:Int):Y4 (.agg [.int k a,.int k b,.int k c,.int k d,.int k e,.int k f]) (.int .i64 4) 6 1 xh=xk (.int k e):=rfl
@[simp]theorem Z83(a b c d e f:Bool):Y4 (.agg [.bool a,.bool b,.bool c,.bool d,.bool e,.bool f]) (.int .i64 4) 6 1 xh=xk (.bool e):=rfl
@[simp]theorem Z7Y(k:IntKind)(a b c d e f:Int):Y4 (.agg [.int k a,.int k b,.int k c,.int k d,.int k e,.int k f]) (.int .i64 5) 6 1 xh=xk (.int k f):=rfl
@[simp]theorem Z84(a b c d e f:Bool):Y4 (.agg [.bool a,.bool b,.bool c,.bool d,.bool e,.bool f]) (.int .i64 5) 6 1 xh=xk (.bool f):=rfl
end Vm
namespace Vm
open Go Go.Proofs
def Z7y{h:Hp}(A:h.ok){k:Int}{l:List Int}(o:P l<=1000000)(h2:∀w∈l,ZA w):(Xf h k l).ok:=by
 obtain⟨a,d,f,g,p,q,r,t,j,u,x,y,z,n⟩:=A;unfold Xf;split;exact⟨a,d,f,g,o,q,r,t,j,h2,x,y,z,n⟩;split;exact⟨a,d,f,g,p,o,r,t,j,u,h2,y,z,n⟩;split;exact⟨a,d,f,g,p,q,o,t,j,u,x,h2,z,n⟩;exact⟨a,d,f,g,p,q,r,o,j,u,x,y,h2,n⟩
end Vm
end
section
namespace Vm
open Go Go.Proofs
def KN{n:Nat}{x:V}(h:Xe Try.prog (n+1) 3 x):∃m,x=vi m/\YD m:=by
 obtain⟨m,rfl,a,d⟩:=MH Try.underlying3 h;exact⟨m,rfl,a,d⟩
def MJ{n:Nat}{x:V}(h:Xe Try.prog (n+1) 24 x):∃m,x=vu m/\ZA m:=by
 obtain⟨m,rfl,a,d⟩:=MH Try.underlying24 h;exact⟨m,rfl,a,Int.lt_of_le_of_lt d (by decide)⟩
def C0{n:Nat}{x:V}(h:Xe Try.prog (n+2) 23 x):∃l:Zf,x=.sl (l.map vi)/\P l<=maxLen/\∀p∈l,YD p:=
 BZ Try.underlying23 h λy a=>KN a
def Z7b{n:Nat}{x:V}(h:Xe Try.prog (n+2) 35 x):∃l:Zf,x=.sl (l.map vu)/\P l<=maxLen/\∀p∈l,ZA p:=
 BZ Try.underlying35 h λy a=>MJ a
def Nd.fits(x:Nd):Prop:=(P x.ptrs<=maxLen/\∀p∈x.ptrs,YD p)/\P x.data<=maxLen/\∀p∈x.data,ZA p
def Z78{n:Nat}{x:V}(h:Xe Try.prog (n+3) 105 x):∃a:Nd,x=Yf a/\a.fits:=by
 obtain⟨q,rfl,o,d⟩:=MI Try.underlying105 h
 match q,o with
 | [a,b],_=>
   obtain⟨p,rfl,g,j⟩:=C0 (d 0 _ a rfl rfl);obtain⟨f,rfl,k,l⟩:=Z7b (d 1 _ b rfl rfl);exact⟨⟨p,f⟩,rfl,⟨g,j⟩,k,l⟩
def Z79{n:Nat}{x:V}(h:Xe Try.prog (n+4) 22 x):∃l:List Nd,x=.sl (l.map Yf)/\P l<=maxLen/\∀a∈l,a.fits:=
 BZ Try.underlying22 h λy d=>Z78 d
def Z7a{n:Nat}{x:V}(h:Xe Try.prog (n+5) 26 x):∃r:Rw,x=XY r/\r.ok:=by
 obtain⟨F,rfl,B,j⟩:=MI Try.underlying26 h
 match F,B with
 | [a,b,c,d,e,f,g],_=>
   obtain⟨C,rfl,_,o⟩:=Z79 (j 0 _ a rfl rfl);obtain⟨D,rfl,_,t⟩:=C0 (j 1 _ b rfl rfl);obtain⟨q,rfl,_,u⟩:=C0 (j 2 _ c rfl rfl);obtain⟨d,rfl,w⟩:=MJ (j 3 _ d rfl rfl);obtain⟨e,rfl,y⟩:=KN (j 4 _ e rfl rfl);obtain⟨f,rfl,z⟩:=KN (j 5 _ f rfl rfl);obtain⟨g,rfl,A⟩:=KN (j 6 _ g rfl rfl);exact⟨⟨C,D,q,d,e,f,g⟩,rfl,λn k p l=>(o n k).1.2 p l,λn k p l=>(o n k).2.2 p l,t,u,w,y,z,A⟩
def own:ownKnob Try.prog.godebug=xw:=Z2
def laidOut:laidOutB Try.prog=xy:=Z2
end Vm
end
section
namespace Vm
open Go Go.Proofs Go.RowKit
section
section
variable {P:Z4}{w:Z3}
def Z7G{o:Oper}{a:Act}{K:Act->World->Prop}{Q:Zr}(s x:Operand)(t:Z8)
  (H:o.op=.call {callee:=.builtin .append,args:=#[s,x],argTypes:=#[t,t]}) {e:Z8} (L:P.underlying t=xk (.slice e)) (p:Uk P e=xy)
  {B n:Nat} {v y:Z7} {xs:Zk} (J:a.eval s=v) (hx:a.eval x=y) (k:w.ownsRow B e (P.cellsOf e) v n xs) (D:B<=U (R w))
  {Gy:Z6} {l:Zp} (M:Rd w Gy (.sl l) y) (F:Wc (P.cellsOf e) l=xy) (j:n+xq l<=Y5)
  (h:∀g f d,f.ownsRow B e (P.cellsOf e) g (n+xq l) (xs++d)->w.grownBy f v.ownBlock->(g.ownBlock=v.ownBlock\/(w.grownBy f xw/\f.ownsRow (U (R w)) e (P.cellsOf e) g (n+xq l) (xs++d)))->
   (∀(i:Nat) (q:V),(flat l)[i]?=xk q->∃u,d[i]?=xk u/\Rd w Gy q u)->K (a.put o.dst g) f):o.wp P a w K Q:=by
 obtain⟨g,f,d,I,r,z,A,_,C⟩:=Bl (ty:=o.type) L p k D M F j;unfold Oper.wp execOp;simp only[H,resolve,invoke,builtin,Zdp,ZeL,Zdj,List.map_toArray,Zdc,Zex,J,hx,I];exact h g f d r z A C
def N9{ops:Zq}{rest:List Oper}{o:Oper}{a:Act}{Q:Zr}(q:o.guard=xw)(s x:Operand)(t:Z8)
  (J:o.op=.call {callee:=.builtin .append,args:=#[s,x],argTypes:=#[t,t]}) {e:Z8} (L:P.underlying t=xk (.slice e)) (p:Uk P e=xy)
  {B n:Nat} {v y:Z7} {xs:Zk} (K:a.eval s=v) (hx:a.eval x=y) (k:w.ownsRow B e (P.cellsOf e) v n xs) (F:B<=U (R w))
  {Gy:Z6} {l:Zp} (M:Rd w Gy (.sl l) y) (I:Wc (P.cellsOf e) l=xy) (j:n+xq l<=Y5)
  (h:∀g f d,f.ownsRow B e (P.cellsOf e) g (n+xq l) (xs++d)->w.grownBy f v.ownBlock->(g.ownBlock=v.ownBlock\/(w.grownBy f xw/\f.ownsRow (U (R w)) e (P.cellsOf e) g (n+xq l) (xs++d)))->
   (∀(i:Nat) (r:V),(flat l)[i]?=xk r->∃u,d[i]?=xk u/\Rd w Gy r u)->wpList P ops Q rest (a.put o.dst g) f):wpList P ops Q (o::rest) a w:=
 wpList_plain q λ_ H=>Z7G s x t J L p K hx k F M I j λg f d z A C D=>H _ _ (h g f d z A C D)
end
def X4(k:Zl)(l:Zf):List Value:=l.map (Value.int k)
def G8{w:Z3}{G:Z6}{k:Zl}{l:Zf}{d:Zk}(h:∀(i:Nat) (g:V),(flat (l.map (V.int k)))[i]?=xk g->∃u,d[i]?=xk u/\Rd w G g u)(n:P d=P l):d=X4 k l:=by
 have f:flat (l.map (V.int k))=l.map (V.int k):=by
  clear h n;induction l with
  |nil=>rfl
  |cons a l q=>rw[Zdc,Sk,q];rfl
 apply ZfD;intro i;unfold X4;by_cases j:i<P l;obtain⟨u,p,o⟩:=h i (.int k l[i]) (by rw[f,Zdb,ZcM j];rfl);rw[p,Zdb,ZcM j];cases o;rfl;rw[ZdY Z0,ZdY ZbV]
def YJ{w:Z3}{B:Nat}{e:Z8}{z n:Nat}{v:Z7}{xs:Zk}(h:w.ownsRow B e z v n xs):∃a c,v=.slice a n c:=by
 obtain⟨rfl,rfl⟩|⟨g,cap,d,rfl,_⟩:=h.2;exact⟨_,_,rfl⟩;exact⟨_,_,rfl⟩
theorem WX{w w':Z3}{B:Nat}{e:Z8}{z n:Nat}{v:Z7}{xs:Zk}(h:w.ownsRow B e z v n xs)(l:∀b,v.ownBlock=xk b->w'.heap[b]?=w.heap[b]?):w'.ownsRow B e z v n xs:=by
 refine⟨h.1,?_⟩;obtain⟨f,d⟩|⟨g,cap,a,rfl,d,j,k⟩:=h.2;exact .inl ⟨f,d⟩;exact .inr ⟨g,cap,a,rfl,d,by rw[l g rfl];exact j,k⟩
def X2{w:Z3}{b o:Nat}{cs:Z9}{T:Z8}(h:w.heap[b]?=xk (.cells cs T (0,0))):w.frozen? ⟨b,o,xw⟩=xh:=by
 simp[World.frozen?,h]
def DF:Uk Sol.prog 24=xy:=Z2
theorem Lb:Sol.prog.cellsOf 24=1:=Z2
def YO{w:Z3}{b:Nat}{o:Obj}(h:w.heap[b]?=xk o):b<U (R w):=(ZcS.1 h).1
def zI{w:Z3}{B B':Nat}{e:Z8}{z n:Nat}{v:Z7}{xs:Zk}(h:w.ownsRow B e z v n xs)(j:B'<=B):w.ownsRow B' e z v n xs:=by
 refine⟨h.1,?_⟩;obtain d|⟨g,cap,a,l,k,f⟩:=h.2;exact .inl d;exact .inr ⟨g,cap,a,l,Zdm j k,f⟩
def Gl(k:Zl)(l:Zf)(i:Nat)(x:Int):X4 k (l.set i x)=(X4 k l).set i (.int k x):=by unfold X4;rw[Zfq]
def Z2e:(Sol.prog.info? 24).map (λi=>(i.zero,i.size,i.bytes))=xk (xk (.int .u64 0),1,8):=Z2
section
variable {w:Z3}{B:Nat}{G:Z6}
def Z0x{k:Zl}(l:Zf):flat (l.map (V.int k))=l.map (V.int k):=by
 induction l with
 |nil=>rfl
 |cons a l d=>rw[Zdc,Sk,d];rfl
def GP{k:Zl}{e:Z8}{v:Z7}{l:Zf}(h:w.ownsRow B e 1 v (P l) (X4 k l))(r:∀c,B<=c->c<U (R w)->G c):Rd w G (.sl (l.map (V.int k))) v:=by
 obtain⟨rfl,q⟩|⟨g,cap,p,rfl,t,u,o,f,_⟩:=h.2;have:l=[]:=Zev.1 q;subst this;exact .nil _ _ (by unfold maxLen;omega)
 have:=Rd.sl (w:=w) (G:=G) (l.map (V.int k)) g 0 cap 1 (λi=>(X4 k l).getD i undef) (by simpa using o) f (r g t (YO u)) (λx y=>by
  obtain⟨n,_,rfl⟩:=Zd1.1 y
  exact⟨rfl,λc d=>by simp[V.cells]at d;subst d;rfl⟩) (λi j=>by
   have a:i<P l:=ZcJ;rw[Zdy,h.cellAt i Z0];simp[X4,a]) (λi c d=>by
   rw[Z0x]at d;obtain⟨j,rfl⟩:=ZcN.1 d;have a:i<P l:=ZcJ;simp[X4,a];exact .int _ _)
 simpa using this
end
def Z49(w:Z3)(b k:Nat)(a:k=1\/k=2\/k=3\/k=4):
  Calls Sol.prog 92 #[.pointer (xk ⟨b,0,xw⟩),.int .i64 k] w λe d=>e=.returned (.pointer (xk ⟨b,4+k,xw⟩))/\Below (U (R w)) w d:=by
 go_enter Sol.func92,Try.ntmps92;obtain rfl|rfl|rfl|rfl:=a;all_goals
  go_wp2;go_region;go_wp2;go_ret
  exact⟨rfl,((Zdr _ _).alloc (ZcR _) _).drew⟩
def YC:Array Value:=#[.int .u64 0,.int .i64 0,.int .i64 0,.bool xh,.int .i64 0,.slice xw 0 0,.slice xw 0 0,.slice xw 0 0,.slice xw 0 0,.slice xw 0 0]
abbrev Ke(w:Z3)(b:Nat)(v0 v1 v2 v3 v4 v5 v6 v7 v8 v9:Z7):World:=(((((((((w.setCell ⟨b,0,xw⟩ v0).setCell ⟨b,1,xw⟩ v1).setCell ⟨b,2,xw⟩ v2).setCell ⟨b,3,xw⟩ v3).setCell ⟨b,4,xw⟩ v4).setCell ⟨b,5,xw⟩ v5).setCell ⟨b,6,xw⟩ v6).setCell ⟨b,7,xw⟩ v7).setCell ⟨b,8,xw⟩ v8).setCell ⟨b,9,xw⟩ v9
def Z4O{w2:Z3}{b:Nat}{T:Z8}(a:w2.heap[b]?=xk (.cells YC T (0,0)))(v0 v1 d f v4 g v6 h j k:Z7):(Ke w2 b v0 v1 d f v4 g v6 h j k).heap[b]?=xk (.cells #[v0,v1,d,f,v4,g,v6,h,j,k] T (0,0)):=by
 unfold YC at a;simp[World.setCell,ZdW,a]
def Uz{w2:Z3}{b:Nat}{T:Z8}(l:w2.heap[b]?=xk (.cells YC T (0,0)))(v0 v1 a d v4 f v6 g h k:Z7)(j:Nat):(Ke w2 b v0 v1 a d v4 f v6 g h k).cell? ⟨b,j,xw⟩=(#[v0,v1,a,d,v4,f,v6,g,h,k]:Array Value)[j]? :=
 Zd5 _ _ _ _ _ _ (Z4O l v0 v1 a d v4 f v6 g h k)
def Uy{B:Nat}{w0 w2:Z3}{b:Nat}(h:Below B w0 w2)(a:B<=b)(v0 v1 d f v4 g v6 j k l:Z7):Below B w0 (Ke w2 b v0 v1 d f v4 g v6 j k l):=
 (((((((((h.setCell a _).setCell a _).setCell a _).setCell a _).setCell a _).setCell a _).setCell a _).setCell a _).setCell a _).setCell a _
def B3{w2:Z3}{b c:Nat}(hc:c≠b)(v0 v1 a d v4 f v6 g h j:Z7):(Ke w2 b v0 v1 a d v4 f v6 g h j).heap[c]?=w2.heap[c]? :=by
 have:¬b=c:=λe=>hc e.symm;simp[World.setCell,ZdW,this]
end
def Zv(h:Hp)(j:Nat):List Int:=if j=0 then h.low else if j=1 then h.high else if j=2 then h.old else if j=3 then h.far else h.roots
structure OwSt (w:World) (b:Nat) (el:Nat->Option Obj) (T:TypeId) (hd src:Nat->Value) (L:Nat->List Int) (k:Nat) (xs:Nat->Value) (wr:World):Prop where
 below:Below (U (R w)) w wr
 new:U (R w)<=b
 blk:wr.heap[b]?=xk (.cells #[hd 0,hd 1,hd 2,hd 3,hd 4,xs 0,xs 1,xs 2,xs 3,src 4] T (0,0))
 elder:∀c,U (R w)<=c->c<b->wr.heap[c]?=el c
 rest:∀j,k<=j->xs j=src j
 own:∀j,j<k->wr.ownsRow (U (R w)) 24 1 (xs j) (P (L j)) (X4 .u64 (L j))
 newer:∀j,j<k->∀c,(xs j).ownBlock=xk c->b<c
 apart:∀i j,i<j->j<k->∀c,(xs i).ownBlock=xk c->(xs j).ownBlock≠xk c
abbrev Zh:=Nat->Value
def OwSt.next{w wr w1 o:Z3}{b:Nat}{z:Nat->Option Obj}{T:Z8}{g l:Zh}{L:Nat->List Int}{k:Nat}{xs:Zh}(h:OwSt w b z T g l L k xs wr)(H:k<4)
  (p:Below (U (R wr)) wr w1) (q:w1.grownBy o xw) {v:Z7} (I:o.ownsRow (U (R w)) 24 1 v (P (L k)) (X4 .u64 (L k))) (D:∀c,v.ownBlock=xk c->U (R w1)<=c):
  OwSt w b z T g l L (k+1) (λj=>if j=k then v else xs j) (o.setCell ⟨b,5+k,xw⟩ v):=by
 have r:b<U (R wr):=YO h.blk;have F:=p.size;have y:=h.below.size;have G:=q.size;have f:∀c,c<U (R wr)->c≠b->(o.setCell ⟨b,5+k,xw⟩ v).heap[c]?=wr.heap[c]? :=λc d x=>by
  rw[Zdi _ _ _ _ x,q.block c Z0 Z1,p.block c d]
 have C:o.heap[b]?=xk (.cells #[g 0,g 1,g 2,g 3,g 4,xs 0,xs 1,xs 2,xs 3,l 4] T (0,0)):=by
  rw[q.block b Z0 Z1,p.block b r,h.blk]
 refine⟨((h.below.trans (p.mono y)).grown q Z0 Z1).setCell h.new _,h.new,?_,?_,?_,?_,?_,?_⟩;have:k=0\/k=1\/k=2\/k=3:=Z0;obtain rfl|rfl|rfl|rfl:=this<;>simp[World.setCell,ZdW,C];intro c A B;rw[f c Z0 Z0];exact h.elder c A B;intro j u;rw[if_neg Z0];exact h.rest j Z0;intro j u;by_cases a:j=k;subst a;rw[if_pos rfl];grind [WX,Below.heap_setCell];rw[if_neg a];have n:=h.own j Z0;exact WX n λc d=>f c (n.lt c d).2 (by have:=h.newer j Z0 c d;omega);intro j u c d;by_cases a:j=k;grind;rw[if_neg a]at d;exact h.newer j Z0 c d;intro i j t u c d;rw[if_neg Z0]at d;by_cases a:j=k;rw[if_pos a];intro e;have:=D c e;have:=((h.own i Z0).lt c d).2;omega;rw[if_neg a];exact h.apart i j t Z0 c d
structure HOwn (B:Nat) (w:World) (h:Hp) (x:Nat->Value):Prop where
 own:∀j,j<5->w.ownsRow B 24 1 (x j) (P (Zv h j)) (X4 .u64 (Zv h j))
 apart:∀i j,i<j->j<5->∀c,(x i).ownBlock=xk c->(x j).ownBlock≠xk c
def ZZ(h:Hp)(x:Zh):Value:=.agg #[.int .u64 h.base,.int .i64 h.cap,.int .i64 h.to,.bool h.cycle,.int .i64 h.scan,x 0,x 1,x 2,x 3,x 4]
def NF(w:Z3)(h:Hp)(e:Ending)(w':Z3):Prop:=∃x,e=.returned (ZZ h x)/\Below (U (R w)) w w'/\HOwn (U (R w)) w' h x
def Qt{h:Hp}(a:h.ok)(k:Nat):P (Zv h k)<=1000000:=by
 unfold Zv;split;exact a.low;split;exact a.high;split;exact a.old;split;exact a.far;exact a.roots
def Z4a(w:Z3)(b k:Nat)(d:k<4):
  Calls Sol.prog 92 #[.pointer (xk ⟨b,0,xw⟩),.int .i64 ((k+1:Nat):Int)] w λe a=>e=.returned (.pointer (xk ⟨b,5+k,xw⟩))/\Below (U (R w)) w a:=by
 have:=Z49 w b (k+1) Z0;grind
def KV(w:Z3)(G:Z6)(hG:∀b,G b->b<xz (xj w))(h:Hp)(hh:h.ok)(d:Zh)(hs:∀j,j<5->Rd w G (.sl ((Zv h j).map vu)) (d j)):
  Calls Sol.prog 66 #[ZZ h d] w (NF w h):=by
 have HS:=ZcX hs;have HH:=ZcX hh;clear hs hh;unfold ZZ;go_enter Sol.func66,Try.ntmps66;go_wp2
 go_loopw [4] (λi wr=>∃(k:Nat) (xs:Zh),i=.int .i64 ((k+1:Nat):Int)/\k<=4/\Hid (OwSt w (xz (xj w)+2) (λc=>if c=(xz (xj w)) then xk (.cells #[.int .u64 h.base,.int .i64 h.cap,.int .i64 h.to,.bool h.cycle,.int .i64 h.scan,d 0,d 1,d 2,d 3,d 4] 37 (0,0))else xk (.cells #[.int .u64 0,.int .i64 0,.int .i64 0,.bool xh,.int .i64 0,.slice xw 0 0,.slice xw 0 0,.slice xw 0 0,.slice xw 0 0,.slice xw 0 0] 37 (0,0))) 151 (λj=>if j=0 then .int .u64 h.base else if j=1 then .int .i64 h.cap else if j=2 then .int .i64 h.to else if j=3 then .bool h.cycle else .int .i64 h.scan) d (Zv h) k xs wr))
  (λi _=>5- (intOf i).toNat)
 case atStart=>
  refine⟨0,d,rfl,Z0,ZcX ⟨(((Zdr _ _).alloc (ZcR _) _).alloc Z1 _).alloc ZbV _,Z0,?_,?_,λ_ _=>rfl,λj hj=>Z0,λj hj=>Z0,λi j _ hj=>Z0⟩⟩;have:=Zdf ((w.alloc (.cells #[.int .u64 h.base,.int .i64 h.cap,.int .i64 h.to,.bool h.cycle,.int .i64 h.scan,d 0,d 1,d 2,d 3,d 4] 37)).alloc (.cells #[.int .u64 0,.int .i64 0,.int .i64 0,.bool xh,.int .i64 0,.slice xw 0 0,.slice xw 0 0,.slice xw 0 0,.slice xw 0 0,.slice xw 0 0] 37)) (.cells #[.int .u64 h.base,.int .i64 h.cap,.int .i64 h.to,.bool h.cycle,.int .i64 h.scan,d 0,d 1,d 2,d 3,d 4] 151);simp_all;intro c h1 Y;have:c=(xz (xj w))\/c=xz (xj w)+1:=Z0;obtain rfl|rfl:=this;rw[if_pos rfl,ZcU _ _ _ ZbV,ZcU _ _ _ Z1];exact Zdf _ _;rw[if_neg Z0,ZcU _ _ _ Z1];have:=Zdf (w.alloc (.cells #[.int .u64 h.base,.int .i64 h.cap,.int .i64 h.to,.bool h.cycle,.int .i64 h.scan,d 0,d 1,d 2,d 3,d 4] 37)) (.cells #[.int .u64 0,.int .i64 0,.int .i64 0,.bool xh,.int .i64 0,.slice xw 0 0,.slice xw 0 0,.slice xw 0 0,.slice xw 0 0,.slice xw 0 0] 37);simp_all
 case round=>
  obtain⟨k,xs,rfl,hk,g⟩:=hrel;have a3:=YO g.out.blk;by_cases a1:k<4
  .have b3:((k+1:Nat):Int)<=4:=Z0;have c0:wr.cell? ⟨xz (xj w)+2,5+k,xw⟩=xk (d k):=by
    rw[Zd5 _ _ _ _ _ _ g.out.blk];have h3:k=0\/k=1\/k=2\/k=3:=Z0;have hr:=g.out.rest k (ZcR _);obtain rfl|rfl|rfl|rfl:=h3<;>simp[<-hr]
   have f0:wr.frozen? ⟨xz (xj w)+2,5+k,xw⟩=xh:=X2 g.out.blk;have a9:xq (Zv h k)<=1000000:=Qt HH.out k
   go_wp2_with (first
    |(go_at_call 92;refine(Z4a _ _ _ a1).mono ?_;rintro e w1 ⟨rfl,C⟩;have c1:=(C.cell (p:=⟨xz (xj w)+2,5+k,xw⟩) (by exact a3)).trans c0;have f1:=(C.frozen (p:=⟨xz (xj w)+2,5+k,xw⟩) (by exact a3)).trans f0;have Q:=ZcX ((HS.out k (by omega)).keep (w':=w1) (λb hb=>by rw[C.block b (by have:=hG b hb;omega)];exact g.out.below.block b (hG b hb)) (λ_ h=>h));have a4:=ZcX C;have b4:=C.size;have a2:=g.out.below.size;clear C)
    |(at_builtin;refine N9 (B:=xz (xj w)) (n:=0) (xs:=[]) rfl _ _ _ rfl Sol.underlying35 DF rfl rfl (Zed _ _ _ _) (by omega) (l:=(Zv h k).map vu) (Gy:=G) Q.out (by grind [Lb,BE]) (by grind [Y5]) ?_))
   intro v6 w6 x a f A O;simp only[Lb]at a;have S:xq x=xq (Zv h k):=by have:=a.1;simp_all
   rw[G8 O S]at a;try simp only[Zdz,Zdy,ZdJ]at a
   obtain⟨N,P,T⟩:=YJ a;subst T;have u:(Value.slice xw 0 0).ownBlock=xw:=rfl;rw[u]at f;have c6:=(f.cell_far ⟨xz (xj w)+2,5+k,xw⟩ ZbT Z1).trans c1;have f6:=(f.frozen_far ⟨xz (xj w)+2,5+k,xw⟩ ZbT Z1).trans f1;have q:∀c,(Value.slice N (xq (Zv h k)) P).ownBlock=xk c->xz (xj w1)<=c:=by
    intro c t;obtain e|⟨_,e⟩:=A;simp_all;exact(e.lt c t).1
   have HN:=ZcX (g.out.next a1 a4.out f a q);clear a f A O q;go_wp2;go_roundw
   case rel=>grind
   case measure=>grind [intOf]
  .have a8:k=4:=Z0;subst a8;have b0:=g.out.elder (xz (xj w)) Z0 Z0;rw[if_pos rfl]at b0;have b1:=g.out.elder (xz (xj w)+1) Z0 Z0;rw[if_neg Z0]at b1;have c9:wr.cell? ⟨xz (xj w),9,xw⟩=xk (d 4):=by rw[Zd5 _ _ _ _ _ _ b0];rfl
   have a9:xq (Zv h 4)<=1000000:=Qt HH.out 4;have Q:=ZcX ((HS.out 4 Z0).keep (w':=wr) (λb hb=>g.out.below.block b (hG b hb)) (λ_ h=>h));have a2:=g.out.below.size;go_wp2_with (at_builtin;refine N9 (B:=xz (xj w)) (n:=0) (xs:=[]) rfl _ _ _ rfl Sol.underlying35 DF rfl rfl (Zed _ _ _ _) Z0 (l:=(Zv h 4).map vu) (Gy:=G) Q.out (by grind [Lb,BE]) (by grind [Y5]) ?_)
   intro v6 w6 x a f A O;simp only[Lb]at a;have S:xq x=xq (Zv h 4):=by have:=a.1;simp_all
   rw[G8 O S]at a;try simp only[Zdz,Zdy,ZdJ]at a
   obtain⟨N,P,T⟩:=YJ a;subst T;have u:(Value.slice xw 0 0).ownBlock=xw:=rfl;rw[u]at f;obtain⟨D,J,e0⟩:=YJ (g.out.own 0 Z0);obtain⟨F,K,e1⟩:=YJ (g.out.own 1 Z0);obtain⟨H,L,e2⟩:=YJ (g.out.own 2 Z0);obtain⟨I,M,e3⟩:=YJ (g.out.own 3 Z0);have blk:wr.heap[xz (xj w)+2]?=xk (.cells #[.int .u64 h.base,.int .i64 h.cap,.int .i64 h.to,.bool h.cycle,.int .i64 h.scan,.slice D (xq (Zv h 0)) J,.slice F (xq (Zv h 1)) K,.slice H (xq (Zv h 2)) L,.slice I (xq (Zv h 3)) M,d 4] 151 (0,0)):=by rw[<-e0,<-e1,<-e2,<-e3];exact g.out.blk
   have y:=(f.block (xz (xj w)+2) Z0 Z1).trans blk;have W:=(f.block (xz (xj w)+1) Z0 Z1).trans b1;have x9:w6.cell? ⟨xz (xj w)+2,9,xw⟩=xk (d 4):=by rw[Zd5 _ _ _ _ _ _ y];rfl
   have y9:w6.frozen? ⟨xz (xj w)+2,9,xw⟩=xh:=X2 y;obtain⟨U,h7⟩:∃U,w6.setCell ⟨xz (xj w)+2,9,xw⟩ (.slice N (xq (Zv h 4)) P)=U:=⟨_,rfl⟩;have X:U.heap[xz (xj w)+2]?=xk (.cells #[.int .u64 h.base,.int .i64 h.cap,.int .i64 h.to,.bool h.cycle,.int .i64 h.scan,.slice D (xq (Zv h 0)) J,.slice F (xq (Zv h 1)) K,.slice H (xq (Zv h 2)) L,.slice I (xq (Zv h 3)) M,.slice N (xq (Zv h 4)) P] 151 (0,0)):=by
    rw[<-h7];simp[World.setCell,ZdW,y]
   have R:U.heap[xz (xj w)+1]?=xk (.cells YC 37 (0,0)):=by
    rw[<-h7,Zdi _ _ _ _ Z1];exact W
   have l:=λj=>Zd5 _ _ j _ _ _ X;have m:=λj=>Zd5 _ _ j _ _ _ R;unfold YC at m;have r:=λj=>X2 (o:=j) R;have z:=Uz R (.int .u64 h.base) (.int .i64 h.cap) (.int .i64 h.to) (.bool h.cycle) (.int .i64 h.scan) (.slice D (xq (Zv h 0)) J) (.slice F (xq (Zv h 1)) K) (.slice H (xq (Zv h 2)) L) (.slice I (xq (Zv h 3)) M) (.slice N (xq (Zv h 4)) P);have a5:Below (xz (xj w)) w U:=by rw[<-h7];exact(g.out.below.grown f a2 Z1).setCell Z1 _
   have b2:∀c,c≠xz (xj w)+2->U.heap[c]?=w6.heap[c]? :=λc t=>by rw[<-h7];exact Zdi _ _ _ _ t
   have q:∀c,(Value.slice N (xq (Zv h 4)) P).ownBlock=xk c->xz (xj wr)<=c:=by
    intro c t;obtain e|⟨_,e⟩:=A;simp_all;exact(e.lt c t).1
   clear y W blk b0 b1 c9;go_wp2;refine ZdU (v:=.agg #[.int .u64 h.base,.int .i64 h.cap,.int .i64 h.to,.bool h.cycle,.int .i64 h.scan,.slice D (xq (Zv h 0)) J,.slice F (xq (Zv h 1)) K,.slice H (xq (Zv h 2)) L,.slice I (xq (Zv h 3)) M,.slice N (xq (Zv h 4)) P]) (by simp[results,Try.results66,go_sem,z]) rfl ⟨λj=>if j=4 then .slice N (xq (Zv h 4)) P else xs j,by simp[ZZ,e0,e1,e2,e3],Uy a5 Z1 _ _ _ _ _ _ _ _ _ _,?_⟩;have a0:=λc h1 Y=>(B3 (w2:=U) (b:=xz (xj w)+1) (c:=c) h1 (.int .u64 h.base) (.int .i64 h.cap) (.int .i64 h.to) (.bool h.cycle) (.int .i64 h.scan) (.slice D (xq (Zv h 0)) J) (.slice F (xq (Zv h 1)) K) (.slice H (xq (Zv h 2)) L) (.slice I (xq (Zv h 3)) M) (.slice N (xq (Zv h 4)) P)).trans (b2 c Y);refine⟨λj hj=> ?_,λi j a7 hj c t=> ?_⟩;by_cases Z:j=4;subst Z;rw[if_pos rfl];exact WX a λc t=>a0 c (by have:=q c t;omega) (by have:=q c t;omega);rw[if_neg Z];have ho:=g.out.own j Z0;exact WX ho λc t=>by
    have h1:=g.out.newer j Z0 c t;have Y:=(ho.lt c t).2;rw[a0 c Z0 Z0,f.block c Y Z1]
   rw[if_neg Z0]at t;by_cases Z:j=4;subst Z;rw[if_pos rfl];intro e;have h1:=q c e;have Y:=((g.out.own i Z0).lt c t).2;omega;rw[if_neg Z];exact g.out.apart i j a7 Z0 c t
def Z7L(z:Z7)(n:Nat):(Builtin.zeroCells #[z] n).toList=List.replicate n z:=by
 simp[Builtin.zeroCells];apply List.ext_getElem;simp;intro i a d;simp[Nat.mod_one]
def Z5R{P:Z4}{w:Z3}{T tI ty e:Z8}{i:TypeInfo}{z:Z7}{Y:Zl}(W:P.underlying T=xk (.slice e))(O:P.underlying tI=xk (.int Y))(U:P.info? e=xk i)(X:i.zero=xk z)
  (H:z.cells=#[z]) (h1:z.oneCell'=xy) (hs:i.size=1) (K:i.bytes=8) {B n m:Nat} {v:Z7} {xs:Zk} (l:w.ownsRow B e 1 v n xs) (Z:B<=xz (xj w)) (hm:0<m) (a1:n+m<=4294967296) (L:Zl):
  ∃M I,(Builtin.append_ #[T,tI] ty #[v,.int L m]).run P w=.ok M I/\I.ownsRow B e 1 M (n+m) (xs++List.replicate m z)/\w.grownBy I v.ownBlock/\
   (M.ownBlock=v.ownBlock\/(w.grownBy I xw/\I.ownsRow (xz (xj w)) e 1 M (n+m) (xs++List.replicate m z))):=by
 have q:xq xs=n:=by have:=l.1;simpa using this
 have f:xq (xs++List.replicate m z)=n+m:=by simp[q]
 have N:n+m<=maxLen:=by simp only[maxLen];omega
 have d:∀(a:Nat),a<n+m->∀(row:Option Nat) (J:Z9),J=xs.toArray++(List.replicate m z).toArray->
   (w.drew.alloc (.cells (J++Builtin.zeroCells z.cells (grownCap w (n+m) a e- (n+m))) e)).ownsRow (xz (xj w)) e 1
    (.slice (xk ⟨xz (xj w),0,xw⟩) (n+m) (grownCap w (n+m) a e)) (n+m) (xs++List.replicate m z)/\
   w.grownBy (w.drew.alloc (.cells (J++Builtin.zeroCells z.cells (grownCap w (n+m) a e- (n+m))) e)) row:=by
  rintro a ho row J rfl;have S:=grownCap_ge w (n+m) a e;have x:grownCap w (n+m) a e<=maxLen:=grownCap_le_maxLen w (n+m) a e N;refine⟨⟨Zc9,.inr ⟨xz (xj w),_,_,rfl,ZcR _,Zdf w.drew _,S,x,?_,?_⟩⟩,⟨rfl,rfl,rfl,Z1,λk F _=>ZcU w.drew _ k F⟩⟩;simp only[Array.size_append,Ze7,size_zeroCells,H];simp[q];omega;simp only[Array.toList_append,ZdB];rw[<-ZdB,ZgU,<-f];exact ZfH
 have A:Builtin.zeroCells z.cells m=(List.replicate m z).toArray:=by
  rw[H];apply Array.ext';rw[Z7L]
 obtain⟨rfl,rfl⟩|⟨g,cap,h,rfl,Q,hg,a2,x,a0,p⟩:=l.2;have hx:xs=[]:=ZdC q;subst hx;have t:=Lib.run_append_nil_zeros (P:=P) w T tI ty e i z L Y W O U X m hm Z0 Z0 (by rw[K];omega);have D:=d 0 Z0;simp only[Zdy,ZdJ,Array.empty_append]at D t⊢;rw[A]at t;obtain⟨g1,g2⟩:=D xw _ rfl;exact⟨_,_,t,zI g1 Z,g2,.inr ⟨g2,g1⟩⟩;by_cases o:n+m<=cap;have r:n+xq (List.replicate m z)<=h.size:=ZbV;have y:=run_storeCells_at P g n e (List.replicate m z) 0 h w hg (by simpa using r) (by intro v hv;rw[Zgk hv];exact h1);simp only[ZeP]at y;have hw:IntKind.i64.wrap (m:Int)=m:=by rw[IntKind.wrap_i64];omega
 have G:¬((m:Int)<0):=Z0;have C:¬(281474976710656< (m:Int)*8):=Z0;have F:m≠0:=Z0
 have t:(Builtin.append_ #[T,tI] ty #[.slice (xk ⟨g,0,xw⟩) n cap,.int L m]).run P w=
   .ok (.slice (xk ⟨g,0,xw⟩) (n+m) cap) (w.setRow g (h.toList.take n++List.replicate m z++h.toList.drop (n+xq (List.replicate m z))).toArray):=by
  simp[Builtin.append_,Zdx W,Zdx O,Go.sizeOf,typeInfo,zeroValue,U,X,asInt,asIntOf,hw,G,hs,K,C,F,o,A,Zeu];simp at y;rw[y];simp
 refine⟨_,_,t,⟨Zc9,.inr ⟨g,cap,_,rfl,Q,ZgT w g h _ e _ hg,o,x,?_,?_⟩⟩,⟨rfl,rfl,rfl,Z1,λk _ F=>Zew w g k _ (λe=>F (by simp[Value.ownBlock,e]))⟩,.inl rfl⟩;simp only[Ze7,ZdD,Ze3,ZeG,ZeY];simp at r⊢;omega;rw[ZgU]at p⊢;rw[p,<-f];exact ZfH;have holds:∀j u,xs[j]?=xk u->w.cell? ((⟨g,0,xw⟩:Addr).add j)=xk u:=l.cells (g:=g) rfl;have R:=run_firstCells_some (P:=P) w.drew i.size n ⟨g,0,xw⟩ n cap xs (by rw[hs,ZgU];exact q) (by simpa using holds);have t:=Lib.run_append_grow_zeros (P:=P) w T tI ty e i z L Y W O U X (xk ⟨g,0,xw⟩) n cap xs R m hm Z0 Z0 Z0 (by rw[K];omega) (growslice_fits Z0 (by rw[K];omega));rw[A]at t;obtain⟨g1,g2⟩:=d cap Z0 xw _ rfl;obtain⟨_,g3⟩:=d cap Z0 (Value.ownBlock (.slice (xk ⟨g,0,xw⟩) n cap)) _ rfl;exact⟨_,_,t,zI g1 Z,g3,.inr ⟨g2,g1⟩⟩
end Vm
end
section
namespace Vm
open Go Go.Proofs
def RW:Prop:=∀(h:Hp) (w:Int),h.ok->ZA w->VC Sol.prog 33 xh [ZL h,vu w] (Sm (fwd h w))
def Hp.zero_ok:Hp.zero.ok:=by
 refine⟨?_,?_,?_,?_,?_,?_,?_,?_,?_,?_,?_,?_,?_,?_⟩<;>simp[Hp.zero,ZA,YD]
def FY{h:Hp}(d:h.ok){part:Int}{a n:Nat}(o:a+n<=P (Zx h part))(h2:(n:Int)<=Xl (Zu h))(p:0<n):(Xk h part a n).ok:=by
 have g:ZG (Zu h)=xy:=by
  cases j:ZG (Zu h);have:Xl (Zu h)=0:=by unfold Xl;rw[j];rfl
  omega;rfl
 have l:Xl (Zu h)=(Zu h).cap- (Zu h).low- (Zu h).high:=by unfold Xl;rw[g];rfl
 have k:=VS.1 g;have q:(Zu h).low=P h.low:=rfl;have r:(Zu h).high=P h.high:=rfl;refine⟨d.base,d.cap,d.to,d.scan,?_,d.high,d.old,d.far,d.roots,?_,d.highW,d.oldW,d.farW,d.rootsW⟩;simp only[Xk,ZdD,ZeG,Ze3];omega;intro w f;simp only[Xk]at f;obtain f|f:=Zdd.1 f;exact d.lowW w f;exact(XB d part).1 w (ZdE (Zeg f))
def No{ws:Zf}{a:Nat}(h:∀w∈ws,ZA w):∀n,∀w∈zr ws a n,ZA w
 |0=>h
 |n+1=>by
  intro w d;obtain d|d:=Zet d;exact No h n w d;subst d;unfold ZA;omega
def Z0F{h:Hp}(f:h.ok){part:Int}{a n:Nat}(g:0<n):(Ts h part a n).2.1.ok/\ZA (Ts h part a n).1:=by
 unfold Ts;split;exact⟨Hp.zero_ok,Zcy⟩;split;exact⟨Hp.zero_ok,Zcy⟩;rename_i g1 g2;have j:=XB f part;refine⟨Z7y (FY f Z0 Z0 g) ZbV ?_,Ic⟩;intro w d;obtain d|d:=Zet d;exact No j.1 _ w d;subst d;exact Ic
def Z0I{h:Hp}(a:h.ok){w:Int}(j:ZA w):(fwd h w).2.1.ok/\ZA (fwd h w).1:=by
 unfold fwd;split;exact⟨Hp.zero_ok,Zcy⟩;split;exact⟨a,Zcy⟩;split;exact⟨Hp.zero_ok,Zcy⟩;split;exact⟨Hp.zero_ok,Zcy⟩;split;exact⟨a,j⟩;split;refine⟨a,?_⟩;generalize (Y9 (Zu h) (adr w).1).2.1.toNat=k;have g:=(XB a (Y9 (Zu h) (adr w).1).1).1;generalize Zx h (Y9 (Zu h) (adr w).1).1=d at*;by_cases f:k<P d;have e:d.getD k 0=d[k]:=by simp[List.getD,f]
 simp only[e];exact g _ (Zd3 f);have e:d.getD k 0=0:=by simp[List.getD,f]
 simp only[e];unfold ZA;omega;split;exact⟨Hp.zero_ok,Zcy⟩;exact Z0F a Z0
def Z0W{x:Rw}(hx:x.ok):(Uo x).ok/\ZG (Zu (Uo x))=xy/\(Uo x).roots.length<=5:=by
 have key:∀c,(Yp x (Yq x c)).ok/\ZG (Zu (Yp x (Yq x c)))=xy/\(Yp x (Yq x c)).roots.length<=5:=λc=>by
  obtain⟨a,d,f⟩:=KH hx c;obtain⟨k1,g,_,_⟩:=DS (x:=x) a d;refine⟨k1,by rw[g];exact f,?_⟩;simp only[Yp,Zdz];exact a.rl
 unfold Uo BT;split;exact key xh;exact key xy
end Vm
end
section
namespace Vm
open Go Go.Proofs Go.RowKit
section
def Q7:V->Value
 |.int k n=>.int k n
 |.bool b=>.bool b
 |_=>undef
def UT:V->Bool
 |.int _ _=>xy
 |.bool _=>xy
 |_=>xh
def Se:V->Value
 |.agg a=>.agg (a.map Q7).toArray
 |x=>Q7 x
def UU:V->Bool
 |.agg a=>a.all UT
 |x=>UT x
def qA:V->Value
 |.tup l=>.tuple (l.map Se).toArray
 |x=>Se x
def Lt:V->Bool
 |.tup l=>l.all UU
 |x=>UU x
variable {w:Z3}{G:Z6}
def Z53{x:V}(h:UT x=xy):Rd w G x (Q7 x):=by
 cases x<;>simp[UT]at h;exact .int _ _;exact .bool _
def Z54{x:V}(h:UU x=xy):Rd w G x (Se x):=by
 cases x with
 |agg d=>
  simp only[UU,ZcW]at h;refine .agg _ _ Z1 (λc a=> ?_) λi c a=> ?_;have:=h c a;cases c<;>simp[UT]at this<;>rfl;have f:=Z53 (w:=w) (G:=G) (h c (ZcT a));have:((d.map Q7).toArray).getD i undef=Q7 c:=by
   obtain⟨g,rfl⟩:=ZcN.1 a;simp[Array.getD,g]
  rw[this];exact f
 |int k n=>exact .int _ _
 |bool b=>exact .bool _
 |_=>simp[UU,UT]at h
def Z02{x:V}{v:Z7}(h:UT x=xy)(r:Rd w G x v):v=Q7 x:=by
 cases x<;>simp[UT]at h;cases r;rfl;cases r;rfl
def Dx{x:V}{v:Z7}(h:UU x=xy)(r:Rd w G x v):v=Se x:=by
 cases x with
 |agg a=>
  simp only[UU,ZcW]at h;cases r with
  |agg _ vs j _ l=>
   simp only[Se,Value.agg.injEq];apply Zgi;simpa using j;intro i f o;have d:i<P a:=Z0;have g:a[i]?=xk a[i]:=ZcM d;have:=Z02 (h _ (Zd3 d)) (l i _ g);simp[Array.getD,f]at this;simpa using this
 |int k n=>cases r;rfl
 |bool b=>cases r;rfl
 |_=>simp[UU,UT]at h
def Dy{x:V}{v:Z7}(h:Lt x=xy)(r:Rd w G x v):v=qA x:=by
 cases x with
 |tup a=>
  simp only[Lt,ZcW]at h;cases r with
  |tup _ vs j l=>
   simp only[qA,Value.tuple.injEq];apply Zgi;simpa using j;intro i f o;have d:i<P a:=Z0;have g:a[i]?=xk a[i]:=ZcM d;have:=Dx (h _ (Zd3 d)) (l i _ g);simp[Array.getD,f]at this;simpa using this
 |agg a=>exact Dx (x:=.agg a) h r
 |int k n=>cases r;rfl
 |bool b=>cases r;rfl
 |_=>simp[Lt,UU,UT]at h
def Tn{P:Z4}{f:Zm}{fr:Bool}{args:Zp}{r:V}(h:VC P f fr args r)(a:args.all UU=xy)(k:Lt r=xy)(w:Z3):
  Calls P f (args.map Se).toArray w λe g=>e=.returned (qA r)/\Below (U (R w)) w g:=by
 simp only[ZcW]at a;refine Zgj (h.2 w (λ_=>False) _ Z1 Z1 ?_) ?_;intro i x n;obtain⟨d,rfl⟩:=ZcN.1 n;have:((args.map Se).toArray).getD i undef=Se args[i]:=by simp[Array.getD,d]
 rw[this];exact Z54 (a _ (Zd3 d));rintro e g ⟨v,rfl,j,l⟩;exact⟨by rw[Dy k l],j⟩
def Va(l:Ly):Value:=.agg #[.int .u64 l.base,.int .i64 l.cap,.int .i64 l.to,.int .i64 l.low,.int .i64 l.high,.int .i64 l.old,.int .i64 l.far]
def RG{l:Ly}(a:l.fits)(w:Z3):Calls Sol.prog 65 #[Va l] w λe d=>e=.returned (.bool (ZG l))/\Below (U (R w)) w d:=
 Tn (Kr a) rfl rfl w
def IK{l:Ly}(a:l.fits)(w:Z3):Calls Sol.prog 70 #[Va l] w λe d=>e=.returned (.int .i64 (Xl l))/\Below (U (R w)) w d:=
 Tn (Z5D a) rfl rfl w
def CL{l:Ly}(a:l.fits)(part at_:Int)(w:Z3):Calls Sol.prog 75 #[Va l,.agg #[.int .i64 part,.int .i64 at_]] w λe d=>e=.returned (.tuple #[.int .u64 (ZY l part at_).1,.int .i64 (ZY l part at_).2])/\Below (U (R w)) w d:=
 Tn (CN a) rfl rfl w
def Lq{l:Ly}(f:l.fits){a:Int}(d:ZA a)(w:Z3):Calls Sol.prog 67 #[Va l,.int .u64 a] w λe g=>e=.returned (.tuple #[.agg #[.int .i64 (Y9 l a).1,.int .i64 (Y9 l a).2.1],.int .i64 (Y9 l a).2.2])/\Below (U (R w)) w g:=
 Tn (Z0o f d) rfl rfl w
def VD{x:Int}(hx:ZA x)(w:Z3):Calls Sol.prog 44 #[.int .u64 x] w λe a=>e=.returned (.tuple #[.int .u64 (adr x).1,.int .i64 (adr x).2])/\Below (U (R w)) w a:=
 Tn (J6 hx) rfl rfl w
def Z4I{x:Int}(hx:ZA x)(w:Z3):Calls Sol.prog 95 #[.int .u64 x] w λe a=>e=.returned (.tuple #[.int .u64 (XC x).1,.int .i64 (XC x).2])/\Below (U (R w)) w a:=
 Tn (Z4K hx) rfl rfl w
def KO{x:Int}(hx:ZA x)(w:Z3):Calls Sol.prog 69 #[.int .u64 x] w λe a=>e=.returned (.tuple #[.agg #[.int .i64 (ZP x).1,.int .i64 (ZP x).2.1],.int .i64 (ZP x).2.2])/\Below (U (R w)) w a:=
 Tn (MK hx) rfl rfl w
def Tj{h:Hp}{x:Zh}(g:∀b,G b->b<U (R w))(d:∀j,j<5->Rd w G (.sl ((Zv h j).map vu)) (x j)):
  Calls Sol.prog 64 #[ZZ h x] w λe f=>e=.returned (Va (Zu h))/\Below (U (R w)) w f:=by
 refine Zgj ((Cv (h:=h)).2 w G _ g rfl ?_) ?_;intro i y a
 match i,a with
 |0,a=>
  cases a;refine .agg _ _ rfl (by simp[V.one]) ?_;intro i y a
  match i,a with
  |0,a=>cases a;exact .int _ _
  |1,a=>cases a;exact .int _ _
  |2,a=>cases a;exact .int _ _
  |3,a=>cases a;exact .bool _
  |4,a=>cases a;exact .int _ _
  |5,a=>cases a;exact d 0 Z0
  |6,a=>cases a;exact d 1 Z0
  |7,a=>cases a;exact d 2 Z0
  |8,a=>cases a;exact d 3 Z0
  |9,a=>cases a;exact d 4 Z0
 rintro e f ⟨v,rfl,k,l⟩;exact⟨by rw[Dy ZcG l];rfl,k⟩
end
end Vm
end
section
namespace Vm
open Go Go.Proofs Go.RowKit
structure Now (B:Nat) (w:World) (b:Nat) (h:Hp) (x:Nat->Value):Prop where
 blk:w.heap[b]?=xk (.cells #[.int .u64 h.base,.int .i64 h.cap,.int .i64 h.to,.bool h.cycle,.int .i64 h.scan,x 0,x 1,x 2,x 3,x 4] 127 (0,0))
 own:HOwn B w h x
 far:∀j,j<5->∀c,(x j).ownBlock=xk c->c≠b
 new:B<=b
def Tg(h:Hp)(part:Int)(a n:Nat):Int:=(XC (ZY (Zu (Xk h part a n)) 1 (P h.low)).1).1
def Nw(B:Nat)(w:World)(b:Nat)(h:Hp)(p a n:Nat)(e:Ending)(w':World):Prop:=
 ∃d,e=.returned (.int .u64 (Tg h (p+1) a n))/\Below B w w'/\Now B w' b (Xf (Xk h (p+1) a n) (p+1) ((zr (Zv h p) a n).set a (Tg h (p+1) a n))) d
def Z7H{P:Program}(w:World){o:Oper}{a:Act}{K:Act->World->Prop}{Q:Exit->Act->World->Prop}(s:Operand)(t:TypeId)
  (d:o.op=.call {callee:=.builtin .clear,args:=#[s],argTypes:=#[t]}) (vs:Value) (g:a.eval s=vs)
  (w':World) (f:(Builtin.clear_ #[t] o.type #[vs]).run P w=.ok (.tuple #[]) w') (h:K (a.put o.dst (.tuple #[])) w'):o.wp P a w K Q:=by
 unfold Oper.wp execOp;simp only[d,resolve,invoke,builtin,Zdp,ZeL,Zdj,List.map_toArray,Zdc,Zex,g,f];exact h
def Z7F{P:Program}(w:World){ops:Array Oper}{rest:List Oper}{o:Oper}{a:Act}{Q:Exit->Act->World->Prop}(d:o.guard=xw)(s:Operand)(t:TypeId)
  (g:o.op=.call {callee:=.builtin .clear,args:=#[s],argTypes:=#[t]}) (vs:Value) (k:a.eval s=vs)
  (w':World) (j:(Builtin.clear_ #[t] o.type #[vs]).run P w=.ok (.tuple #[]) w') (h:wpList P ops Q rest (a.put o.dst (.tuple #[])) w'):wpList P ops Q (o::rest) a w:=
 wpList_plain d λ_ f=>Z7H w s t g vs k w' j (f _ _ h)
def M9{b c:Nat}(hc:c≠b):∀(vs:List Value) (o:Nat) (w:World),(w.setCells b o vs).heap[c]?=w.heap[c]?
 | [],_,_=>rfl
 |v::r,o,w=>by
  show((w.setCell ⟨b,o,xw⟩ v).setCells b (o+1) r).heap[c]?=_;rw[M9 hc r];exact Zdi _ _ _ _ hc
def Ma(b:Nat):∀(vs:List Value) (o:Nat) (w:World),U (R (w.setCells b o vs))=U (R w)
 | [],_,_=>rfl
 |v::r,o,w=>by
  show U (R ((w.setCell ⟨b,o,xw⟩ v).setCells b (o+1) r))=_;rw[Ma b r];simp[World.setCell]
def M7{B b:Nat}(d:B<=b):∀(vs:List Value) (o:Nat) (a w:World),Below B a w->Below B a (w.setCells b o vs)
 | [],_,_,_,h=>h
 |v::r,o,a,w,h=>M7 d r (o+1) a _ (h.setCell d _)
def GQ{B g len cap:Nat}{L:List Int}(a:Nat):∀(n k:Nat) (w:World),a+k+n<=len->w.ownsRow B 24 1 (.slice (xk ⟨g,0,xw⟩) len cap) len (X4 .u64 (zr L a k))->
  (w.setCells g (a+k) (List.replicate n (.int .u64 0))).ownsRow B 24 1 (.slice (xk ⟨g,0,xw⟩) len cap) len (X4 .u64 (zr L a (k+n)))
 |0,k,w,_,h=>h
 |n+1,k,w,j,h=>by
  have d:=(h.stored (a+k) (.int .u64 0)).1;have f:(X4 .u64 (zr L a k)).set (a+k) (.int .u64 0)=X4 .u64 (zr L a (k+1)):=by rw[zr,Gl]
  rw[f]at d;have:=GQ a n (k+1) _ Z0 d;rw[show k+1+n=k+(n+1)by omega]at this;exact this
def r9(w:World)(B b:Nat)(h:Hp)(x:Nat->Value)(q:Now B w b h x)(hB:B<=xz (xj w))(hh:h.ok)(p a n:Nat)(hp:p=2\/p=3)(Q:0<n)(hn:n<=1000)(e8:(n:Int)<=Xl (Zu h))
  (g cap:Nat) (hx:x p=.slice (xk ⟨g,0,xw⟩) (xq (Zv h p)) cap) (i7:a+n<=xq (Zv h p)) (c':Nat):
  Calls Sol.prog 71 #[.pointer (xk ⟨b,0,xw⟩),.slice (xk ⟨g,a,xw⟩) n c'] w (Nw B w b h p a n):=by
 obtain⟨iU,c9,i4,i1,i8⟩:=info_parts Z2e;have k2:xq (Zv h 0)<=1000000:=Qt hh 0;obtain⟨v1,w1,i0,e7,z,a6⟩:=Z5R (P:=Sol.prog) (w:=w) (T:=35) (tI:=3) (ty:=35) Sol.underlying35 Sol.underlying3 c9 i4 rfl rfl i1 i8 (q.own.own 0 Z0) hB Q Z0 .i64;obtain⟨a0,q0,e0⟩:=YJ (q.own.own 0 Z0);have b0:w.cell? ⟨b,5,xw⟩=xk (x 0):=by rw[Zd5 _ _ _ _ _ _ q.blk];rfl
 have f0:w.frozen? ⟨b,5,xw⟩=xh:=X2 q.blk;have b8:=YO q.blk;have F:xk b≠(x 0).ownBlock:=λe=>q.far 0 Z0 b e.symm rfl;have c1:=(z.cell_far ⟨b,5,xw⟩ b8 F).trans b0;have f1:=(z.frozen_far ⟨b,5,xw⟩ b8 F).trans f0;rw[e0]at i0 b0 c1;have h7:xq (X4 .u64 (Zv h 0))=xq (Zv h 0):=by simp[X4]
 obtain⟨_,j7⟩|⟨g0,q1,y,j6,a9,g3,j4,j5,a7,f2⟩:=e7.2;omega;subst j6;have j8:¬q1=xq (Zv h 0):=Z0;have O:g0≠b:=by
  intro e;obtain r|⟨_,r⟩:=a6;exact F (by rw[<-r,e];rfl);have:=(r.lt g0 rfl).1;omega
 have b9:g≠b:=q.far p Z0 g (by rw[hx];rfl);have g9:g<xz (xj w):=((q.own.own p Z0).lt g (by rw[hx];rfl)).2;have c0:xk g≠(x 0).ownBlock:=λe=>q.own.apart 0 p Z0 Z0 g e.symm (by rw[hx];rfl);have b1:g≠g0:=by
  intro e;obtain r|⟨_,r⟩:=a6;exact c0 (by rw[<-r,e];rfl);have:=(r.lt g0 rfl).1;omega
 obtain⟨w2,H⟩:∃w2,w2=w1.setCell ⟨b,5,xw⟩ (.slice (xk ⟨g0,0,xw⟩) (xq (Zv h 0)+n) q1):=⟨_,rfl⟩;have N:w2.heap[g0]?=xk (.cells y 24 (0,0)):=by rw[H,Zdi _ _ _ _ O];exact g3
 have g7:∀c,c≠b->c<xz (xj w)->xk c≠(x 0).ownBlock->w2.heap[c]?=w.heap[c]? :=λc A h2 h3=>by
  rw[H,Zdi _ _ _ _ A,z.block c h2 h3]
 have K:w2.heap[b]?=xk (.cells #[.int .u64 h.base,.int .i64 h.cap,.int .i64 h.to,.bool h.cycle,.int .i64 h.scan,.slice (xk ⟨g0,0,xw⟩) (xq (Zv h 0)+n) q1,x 1,x 2,x 3,x 4] 127 (0,0)):=by
  have:=(z.block b b8 F).trans q.blk;rw[H];simp[World.setCell,ZdW,this]
 have i5:w2.cell? ⟨b,5,xw⟩=xk (.slice (xk ⟨g0,0,xw⟩) (xq (Zv h 0)+n) q1):=by rw[Zd5 _ _ _ _ _ _ K];rfl
 have R:w2.ownsRow B 24 1 (x p) (xq (Zv h p)) (X4 .u64 (Zv h p)):=WX (q.own.own p Z0) λc f=>by
  rw[hx]at f;cases f;exact g7 g b9 g9 c0
 obtain⟨J,a5⟩:∃J,J=X4 .u64 (((Zv h p).take (a+n)).drop a):=⟨_,rfl⟩;have M:xq J=n:=by rw[a5];simp[X4];omega
 have i2:∀j v,J[j]?=xk v->w2.cell? ((⟨g,a,xw⟩:Addr).add j)=xk v:=by
  intro j v hv;have o:j<n:=by rw[<-M];exact(ZcN.1 hv).1
  rw[hx]at R;have:=R.cellAt (a+j) Z0;rw[Zeu,this];rw[a5]at hv;simp only[X4]at hv⊢;rw[<-hv];simp[Zdq,show a+j<a+n by omega]
 obtain⟨w3,I⟩:∃w3,w3=w2.setRow g0 (y.toList.take (xq (Zv h 0))++(J++y.toList.drop (xq (Zv h 0)+xq J))).toArray:=⟨_,rfl⟩;have a8:xq (Zv h 0)+xq J<=y.size:=by rw[M];simp at a7;omega
 have h9:∀v∈J,v.oneCell'=xy:=by
  intro v hv;rw[a5]at hv;obtain⟨_,_,rfl⟩:=Zd1.1 hv;rfl
 have h8:xq J=Nat.min n n:=by rw[M];simp
 have i3:(Sol.prog.info? 24).map (·.size)=xk 1:=by rw[c9];simp[i1]
 have d:w3.heap[b]?=xk (.cells #[.int .u64 h.base,.int .i64 h.cap,.int .i64 h.to,.bool h.cycle,.int .i64 h.scan,.slice (xk ⟨g0,0,xw⟩) (xq (Zv h 0)+n) q1,x 1,x 2,x 3,x 4] 127 (0,0)):=by
  rw[I,Zew _ _ _ _ O.symm];exact K
 have h5:∀c,c≠b->c≠g0->c<xz (xj w)->xk c≠(x 0).ownBlock->w3.heap[c]?=w.heap[c]? :=λc A h2 h3 h4=>by
  rw[I,Zew _ _ _ _ h2];exact g7 c A h3 h4
 have j9:xz (xj w)<=xz (xj w3):=by
  have:=z.size;have e2:xz (xj w2)=xz (xj w1):=by rw[H];simp[World.setCell]
  have e3:xz (xj w3)=xz (xj w2):=by rw[I];simp[World.setRow]
  omega
 have j1:Zv (Xk h (p+1) a n) 0=Zv h 0++((Zv h p).take (a+n)).drop a:=by
  obtain rfl|rfl:=hp<;>rfl
 have h6:∀j,j≠0->Zv (Xk h (p+1) a n) j=Zv h j:=λj o=>by
  unfold Zv Xk;simp[o]
 have S:∀j,j<5->w3.ownsRow B 24 1 (if j=0 then .slice (xk ⟨g0,0,xw⟩) (xq (Zv h 0)+n) q1 else x j) (xq (Zv (Xk h (p+1) a n) j)) (X4 .u64 (Zv (Xk h (p+1) a n) j)):=by
  intro j o;by_cases e4:j=0;subst e4;rw[if_pos rfl,j1];have hd:xq (((Zv h p).take (a+n)).drop a)=n:=ZbV;refine⟨by simp[X4],.inr ⟨g0,q1,(y.toList.take (xq (Zv h 0))++(J++y.toList.drop (xq (Zv h 0)+xq J))).toArray,?_,a9,?_,?_,j5,?_,?_⟩⟩;rw[ZdD,hd];rw[I];exact ZgT _ _ _ _ _ _ N;rw[ZdD,hd];exact j4;simp[M]at a7 a8⊢;omega;have ht:y.toList.take (xq (Zv h 0))=X4 .u64 (Zv h 0):=by
   have:=ZdT (List.take (xq (Zv h 0))) f2;rw[List.take_take,ZgO Z0]at this;rw[this,List.take_left' h7]
  rw[ZdD,hd,ht];simp only[ZgU];rw[<-ZdB,List.take_left' (by simp[h7,M]),a5];simp[X4];rw[if_neg e4,h6 j e4];have ho:=q.own.own j o
  exact WX ho λc f=>h5 c (q.far j o c f) (λe=>by
   obtain r|⟨_,r⟩:=a6;exact q.own.apart 0 j Z0 o c (by rw[<-r,e];rfl) f;have A:=(r.lt g0 rfl).1;have h2:=(ho.lt c f).2;omega) (ho.lt c f).2 (λe=>q.own.apart 0 j Z0 o c e.symm f)
 have g4:∀j,0<j->j<5->(x j).ownBlock≠xk g0:=λj h0 o f=>by
  obtain r|⟨_,r⟩:=a6;exact q.own.apart 0 j h0 o g0 (by rw[<-r];rfl) f;have A:=(r.lt g0 rfl).1;have h2:=((q.own.own j o).lt g0 f).2;omega
 have i9:∀j,j<5->j≠p->(x j).ownBlock≠xk g:=λj o F f=>by
  have g8:(x p).ownBlock=xk g:=by rw[hx];rfl
  obtain A|A:=Zfy F;exact q.own.apart j p A Z0 g f g8;exact q.own.apart p j A o g g8 f
 have g6:B<=g:=((q.own.own p Z0).lt g (by rw[hx];rfl)).1;have b2:=q.own.own p Z0;rw[hx]at b2;have U:∀W:World,W.heap[g]?=w.heap[g]? ->W.ownsRow B 24 1 (.slice (xk ⟨g,0,xw⟩) (xq (Zv h p)) cap) (xq (Zv h p)) (X4 .u64 (Zv h p)):=λW hW=>WX b2 λc f=>by
  cases f;exact hW
 have j2:xq (X4 .u64 (Zv h p))=xq (Zv h p):=by simp[X4]
 have l:∀W:World,W.heap[g]?=w.heap[g]? ->(∀j,j<n->(W.cell? ⟨g,a+j,xw⟩).isSome=xy)/\(∀j,j<n->W.frozen? ⟨g,a+j,xw⟩=xh):=λW hW=>⟨λj o=>by
  rw[(U W hW).cellAt (a+j) Z0];simp[j2];omega,λj o=>(U W hW).frozenAt _⟩
 have g5:w3.heap[g]?=w.heap[g]? :=h5 g b9 b1 g9 c0;have HN:=ZcX q;have HO:=ZcX e7;have HG:=ZcX z;have f4:=ZcX H;have f5:=ZcX I;have f3:=ZcX S;have d0:w3.cell? ⟨b,0,xw⟩=xk (Value.int .u64 h.base):=Zc5;have d1:w3.cell? ⟨b,1,xw⟩=xk (Value.int .i64 h.cap):=Zc5;have d2:w3.cell? ⟨b,2,xw⟩=xk (Value.int .i64 h.to):=Zc5;have d3:w3.cell? ⟨b,3,xw⟩=xk (Value.bool h.cycle):=Zc5;have d4:w3.cell? ⟨b,4,xw⟩=xk (Value.int .i64 h.scan):=Zc5;have d5:w3.cell? ⟨b,5,xw⟩=xk (Value.slice (xk ⟨g0,0,xw⟩) (xq (Zv h 0)+n) q1):=Zc5;have d6:w3.cell? ⟨b,6,xw⟩=xk (x 1):=Zc5;have d7:w3.cell? ⟨b,7,xw⟩=xk (x 2):=Zc5;have d8:w3.cell? ⟨b,8,xw⟩=xk (x 3):=Zc5;have d9:w3.cell? ⟨b,9,xw⟩=xk (x 4):=Zc5;have j3:(Xk h (p+1) a n).ok:=FY hh (by obtain rfl|rfl:=hp<;>exact i7) e8 Q;clear q e7 z H I S;go_enter Sol.func71,Try.ntmps71
 go_wp2_with (first
  |(at_builtin;refine Lib.wpList_append_run _ rfl _ _ 35 3 rfl _ _ rfl rfl _ _ i0 ?_)
  |(rw[<-f4.out];refine wpList_copy_own rfl _ _ 35 35 rfl 24 Sol.underlying35 i3 g0 (xq (Zv h 0)) n (q1- xq (Zv h 0)) ⟨g,a,xw⟩ n c' rfl rfl y 24 N J h8 i2 a8 h9 ?_;rw[<-f5.out])
  |(go_at_call 64;refine(Tj (h:=Xk h (p+1) a n) (x:=λj=>if j=0 then .slice (xk ⟨g0,0,xw⟩) (xq (Zv h 0)+n) q1 else x j) (G:=λc=>B<=c/\c<xz (xj w3)) (λc f=>f.2) (λj o=>GP (f3.out j o) (λc A h2=>⟨A,h2⟩))).mono ?_;rintro e w4 ⟨rfl,f9⟩;have t:=ZcX f9;clear f9)
  |(go_at_call 75;refine(CL j3.lay _ _ _).mono ?_;rintro e C ⟨rfl,a3⟩;have D:C.heap[g]?=w.heap[g]? :=(a3.block g (by have:=t.out.size;omega)).trans ((t.out.block g (by omega)).trans g5);have k4:xz (xj w3)<=xz (xj C):=Zdm t.out.size a3.size;have a1:=ZcX a3;clear a3;obtain⟨w6,Z⟩:∃w6,w6=C.setCells g a (List.replicate n (.int .u64 0)):=⟨_,rfl⟩;have k5:xz (xj w6)=xz (xj C):=by {rw[Z];exact Ma _ _ _ _};have c6:w6.cell? ⟨g,a,xw⟩=xk (.int .u64 0):=by {rw[Z];have:=World.cell?_setCells_in g (List.replicate n (Value.int .u64 0)) a C (by simpa using(l C D).1) 0 (by simpa using Q);simpa using this};have f6:w6.frozen? ⟨g,a,xw⟩=xh:=by {rw[Z,World.frozen?_setCells];exact(l C D).2 0 Q};have a2:=ZcX Z;clear Z)
  |(refine Z7F _ rfl _ 35 rfl _ rfl _ (Lib.run_clear_slice _ _ 24 _ (.int .u64 0) Sol.underlying35 (yr c9 i4) rfl rfl g a n c' Q (l C D).1 (l C D).2) ?_;rw[<-a2.out])
  |(go_at_call 95;refine(Z4I NT _).mono ?_;rintro e w7 ⟨rfl,a4⟩;have c7:=(a4.cell (p:=⟨g,a,xw⟩) (by show g<xz (xj w6);omega)).trans c6;have f7:=(a4.frozen (p:=⟨g,a,xw⟩) (by show g<xz (xj w6);omega)).trans f6;have b3:=ZcX a4;clear a4))
 go_ret
 have b4:Below B w w3:=by
  rw[f5.out,f4.out];exact Go.below_setRow (Below.setCell (p:=⟨b,5,xw⟩) ((Zdr B w).grown HG.out hB (λk hk=>((HN.out.own.own 0 Z0).lt k hk).1)) HN.out.new _) a9 _
 have i6:B<=xz (xj w3):=Z0;have b5:Below B w C:=(b4.trans (t.out.mono i6)).trans (a1.out.mono (by have:=t.out.size;omega));have b6:Below B w w6:=by rw[a2.out];exact M7 g6 _ _ _ _ b5
 have b7:Below B w w7:=b6.trans (b3.out.mono Z0);have k3:=t.out.size;have k0:=a1.out.size;have f8:∀(c:Nat) (u:Value),c≠g->c<xz (xj w3)->(w7.setCell ⟨g,a,xw⟩ u).heap[c]?=w3.heap[c]? :=λc u A h2=>by
  rw[Zdi _ _ _ _ A,b3.out.block c Z0,a2.out,M9 A,a1.out.block c Z0,t.out.block c h2]
 have D:C.heap[g]?=w.heap[g]? :=(a1.out.block g Z0).trans ((t.out.block g Z0).trans g5);have X:=GQ (L:=Zv h p) a n 0 C Z0 (U C D);have e6:C.setCells g (a+0) (List.replicate n (.int .u64 0))=w6:=a2.out.symm;rw[e6,Zdy]at X;have e9:=WX (w':=w7) X λc f=>by
  cases f;exact b3.out.block g Z0
 have Y:=(e9.stored a (.int .u64 (Tg h (p+1) a n))).1;rw[<-Gl]at Y;refine⟨λj=>if j=0 then .slice (xk ⟨g0,0,xw⟩) (xq (Zv h 0)+n) q1 else x j,rfl,b7.setCell g6 _,?_,⟨?_,?_⟩,?_,HN.out.new⟩;rw[f8 b _ (λe=>b9 e.symm) Z0,d];obtain rfl|rfl:=hp<;>rfl;intro j o;by_cases e5:j=p;subst e5;have r:Zv (Xf (Xk h (j+1) a n) (j+1) ((zr (Zv h j) a n).set a (Tg h (j+1) a n))) j=(zr (Zv h j) a n).set a (Tg h (j+1) a n):=by
  obtain rfl|rfl:=hp<;>rfl
 rw[r,if_neg Z0,hx,List.length_set,yW];exact Y;have r:Zv (Xf (Xk h (p+1) a n) (p+1) ((zr (Zv h p) a n).set a (Tg h (p+1) a n))) j=Zv (Xk h (p+1) a n) j:=by
  have:j=0\/j=1\/j=2\/j=3\/j=4:=Z0;obtain rfl|rfl:=hp<;>obtain rfl|rfl|rfl|rfl|rfl:=this<;>first|rfl|exact(e5 rfl).elim
 rw[r];have ho:=f3.out j o;refine WX ho λc f=>f8 c _ (λe=> ?_) (ho.lt c f).2;subst e;by_cases h0:j=0;rw[if_pos h0]at f;cases f;exact b1 rfl;rw[if_neg h0]at f;exact i9 j o e5 f;intro i j j0 o c f;rw[if_neg (Z0:¬j=0)];by_cases h0:i=0;rw[if_pos h0]at f;cases f;exact g4 j Z0 o;rw[if_neg h0]at f;exact HN.out.own.apart i j j0 o c f;intro j o c f;by_cases h0:j=0;rw[if_pos h0]at f;cases f;exact O;rw[if_neg h0]at f;exact HN.out.far j o c f
end Vm
namespace Vm
open Go Go.Proofs Go.RowKit
def El(w:World)(B b:Nat)(h:Hp)(x:Nat->Value)(j:Now B w b h x)(o:h.ok)(p a:Nat)(q:p=2\/p=3)(g cap:Nat)
  (hx:x p=.slice (xk ⟨g,0,xw⟩) (P (Zv h p)) cap) (u:a< P (Zv h p)):
  Calls Sol.prog 68 #[.pointer (xk ⟨b,0,xw⟩),.agg #[.int .i64 ((p:Int)+1),.int .i64 a]] w λe r=>e=.returned (.slice (xk ⟨g,a,xw⟩) (P (Zv h p)-a) (cap-a))/\Below (U (R w)) w r:=by
 have f:=YO j.blk;have y:=Qt o p;have l:P (Zv h p)<=cap:=by
  have:=(j.own.own p Z0).2;rw[hx]at this;obtain⟨k,_⟩|⟨_,_,_,k,_,_,n,_⟩:=this;cases k;cases k;exact n
 obtain rfl|rfl:=q
 .have t:(w.alloc (.cells #[.int .i64 3,.int .i64 a] 72)).cell? ⟨b,7,xw⟩=xk (.slice (xk ⟨g,0,xw⟩) (P (Zv h 2)) cap):=by
   rw[Zee _ _ _ f,Zd5 _ _ _ _ _ _ j.blk,<-hx];rfl
  have d:(P (Zv h 2):Int)<=9223372036854775807:=Z0;go_enter Sol.func68,Try.ntmps68;go_wp2;go_region;go_wp2;go_ret
  exact⟨rfl,((Zdr _ _).alloc (ZcR _) _).drew⟩
 .have c8:(w.alloc (.cells #[.int .i64 4,.int .i64 a] 72)).cell? ⟨b,8,xw⟩=xk (.slice (xk ⟨g,0,xw⟩) (P (Zv h 3)) cap):=by
   rw[Zee _ _ _ f,Zd5 _ _ _ _ _ _ j.blk,<-hx];rfl
  have d:(P (Zv h 3):Int)<=9223372036854775807:=Z0;go_enter Sol.func68,Try.ntmps68;go_wp2;go_region;go_wp2;go_ret
  exact⟨rfl,((Zdr _ _).alloc (ZcR _) _).drew⟩
end Vm
namespace Vm
open Go Go.Proofs Go.RowKit
def J3(w:World)(r:Int×Hp×Int)(e:Ending)(w':World):Prop:=
 ∃x,e=.returned (.tuple #[.int .u64 r.1,ZZ r.2.1 x,.int .i64 r.2.2])/\Below (U (R w)) w w'/\HOwn (U (R w)) w' r.2.1 x
def zJ{B' B:Nat}{w:World}{e:TypeId}{n:Nat}{v:Value}{l:List Value}(h:w.ownsRow B' e 1 v n l)(j:∀c,B'<=c->c<U (R w)->B<=c/\c<U (R w)):w.ownsRow B e 1 v n l:=by
 refine⟨h.1,?_⟩;obtain f|⟨g,cap,a,o,k,d,r⟩:=h.2;exact .inl f;exact .inr ⟨g,cap,a,o,(j g k (YO d)).1,d,r⟩
def J0(B:Nat)(w':World):HOwn B w' Hp.zero (λ_=>.slice xw 0 0):=⟨λj d=>by
 have:Zv Hp.zero j=[]:=by
  unfold Zv Hp.zero;split;rfl;split;rfl;split;rfl;split<;>rfl
 rw[this];exact Zed _ _ _ _,λi j _ _ c a=>by cases a⟩
def RS(w:World)(o:Obj):((w.alloc o).alloc (.cells #[.int .u64 0,.int .i64 0,.int .i64 0,.bool xh,.int .i64 0,.slice xw 0 0,.slice xw 0 0,.slice xw 0 0,.slice xw 0 0,.slice xw 0 0] 37)).heap[U (R w)+1]?=xk (.cells YC 37 (0,0)):=by
 have e:U (R (w.alloc o))=U (R w)+1:=Z1;have:=Zdf (w.alloc o) (.cells YC 37);rw[e]at this;exact this
end Vm
namespace Vm
open Go Go.Proofs Go.RowKit
def yT(h:Hp)(x:Nat->Value):Obj:=.cells #[.int .u64 h.base,.int .i64 h.cap,.int .i64 h.to,.bool h.cycle,.int .i64 h.scan,x 0,x 1,x 2,x 3,x 4] 127
def Ac{B:Nat}{a:World}{h:Hp}{x:Nat->Value}(f:HOwn B a h x)(k:B<=U (R a)):Now B (a.alloc (yT h x)) (U (R a)) h x:=by
 refine⟨Zdf a _,⟨λj d=> ?_,f.apart⟩,λj d c g=> ?_,k⟩;exact WX (f.own j d) λc g=>ZcU _ _ _ ((f.own j d).lt c g).2;have:=((f.own j d).lt c g).2;omega
def Z06(W:World):W.drew.heap=W.heap:=rfl
def B4{w2:World}{b c:Nat}(hc:c≠b)(v0 v1 a d v4 f v6 g h j:Value):(Ke w2 b v0 v1 a d v4 f v6 g h j).drew.heap[c]?=w2.heap[c]? :=by
 rw[Z06];exact B3 hc v0 v1 a d v4 f v6 g h j
def GO{w:World}{B n q:Nat}{e:TypeId}{z:Nat}{a:Option Addr}{v:Value}{xs:List Value}(h:w.ownsRow B e z v n xs)(j:v=.slice a n q)(l:0<n):∃g,a=xk ⟨g,0,xw⟩:=by
 subst j;obtain⟨_,k⟩|⟨g,cap,d,f,_⟩:=h.2;omega;cases f;exact⟨g,rfl⟩
def Z43{w:World}{B n q:Nat}{e:TypeId}{z:Nat}{a:Option Addr}{xs:List Value}(h:w.ownsRow B e z (.slice a n q) n xs)(o:0<n):n<=q/\q<=maxLen:=by
 obtain⟨_,l⟩|⟨g,cap,d,k,_,_,f,j,_⟩:=h.2;omega;cases k;exact⟨f,j⟩
def Rz{w:World}{B g cap:Nat}{l:List Int}(h:w.ownsRow B 24 1 (.slice (xk ⟨g,0,xw⟩) (P l) cap) (P l) (X4 .u64 l)){i:Nat}{v:Int}(a:l[i]?=xk v):w.cell? ⟨g,i,xw⟩=xk (.int .u64 v):=by
 obtain⟨d,f⟩:=ZcN.1 a;rw[h.cellAt i Z0];simp[X4,a]
structure FwSt (w W:World) (rb lb kb b B:Nat) (part at_:Int) (h:Hp) (x:Nat->Value):Prop where
 res:W.heap[rb]?=xk (.cells YC 37 (0,0))
 lay:W.heap[lb]?=xk (.cells #[.int .u64 (Zu h).base,.int .i64 (Zu h).cap,.int .i64 (Zu h).to,.int .i64 (Zu h).low,.int .i64 (Zu h).high,.int .i64 (Zu h).old,.int .i64 (Zu h).far] 69 (0,0))
 plc:W.heap[kb]?=xk (.cells #[.int .i64 part,.int .i64 at_] 72 (0,0))
 now:Now B W b h x
 bel:Below (U (R w)) w W
 old:U (R w)<=rb
 rbB:rb<B
 lbB:lb<B
 kbB:kb<B
 sz:B<=U (R W)
def FwSt.below{w W f:World}{l lb k b B:Nat}{part at_:Int}{h:Hp}{x:Nat->Value}(s:FwSt w W l lb k b B part at_ h x)(a:Below (U (R W)) W f):FwSt w f l lb k b B part at_ h x:=by
 have t:=s.sz;have n:=s.rbB;have o:=s.lbB;have p:=s.kbB;have r:=a.size;have d:=s.bel.size;refine⟨(a.block _ Z0).trans s.res,(a.block _ Z0).trans s.lay,(a.block _ Z0).trans s.plc,⟨(a.block _ (YO s.now.blk)).trans s.now.blk,⟨λj g=> ?_,s.now.own.apart⟩,s.now.far,s.now.new⟩,s.bel.trans (a.mono d),s.old,n,o,p,Z0⟩;exact WX (s.now.own.own j g) λc q=>a.block _ ((s.now.own.own j g).lt c q).2
def FwSt.drew{w W:World}{d lb a b B:Nat}{part at_:Int}{h:Hp}{x:Nat->Value}(s:FwSt w W d lb a b B part at_ h x):FwSt w W.drew d lb a b B part at_ h x:=
 ⟨s.res,s.lay,s.plc,⟨s.now.blk,⟨λj f=>WX (s.now.own.own j f) λc g=>rfl,s.now.own.apart⟩,s.now.far,s.now.new⟩,s.bel.drew,s.old,s.rbB,s.lbB,s.kbB,s.sz⟩
def FwSt.F{w W:World}{a lb d b B:Nat}{part at_:Int}{h:Hp}{x:Nat->Value}(s:FwSt w W a lb d b B part at_ h x):(∀j,W.cell? ⟨a,j,xw⟩=(#[.int .u64 0,.int .i64 0,.int .i64 0,.bool xh,.int .i64 0,.slice xw 0 0,.slice xw 0 0,.slice xw 0 0,.slice xw 0 0,.slice xw 0 0]:Array Value)[j]?)/\(∀j,W.frozen? ⟨a,j,xw⟩=xh)/\
  (∀j,W.cell? ⟨b,j,xw⟩=(#[.int .u64 h.base,.int .i64 h.cap,.int .i64 h.to,.bool h.cycle,.int .i64 h.scan,x 0,x 1,x 2,x 3,x 4]:Array Value)[j]?)/\(∀j,W.cell? ⟨d,j,xw⟩=(#[.int .i64 part,.int .i64 at_]:Array Value)[j]?)/\∀j,W.cell? ⟨lb,j,xw⟩=(#[.int .u64 (Zu h).base,.int .i64 (Zu h).cap,.int .i64 (Zu h).to,.int .i64 (Zu h).low,.int .i64 (Zu h).high,.int .i64 (Zu h).old,.int .i64 (Zu h).far]:Array Value)[j]? :=
 ⟨λj=>Zd5 _ _ _ _ _ _ s.res,λj=>X2 s.res,λj=>Zd5 _ _ _ _ _ _ s.now.blk,λj=>Zd5 _ _ _ _ _ _ s.plc,λj=>Zd5 _ _ _ _ _ _ s.lay⟩
def NB(w:World)(G:Nat->Prop)(O:∀b,G b->b<xz (xj w))(h:Hp)(hh:h.ok)(p:Nat->Value)(hs:∀j,j<5->Rd w G (.sl ((Zv h j).map vu)) (p j))(v:Int)(hv:ZA v)
  (hr:ZG (Zu h)=xy) (Z:¬v=0) (h1:(adr v).2=0) (part:Int) (at_:Nat) (hf:Y9 (Zu h) (adr v).1=(part,(at_:Int),0)) (hp:part=1\/part=2):
  Calls Sol.prog 33 #[ZZ h p,.int .u64 v] w (J3 w (fwd h v)):=by
 have HS:=ZcX hs;have R:=ZcX hh;clear hs hh;unfold ZZ;go_enter Sol.func33,Try.ntmps33;obtain rfl|rfl:=hp;all_goals
  go_wp2_with (first
   |(go_at_call 64;go_loud (refine(Tj (h:=h) (x:=p) (G:=G) (λc T=>by have:=O c T;simp;omega) (λj M=>(HS.out j M).keep (λb L=>by have:=O b L;rw[ZcU _ _ _ (by simp;omega),ZcU _ _ _ (by omega)]) (λ_ h=>h))).mono ?_;rintro e w1 ⟨rfl,n⟩;unfold Va;have z1:=(n.block (xz (xj w)+1) (by simp)).trans (RS w _);have p1:=(n.block (xz (xj w)) (by simp;omega)).trans ((ZcU _ _ (xz (xj w)) (by simp)).trans (Zdf w _));have W:=n.size;simp at W;have P:=ZcX n;clear n))
   |(go_at_call 65;go_loud (refine(RG R.out.lay _).mono ?_;rintro e w2 ⟨rfl,d⟩;rw[hr];have z2:=(d.block (xz (xj w)+1) (by simp;omega)).trans ((ZcU w1 _ (xz (xj w)+1) (by omega)).trans z1);have p2:=(d.block (xz (xj w)) (by simp;omega)).trans ((ZcU w1 _ (xz (xj w)) (by omega)).trans p1);have x2:=λj=>Zd5 _ _ j _ _ _ p2;have r:Below (xz (xj w)) w w2:=((((((Zdr _ _).alloc (ZcR _) _).alloc (by simp) _).trans (P.out.mono (by simp;omega))).alloc (by omega) _).trans (d.mono (by simp;omega)));have X:=d.size;simp at X;have m2:=(d.block (xz (xj w1)) (by simp)).trans (Zdf w1 _);have A:=ZcX r;clear d r))
   |(go_at_call 44;go_loud (refine(VD hv _).mono ?_;rintro e w3 ⟨rfl,f⟩;have z3:=(f.block (xz (xj w)+1) (by omega)).trans z2;have p3:=(f.block (xz (xj w)) (by omega)).trans p2;have m3:=(f.block (xz (xj w1)) (by omega)).trans m2;have l3:=λj=>Zd5 _ _ j _ _ _ m3;have a7:=f.size;have Q:=ZcX f;clear f))
   |(go_at_call 67;go_loud (refine(Lq R.out.lay (L0 hv) _).mono ?_;rintro e w4 ⟨rfl,g⟩;rw[hf];dsimp only;have a8:=g.size;have z4:=λo=>(ZcU w4 o (xz (xj w)+1) (by omega)).trans ((g.block (xz (xj w)+1) (by omega)).trans z3);have p4:=λo=>(ZcU w4 o (xz (xj w)) (by omega)).trans ((g.block (xz (xj w)) (by omega)).trans p3);have x4:=λo j=>Zd5 _ _ j _ _ _ (p4 o);have t:∀o,Below (xz (xj w)) w (w4.alloc o):=λo=>((A.out.trans (Q.out.mono (by omega))).trans (g.mono (by omega))).alloc (by omega) o;have m4:=λo=>(ZcU w4 o (xz (xj w1)) (by omega)).trans ((g.block (xz (xj w1)) (by omega)).trans m3);have q:=ZcX t;clear g t z3 p3 m3 l3 z2 p2 x2 m2))
   |(go_at_call 66;go_loud (refine(KV _ G (λb L=>by have:=O b L;simp;omega) h R.out p (λj M=>(HS.out j M).keep (λb L=>(q.out _).block b (O b L)) (λ_ h=>h))).mono ?_;rintro e z ⟨x,rfl,k,a⟩;obtain⟨a0,q0,C⟩:=YJ (a.own 0 Z0);obtain⟨a1,q1,D⟩:=YJ (a.own 1 Z0);obtain⟨a2,q2,H⟩:=YJ (a.own 2 Z0);obtain⟨a3,q3,I⟩:=YJ (a.own 3 Z0);obtain⟨a4,q4,J⟩:=YJ (a.own 4 Z0);unfold ZZ;rw[C,D,H,I,J];have Y:=k.size;simp at Y;have N:∀o,xz (xj (w4.alloc o))=xz (xj w4)+1:=λo=>Z1;rw[N]at a;have K:=Ac a Z0;unfold yT at K;rw[C,D,H,I,J]at K;have l:∀o,Below (xz (xj w)) w (z.alloc o):=λo=>((q.out _).trans (k.mono ZbV)).alloc Z0 o;have z6:=λo=>(ZcU z o (xz (xj w)+1) Z0).trans ((k.block (xz (xj w)+1) ZbV).trans (z4 _));have u:FwSt w (z.alloc _) (xz (xj w)+1) (xz (xj w1)) (xz (xj w4)) (xz (xj z)) (xz (xj w4)+1) _ (at_:Nat) h x:=⟨z6 _,(ZcU z _ (xz (xj w1)) Z0).trans ((k.block (xz (xj w1)) ZbV).trans (m4 _)),(ZcU z _ (xz (xj w4)) Z0).trans ((k.block (xz (xj w4)) Z1).trans (Zdf w4 _)),K,l _,Z0,Z0,Z0,Z0,ZbV⟩;obtain⟨y6,f6,a5,a9,b0⟩:=u.F;rw[C,D,H,I,J]at a5;have S:=ZcX u;clear u;have B:=ZcX l;have HN:=ZcX K;have E0:=ZcX C;have E1:=ZcX D;have E2:=ZcX H;have E3:=ZcX I;have E4:=ZcX J;clear l K C D H I J a k z4 p4 x4 m4)))
  go_region;all_goals
   go_wp2;try simp only[Exit.inBlock,Exit.then]
   have y:=Uz S.out.res (.int .u64 h.base) (.int .i64 h.cap) (.int .i64 h.to) (.bool h.cycle) (.int .i64 h.scan) (.slice a0 (xq (Zv h 0)) q0) (.slice a1 (xq (Zv h 1)) q1) (.slice a2 (xq (Zv h 2)) q2) (.slice a3 (xq (Zv h 3)) q3) (.slice a4 (xq (Zv h 4)) q4);have U:fwd h v=(v,h,0):=by simp[fwd,hr,Z,h1,hf]
   rw[U];refine ZdU (v:=.tuple #[.int .u64 v,ZZ h x,.int .i64 0]) ?_ rfl ?_
   .unfold ZZ;rw[E0.out,E1.out,E2.out,E3.out,E4.out];simp[results,Try.results33,go_sem,y]
   refine⟨x,rfl,?_,?_⟩;exact(Uy (B.out _) Z0 _ _ _ _ _ _ _ _ _ _).drew;refine⟨λj M=> ?_,HN.out.own.apart⟩;have ho:=HN.out.own.own j M;refine zJ (WX ho ?_) ?_;intro c T;have a6:=(ho.lt c T).1;exact B4 Z0 _ _ _ _ _ _ _ _ _ _;intro c h1 h2;exact⟨Z0,h2⟩
def NA(w:World)(G:Nat->Prop)(hG:∀b,G b->b<xz (xj w))(h:Hp)(hh:h.ok)(A:Nat->Value)(hs:∀j,j<5->Rd w G (.sl ((Zv h j).map vu)) (A j))(v:Int)(hv:ZA v)
  (hr:ZG (Zu h)=xy) (b7:¬v=0) (h1:(adr v).2=0) (part:Int) (at_:Nat) (hf:Y9 (Zu h) (adr v).1=(part,(at_:Int),0)) (j:Nat) (M:((j:Nat):Int)+1=part) (hp:part=3\/part=4)
  (C:Int) (z:(Zv h j)[at_]?=xk C) (d5:at_< xq (Zv h j)) (b8:ZA C) (b1:(adr C).2=0):
  Calls Sol.prog 33 #[ZZ h A,.int .u64 v] w (J3 w (fwd h v)):=by
 have HS:=ZcX hs;have HH:=ZcX hh;clear hs hh;unfold ZZ;go_enter Sol.func33,Try.ntmps33;obtain rfl|rfl:=hp;all_goals
  have d7:j=2\/j=3:=Z0
  go_wp2_with (first
   |(go_at_call 68;go_loud (have L:=El _ (xz (xj w4)+1) (xz (xj P)) h x R.out.now HH.out j at_ (by omega) g qj EP.out (by omega);rw[M]at L;refine L.mono ?_;clear L;rintro e w7 ⟨rfl,J⟩;obtain⟨m,hm⟩:∃m,xq (Zv h j)-at_=m:=⟨_,rfl⟩;obtain⟨qm,b2⟩:∃qm,qj-at_=qm:=⟨_,rfl⟩;rw[hm,b2];have d8:0<m:=(by omega);have d0:(0:Int)< (m:Int):=(by omega);have c9:at_+0=at_:=rfl;have d:=R.out.below J;have b6:=J.size;simp at b6;obtain⟨y7,f7,c0,f0,f3⟩:=d.F;rw[E0.out,E1.out,E2.out,E3.out,E4.out]at c0;have r:=d.now.own.own j (by omega);rw[EP.out]at r;have c7:=Rz r z;have a9:=ZcX d;clear J d r))
   |(go_at_call 44;go_loud (have d:=a9.out;refine(VD b8 _).mono ?_;rintro e w8 ⟨rfl,K⟩;have B:=d.below K;have e8:=K.size;obtain⟨y8,f8,c1,f1,f4⟩:=B.F;rw[E0.out,E1.out,E2.out,E3.out,E4.out]at c1;have t:=B.now.own.own j (by omega);rw[EP.out]at t;have c8:=Rz t z;have u:=ZcX B;clear K B d t))
   |(go_at_call 64;go_loud (refine(Tj (h:=h) (x:=A) (G:=G) (λc hc=>by have:=hG c hc;simp;omega) (λj M=>(HS.out j M).keep (λb Z=>by have:=hG b Z;rw[ZcU _ _ _ (by simp;omega),ZcU _ _ _ (by omega)]) (λ_ h=>h))).mono ?_;rintro e w1 ⟨rfl,q⟩;unfold Va;have z1:=(q.block (xz (xj w)+1) (by simp)).trans (RS w _);have p1:=(q.block (xz (xj w)) (by simp;omega)).trans ((ZcU _ _ (xz (xj w)) (by simp)).trans (Zdf w _));have b3:=q.size;simp at b3;have a7:=ZcX q;clear q))
   |(go_at_call 65;go_loud (refine(RG HH.out.lay _).mono ?_;rintro e w2 ⟨rfl,f⟩;rw[hr];have z2:=(f.block (xz (xj w)+1) (by simp;omega)).trans ((ZcU w1 _ (xz (xj w)+1) (by omega)).trans z1);have p2:=(f.block (xz (xj w)) (by simp;omega)).trans ((ZcU w1 _ (xz (xj w)) (by omega)).trans p1);have x2:=λj=>Zd5 _ _ j _ _ _ p2;have H:Below (xz (xj w)) w w2:=((((((Zdr _ _).alloc (ZcR _) _).alloc (by simp) _).trans (a7.out.mono (by simp;omega))).alloc (by omega) _).trans (f.mono (by simp;omega)));have b4:=f.size;simp at b4;have m2:=(f.block (xz (xj w1)) (by simp)).trans (Zdf w1 _);have Q:=ZcX H;clear f H))
   |(go_at_call 44;go_loud (refine(VD hv _).mono ?_;rintro e w3 ⟨rfl,k⟩;have z3:=(k.block (xz (xj w)+1) (by omega)).trans z2;have p3:=(k.block (xz (xj w)) (by omega)).trans p2;have m3:=(k.block (xz (xj w1)) (by omega)).trans m2;have l3:=λj=>Zd5 _ _ j _ _ _ m3;have e6:=k.size;have a8:=ZcX k;clear k))
   |(go_at_call 67;go_loud (refine(Lq HH.out.lay (L0 hv) _).mono ?_;rintro e w4 ⟨rfl,l⟩;rw[hf];dsimp only;have e7:=l.size;have z4:=λo=>(ZcU w4 o (xz (xj w)+1) (by omega)).trans ((l.block (xz (xj w)+1) (by omega)).trans z3);have p4:=λo=>(ZcU w4 o (xz (xj w)) (by omega)).trans ((l.block (xz (xj w)) (by omega)).trans p3);have x4:=λo j=>Zd5 _ _ j _ _ _ (p4 o);have I:∀o,Below (xz (xj w)) w (w4.alloc o):=λo=>((Q.out.trans (a8.out.mono (by omega))).trans (l.mono (by omega))).alloc (by omega) o;have m4:=λo=>(ZcU w4 o (xz (xj w1)) (by omega)).trans ((l.block (xz (xj w1)) (by omega)).trans m3);have D:=ZcX I;clear l I z3 p3 m3 l3 z2 p2 x2 m2))
   |(go_at_call 66;go_loud (refine(KV _ G (λb Z=>by have:=hG b Z;simp;omega) h HH.out A (λj M=>(HS.out j M).keep (λb Z=>(D.out _).block b (hG b Z)) (λ_ h=>h))).mono ?_;rintro e P ⟨x,rfl,n,a⟩;obtain⟨a0,q0,S⟩:=YJ (a.own 0 Z0);obtain⟨a1,q1,T⟩:=YJ (a.own 1 Z0);obtain⟨a2,q2,U⟩:=YJ (a.own 2 Z0);obtain⟨a3,q3,W⟩:=YJ (a.own 3 Z0);obtain⟨a4,q4,X⟩:=YJ (a.own 4 Z0);obtain⟨aj,qj,ej⟩:=YJ (a.own j Z0);obtain⟨g,hg⟩:=GO (a.own j Z0) ej Z0;subst hg;unfold ZZ;rw[S,T,U,W,X];have b5:=n.size;simp at b5;have a6:∀o,xz (xj (w4.alloc o))=xz (xj w4)+1:=λo=>Z1;rw[a6]at a;have Y:=Ac a Z0;unfold yT at Y;rw[S,T,U,W,X]at Y;have p:∀o,Below (xz (xj w)) w (P.alloc o):=λo=>((D.out _).trans (n.mono ZbV)).alloc Z0 o;have z6:=λo=>(ZcU P o (xz (xj w)+1) Z0).trans ((n.block (xz (xj w)+1) ZbV).trans (z4 _));have O:FwSt w (P.alloc _) (xz (xj w)+1) (xz (xj w1)) (xz (xj w4)) (xz (xj P)) (xz (xj w4)+1) _ (at_:Nat) h x:=⟨z6 _,(ZcU P _ (xz (xj w1)) Z0).trans ((n.block (xz (xj w1)) ZbV).trans (m4 _)),(ZcU P _ (xz (xj w4)) Z0).trans ((n.block (xz (xj w4)) Z1).trans (Zdf w4 _)),Y,p _,Z0,Z0,Z0,Z0,ZbV⟩;obtain⟨y6,f6,b9,e9,f2⟩:=O.F;rw[S,T,U,W,X]at b9;have R:=ZcX O;have EP:=ZcX ej;clear ej;clear O;have c6:=ZcX p;have HN:=ZcX Y;have E0:=ZcX S;have E1:=ZcX T;have E2:=ZcX U;have E3:=ZcX W;have E4:=ZcX X;clear p Y S T U W X a n z4 p4 x4 m4)))
  have b0:fwd h v=(C,h,0):=by
   first
   | (have N:j=2:=by omega
      subst N)
   | (have N:j=3:=by omega
      subst N)
   first
   |have a5:h.old.getD at_ 0=C:=by show(Zv h 2).getD at_ 0=C;simp[List.getD,z]
   |have a5:h.far.getD at_ 0=C:=by show(Zv h 3).getD at_ 0=C;simp[List.getD,z]
   have d9:xq h.old=xq (Zv h 2):=rfl;have e5:xq h.far=xq (Zv h 3):=rfl;simp[fwd,hr,b7,h1,hf,-List.getD_eq_getElem?_getD,a5,b1]
  go_region;all_goals
   go_wp2;try simp only[Exit.inBlock,Exit.then]
   have y:=Uz u.out.res (.int .u64 h.base) (.int .i64 h.cap) (.int .i64 h.to) (.bool h.cycle) (.int .i64 h.scan) (.slice a0 (xq (Zv h 0)) q0) (.slice a1 (xq (Zv h 1)) q1) (.slice a2 (xq (Zv h 2)) q2) (.slice a3 (xq (Zv h 3)) q3) (.slice a4 (xq (Zv h 4)) q4);rw[b0];refine ZdU (v:=.tuple #[.int .u64 C,ZZ h x,.int .i64 0]) ?_ rfl ?_
   .unfold ZZ;rw[E0.out,E1.out,E2.out,E3.out,E4.out];simp[results,Try.results33,go_sem,y]
   refine⟨x,rfl,?_,?_⟩;exact(Uy u.out.bel Z0 _ _ _ _ _ _ _ _ _ _).drew;refine⟨λj M=> ?_,u.out.now.own.apart⟩;have ho:=u.out.now.own.own j M;refine zJ (WX ho ?_) ?_;intro c hc;have d6:=(ho.lt c hc).1;exact B4 Z0 _ _ _ _ _ _ _ _ _ _;intro c h1 h2;exact⟨Z0,h2⟩
def Cu(w:World)(G:Nat->Prop)(hG:∀b,G b->b<xz (xj w))(h:Hp)(hh:h.ok)(e9:Nat->Value)(hs:∀j,j<5->Rd w G (.sl ((Zv h j).map vu)) (e9 j))(v:Int)(hv:ZA v)
  (hr:ZG (Zu h)=xy) (e8:¬v=0) (h1:(adr v).2=0) (part:Int) (at_:Nat) (hf:Y9 (Zu h) (adr v).1=(part,(at_:Int),0)) (j:Nat) (hj:((j:Nat):Int)+1=part) (hp:part=3\/part=4)
  (I:Int) (q:(Zv h j)[at_]?=xk I) (n1:at_< xq (Zv h j)) (j4:ZA I) (e7:¬(adr I).2=0) (sz:Nat) (pt er:Int) (d8:ZP I=((sz:Int),pt,er)) (o0:sz<=255)
  (hc:¬er=0\/(er=0/\xq (Zv h j)<at_+(sz+1))\/(er=0/\at_+(sz+1)<=xq (Zv h j)/\Xl (Zu h)< ((sz+1:Nat):Int))\/(er=0/\at_+(sz+1)<=xq (Zv h j)/\¬Xl (Zu h)< ((sz+1:Nat):Int))):
  Calls Sol.prog 33 #[ZZ h e9,.int .u64 v] w (J3 w (fwd h v)):=by
 have HS:=ZcX hs;have HH:=ZcX hh;clear hs hh;unfold ZZ;go_enter Sol.func33,Try.ntmps33;obtain S|⟨S,k8⟩|⟨S,O,X⟩|⟨S,O,X⟩:=hc;all_goals obtain rfl|rfl:=hp
 all_goals
  have n3:j=2\/j=3:=Z0
  go_wp2_with (first
   |(go_at_call 68;go_loud (have h7:=El _ (xz (xj w4)+1) (xz (xj K)) h x i7.out.now HH.out j at_ (by omega) g qj EP.out (by omega);rw[hj]at h7;refine h7.mono ?_;clear h7;rintro e w7 ⟨rfl,h4⟩;obtain⟨m,hm⟩:∃m,xq (Zv h j)-at_=m:=⟨_,rfl⟩;obtain⟨qm,h8⟩:∃qm,qj-at_=qm:=⟨_,rfl⟩;rw[hm,h8];have n4:0<m:=(by omega);have m1:(0:Int)< (m:Int):=(by omega);have f4:at_+0=at_:=rfl;have Y:=i7.out.below h4;have l2:=h4.size;simp at l2;obtain⟨y7,f7,h9,j5,j7⟩:=Y.F;rw[E0.out,E1.out,E2.out,E3.out,E4.out]at h9;have d5:=Y.now.own.own j (by omega);rw[EP.out]at d5;have c7:=Rz d5 q;have k5:=ZcX Y;clear h4 Y d5))
   |(go_at_call 44;go_loud (have Y:=k5.out;refine(VD j4 _).mono ?_;rintro e w8 ⟨rfl,h5⟩;have f0:=Y.below h5;have n8:=h5.size;obtain⟨y8,f8,i0,j6,j8⟩:=f0.F;rw[E0.out,E1.out,E2.out,E3.out,E4.out]at i0;have d6:=f0.now.own.own j (by omega);rw[EP.out]at d6;have c8:=Rz d6 q;have k6:=ZcX f0;clear h5 f0 Y d6))
   |(go_at_call 69;go_loud (refine(KO j4 _).mono ?_;rintro e t ⟨rfl,h6⟩;rw[d8];dsimp only;have n9:=h6.size;have a8:FwSt w (t.alloc (.cells #[.int .i64 (sz:Nat),.int .i64 pt] 52)) _ _ _ _ _ _ _ h x:=(k6.out.below h6).below ((Zdr _ _).alloc (ZcR _) _);obtain⟨k0,i9,d9,g5,d⟩:=a8.F;rw[E0.out,E1.out,E2.out,E3.out,E4.out]at d9;have T:=a8.now.own.own j (by omega);rw[EP.out]at T;have m9:=Rz T q;have a7:=λj=>Zd5 _ _ j _ _ _ (Zdf t (.cells #[.int .i64 (sz:Nat),.int .i64 pt] 52));have z:=ZcX a8;have n5:m<=1000000:=(by have:=Qt HH.out j;omega);have m0:at_+m=xq (Zv h j):=(by omega);clear h6 a8 T))
   |(go_at_call 64;go_loud (refine(Tj (h:=h) (x:=e9) (G:=G) (λc hc=>by have:=hG c hc;simp;omega) (λj hj=>(HS.out j hj).keep (λb p=>by have:=hG b p;rw[ZcU _ _ _ (by simp;omega),ZcU _ _ _ (by omega)]) (λ_ h=>h))).mono ?_;rintro e w1 ⟨rfl,b9⟩;unfold Va;have z1:=(b9.block (xz (xj w)+1) (by simp)).trans (RS w _);have p1:=(b9.block (xz (xj w)) (by simp;omega)).trans ((ZcU _ _ (xz (xj w)) (by simp)).trans (Zdf w _));have k9:=b9.size;simp at k9;have k3:=ZcX b9;clear b9))
   |(go_at_call 65;go_loud (refine(RG HH.out.lay _).mono ?_;rintro e w2 ⟨rfl,a9⟩;rw[hr];have z2:=(a9.block (xz (xj w)+1) (by simp;omega)).trans ((ZcU w1 _ (xz (xj w)+1) (by omega)).trans z1);have p2:=(a9.block (xz (xj w)) (by simp;omega)).trans ((ZcU w1 _ (xz (xj w)) (by omega)).trans p1);have x2:=λj=>Zd5 _ _ j _ _ _ p2;have f5:Below (xz (xj w)) w w2:=((((((Zdr _ _).alloc (ZcR _) _).alloc (by simp) _).trans (k3.out.mono (by simp;omega))).alloc (by omega) _).trans (a9.mono (by simp;omega)));have l0:=a9.size;simp at l0;have m2:=(a9.block (xz (xj w1)) (by simp)).trans (Zdf w1 _);have i2:=ZcX f5;clear a9 f5))
   |(go_at_call 44;go_loud (refine(VD hv _).mono ?_;rintro e w3 ⟨rfl,b5⟩;have z3:=(b5.block (xz (xj w)+1) (by omega)).trans z2;have p3:=(b5.block (xz (xj w)) (by omega)).trans p2;have m3:=(b5.block (xz (xj w1)) (by omega)).trans m2;have l3:=λj=>Zd5 _ _ j _ _ _ m3;have n6:=b5.size;have k4:=ZcX b5;clear b5))
   |(go_at_call 67;go_loud (refine(Lq HH.out.lay (L0 hv) _).mono ?_;rintro e w4 ⟨rfl,b6⟩;rw[hf];dsimp only;have n7:=b6.size;have z4:=λo=>(ZcU w4 o (xz (xj w)+1) (by omega)).trans ((b6.block (xz (xj w)+1) (by omega)).trans z3);have p4:=λo=>(ZcU w4 o (xz (xj w)) (by omega)).trans ((b6.block (xz (xj w)) (by omega)).trans p3);have x4:=λo j=>Zd5 _ _ j _ _ _ (p4 o);have f9:∀o,Below (xz (xj w)) w (w4.alloc o):=λo=>((i2.out.trans (k4.out.mono (by omega))).trans (b6.mono (by omega))).alloc (by omega) o;have m4:=λo=>(ZcU w4 o (xz (xj w1)) (by omega)).trans ((b6.block (xz (xj w1)) (by omega)).trans m3);have f2:=ZcX f9;clear b6 f9 z3 p3 m3 l3 z2 p2 x2 m2))
   |(go_at_call 66;go_loud (refine(KV _ G (λb p=>by have:=hG b p;simp;omega) h HH.out e9 (λj hj=>(HS.out j hj).keep (λb p=>(f2.out _).block b (hG b p)) (λ_ h=>h))).mono ?_;rintro e K ⟨x,rfl,b7,D⟩;obtain⟨a0,q0,e0⟩:=YJ (D.own 0 Z0);obtain⟨a1,q1,e1⟩:=YJ (D.own 1 Z0);obtain⟨a2,q2,e2⟩:=YJ (D.own 2 Z0);obtain⟨a3,q3,e3⟩:=YJ (D.own 3 Z0);obtain⟨a4,q4,e4⟩:=YJ (D.own 4 Z0);obtain⟨aj,qj,ej⟩:=YJ (D.own j Z0);obtain⟨g,hg⟩:=GO (D.own j Z0) ej Z0;subst hg;unfold ZZ;rw[e0,e1,e2,e3,e4];have l1:=b7.size;simp at l1;have j3:∀o,xz (xj (w4.alloc o))=xz (xj w4)+1:=λo=>Z1;rw[j3]at D;have hN:=Ac D Z0;unfold yT at hN;rw[e0,e1,e2,e3,e4]at hN;have b8:∀o,Below (xz (xj w)) w (K.alloc o):=λo=>((f2.out _).trans (b7.mono ZbV)).alloc Z0 o;have z6:=λo=>(ZcU K o (xz (xj w)+1) Z0).trans ((b7.block (xz (xj w)+1) ZbV).trans (z4 _));have i1:FwSt w (K.alloc _) (xz (xj w)+1) (xz (xj w1)) (xz (xj w4)) (xz (xj K)) (xz (xj w4)+1) _ (at_:Nat) h x:=⟨z6 _,(ZcU K _ (xz (xj w1)) Z0).trans ((b7.block (xz (xj w1)) ZbV).trans (m4 _)),(ZcU K _ (xz (xj w4)) Z0).trans ((b7.block (xz (xj w4)) Z1).trans (Zdf w4 _)),hN,b8 _,Z0,Z0,Z0,Z0,ZbV⟩;obtain⟨y6,f6,l5,o2,o3⟩:=i1.F;rw[e0,e1,e2,e3,e4]at l5;have i7:=ZcX i1;have EP:=ZcX ej;clear ej;clear i1;have l7:=ZcX b8;have HN:=ZcX hN;have E0:=ZcX e0;have E1:=ZcX e1;have E2:=ZcX e2;have E3:=ZcX e3;have E4:=ZcX e4;clear b8 hN e0 e1 e2 e3 e4 D b7 z4 p4 x4 m4)))
 iterate 2
  focus
   have N:fwd h v=(0,Hp.zero,3):=by
    first
    | (have k:j=2:=by omega
       subst k)
    | (have k:j=3:=by omega
       subst k)
    first
    |have B:h.old.getD at_ 0=I:=by show(Zv h 2).getD at_ 0=I;simp[List.getD,q]
    |have B:h.far.getD at_ 0=I:=by show(Zv h 3).getD at_ 0=I;simp[List.getD,q]
    have U:xq h.old=xq (Zv h 2):=rfl;have W:xq h.far=xq (Zv h 3):=rfl;simp[fwd,Ts,hr,e8,h1,hf,-List.getD_eq_getElem?_getD,B,U,W,e7,d8,S]
   have y:=Uz z.out.res (.int .u64 0) (.int .i64 0) (.int .i64 0) (.bool xh) (.int .i64 0) (.slice xw 0 0) (.slice xw 0 0) (.slice xw 0 0) (.slice xw 0 0) (.slice xw 0 0);rw[N];refine ZdU (v:=.tuple #[.int .u64 0,.agg YC,.int .i64 3]) ?_ rfl ?_
   .simp[results,Try.results33,go_sem,y,YC]
   refine⟨λ_=>.slice xw 0 0,?_,?_,J0 _ _⟩;simp[ZZ,Hp.zero,YC];exact Uy z.out.bel Z0 _ _ _ _ _ _ _ _ _ _
 iterate 2
  focus
   have N:fwd h v=(0,Hp.zero,2):=by
    first
    | (have k:j=2:=by omega
       subst k)
    | (have k:j=3:=by omega
       subst k)
    first
    |have B:h.old.getD at_ 0=I:=by show(Zv h 2).getD at_ 0=I;simp[List.getD,q]
    |have B:h.far.getD at_ 0=I:=by show(Zv h 3).getD at_ 0=I;simp[List.getD,q]
    have U:xq h.old=xq (Zv h 2):=rfl;have W:xq h.far=xq (Zv h 3):=rfl;simp[fwd,Ts,hr,e8,h1,hf,-List.getD_eq_getElem?_getD,B,U,W,e7,d8,S,k8]
   have y:=Uz z.out.res (.int .u64 0) (.int .i64 0) (.int .i64 0) (.bool xh) (.int .i64 0) (.slice xw 0 0) (.slice xw 0 0) (.slice xw 0 0) (.slice xw 0 0) (.slice xw 0 0);rw[N];refine ZdU (v:=.tuple #[.int .u64 0,.agg YC,.int .i64 2]) ?_ rfl ?_
   .simp[results,Try.results33,go_sem,y,YC]
   refine⟨λ_=>.slice xw 0 0,?_,?_,J0 _ _⟩;simp[ZZ,Hp.zero,YC];exact Uy z.out.bel Z0 _ _ _ _ _ _ _ _ _ _
 iterate 2
  focus
   obtain⟨H,P⟩:∃H:Nat,sz+1=H:=⟨_,rfl⟩;have l4:IntKind.i64.wrap ((sz:Int)+1)=(H:Int):=by rw[Zz ((sz:Int)+1) Z0 Z0];omega
   have j1:Xl (Zu h)< (H:Int):=Z0;have g9:=ZcX P;have i6:=ZcX X;have g8:=ZcX O;clear P X O;have d0:xz (xj t)< xz (xj ((t.alloc (.cells #[.int .i64 (sz:Nat),.int .i64 pt] 52)))):=Z1;clear j7 j8 g5 j5 j6 y7 y8 f7 f8 h9 i0 c7 c8;generalize (t.alloc (.cells #[.int .i64 (sz:Nat),.int .i64 pt] 52))=e6 at*;have A:FwSt w e6 (xz (xj w)+1) (xz (xj w1)) (xz (xj w4)) (xz (xj K)) (xz (xj w4)+1) (((j:Nat):Int)+1) (at_:Nat) h x:=by rw[hj];exact z.out
   have Q:(λa=>a.cell? ⟨xz (xj w1),0,xw⟩=xk (.int .u64 (Zu h).base)/\a.cell? ⟨xz (xj w1),1,xw⟩=xk (.int .i64 (Zu h).cap)/\a.cell? ⟨xz (xj w1),2,xw⟩=xk (.int .i64 (Zu h).to)/\a.cell? ⟨xz (xj w1),3,xw⟩=xk (.int .i64 (Zu h).low)/\a.cell? ⟨xz (xj w1),4,xw⟩=xk (.int .i64 (Zu h).high)/\a.cell? ⟨xz (xj w1),5,xw⟩=xk (.int .i64 (Zu h).old)/\a.cell? ⟨xz (xj w1),6,xw⟩=xk (.int .i64 (Zu h).far)/\a.cell? ⟨xz (xj t),0,xw⟩=xk (.int .i64 (sz:Nat))/\FwSt w a (xz (xj w)+1) (xz (xj w1)) (xz (xj w4)) (xz (xj K)) (xz (xj w4)+1) (((j:Nat):Int)+1) (at_:Nat) h x/\xz (xj t)<xz (xj a)) e6.drew:=⟨d 0,d 1,d 2,d 3,d 4,d 5,d 6,a7 0,A.drew,d0⟩;have L:∀(u u':World),(λa=>a.cell? ⟨xz (xj w1),0,xw⟩=xk (.int .u64 (Zu h).base)/\a.cell? ⟨xz (xj w1),1,xw⟩=xk (.int .i64 (Zu h).cap)/\a.cell? ⟨xz (xj w1),2,xw⟩=xk (.int .i64 (Zu h).to)/\a.cell? ⟨xz (xj w1),3,xw⟩=xk (.int .i64 (Zu h).low)/\a.cell? ⟨xz (xj w1),4,xw⟩=xk (.int .i64 (Zu h).high)/\a.cell? ⟨xz (xj w1),5,xw⟩=xk (.int .i64 (Zu h).old)/\a.cell? ⟨xz (xj w1),6,xw⟩=xk (.int .i64 (Zu h).far)/\a.cell? ⟨xz (xj t),0,xw⟩=xk (.int .i64 (sz:Nat))/\FwSt w a (xz (xj w)+1) (xz (xj w1)) (xz (xj w4)) (xz (xj K)) (xz (xj w4)+1) (((j:Nat):Int)+1) (at_:Nat) h x/\xz (xj t)<xz (xj a)) u->Below (xz (xj u)) u u'->(λa=>a.cell? ⟨xz (xj w1),0,xw⟩=xk (.int .u64 (Zu h).base)/\a.cell? ⟨xz (xj w1),1,xw⟩=xk (.int .i64 (Zu h).cap)/\a.cell? ⟨xz (xj w1),2,xw⟩=xk (.int .i64 (Zu h).to)/\a.cell? ⟨xz (xj w1),3,xw⟩=xk (.int .i64 (Zu h).low)/\a.cell? ⟨xz (xj w1),4,xw⟩=xk (.int .i64 (Zu h).high)/\a.cell? ⟨xz (xj w1),5,xw⟩=xk (.int .i64 (Zu h).old)/\a.cell? ⟨xz (xj w1),6,xw⟩=xk (.int .i64 (Zu h).far)/\a.cell? ⟨xz (xj t),0,xw⟩=xk (.int .i64 (sz:Nat))/\FwSt w a (xz (xj w)+1) (xz (xj w1)) (xz (xj w4)) (xz (xj K)) (xz (xj w4)+1) (((j:Nat):Int)+1) (at_:Nat) h x/\xz (xj t)<xz (xj a)) u':=by
    rintro u u' ⟨c0,c1,c2,c3,c4,c5,c6,c7,st,hs⟩ p;have hl:=st.lbB;have hz:=st.sz;exact⟨(p.cell Zc2).trans c0,(p.cell Zc2).trans c1,(p.cell Zc2).trans c2,(p.cell Zc2).trans c3,(p.cell Zc2).trans c4,(p.cell Zc2).trans c5,(p.cell Zc2).trans c6,(p.cell hs).trans c7,st.below p,by have:=p.size;omega⟩
   go_region_held3 (λa=>a.cell? ⟨xz (xj w1),0,xw⟩=xk (.int .u64 (Zu h).base)/\a.cell? ⟨xz (xj w1),1,xw⟩=xk (.int .i64 (Zu h).cap)/\a.cell? ⟨xz (xj w1),2,xw⟩=xk (.int .i64 (Zu h).to)/\a.cell? ⟨xz (xj w1),3,xw⟩=xk (.int .i64 (Zu h).low)/\a.cell? ⟨xz (xj w1),4,xw⟩=xk (.int .i64 (Zu h).high)/\a.cell? ⟨xz (xj w1),5,xw⟩=xk (.int .i64 (Zu h).old)/\a.cell? ⟨xz (xj w1),6,xw⟩=xk (.int .i64 (Zu h).far)/\a.cell? ⟨xz (xj t),0,xw⟩=xk (.int .i64 (sz:Nat))/\FwSt w a (xz (xj w)+1) (xz (xj w1)) (xz (xj w4)) (xz (xj K)) (xz (xj w4)+1) (((j:Nat):Int)+1) (at_:Nat) h x/\xz (xj t)<xz (xj a)) (first|exact Q|assumption)
    (first|(go_at_call 70;refine(IK HH.out.lay _).mono ?_;rintro e j9 ⟨rfl,M⟩;have h3:=L _ _ Q M))
   obtain⟨-,-,-,-,-,-,-,k7,n,j2⟩:=h3;clear Q A L a7 k0 i9 d9 d M d0;rename_i R;clear R;obtain⟨k2,j0,a6,g6,g7⟩:=n.F;rw[E0.out,E1.out,E2.out,E3.out,E4.out]at a6;have l:=n.now.own.own j Z0;rw[EP.out]at l;have i8:=Rz l q;clear l hm h8 f4;have f:=ZcX n;clear n;go_wp2;have a5:Xl (Zu h)< (sz:Int)+1:=by have:=g9.out;omega
   have N:fwd h v=(0,Hp.zero,7):=by
    first
    | (have k:j=2:=by omega
       subst k)
    | (have k:j=3:=by omega
       subst k)
    first
    |have B:h.old.getD at_ 0=I:=by show(Zv h 2).getD at_ 0=I;simp[List.getD,q]
    |have B:h.far.getD at_ 0=I:=by show(Zv h 3).getD at_ 0=I;simp[List.getD,q]
    have U:xq h.old=xq (Zv h 2):=rfl;have W:xq h.far=xq (Zv h 3):=rfl;simp[fwd,Ts,hr,e8,h1,hf,-List.getD_eq_getElem?_getD,B,U,W,e7,d8,S,ZfT.2 g8.out,a5]
   have y:=Uz f.out.res (.int .u64 0) (.int .i64 0) (.int .i64 0) (.bool xh) (.int .i64 0) (.slice xw 0 0) (.slice xw 0 0) (.slice xw 0 0) (.slice xw 0 0) (.slice xw 0 0);rw[N];refine ZdU (v:=.tuple #[.int .u64 0,.agg YC,.int .i64 7]) ?_ rfl ?_
   .simp[results,Try.results33,go_sem,y,YC]
   refine⟨λ_=>.slice xw 0 0,?_,?_,J0 _ _⟩;simp[ZZ,Hp.zero,YC];exact Uy f.out.bel Z0 _ _ _ _ _ _ _ _ _ _
 iterate 2
  focus
   obtain⟨H,P⟩:∃H:Nat,sz+1=H:=⟨_,rfl⟩;have l4:IntKind.i64.wrap ((sz:Int)+1)=(H:Int):=by rw[Zz ((sz:Int)+1) Z0 Z0];omega
   have j1:¬(Xl (Zu h)< (H:Int)):=Z0;have d7:=z.out.now.own.own j Z0;rw[EP.out]at d7;have l9:=Z43 d7 Z0;have m7:(H:Int)<=(qm:Int):=Z0;have m6:(0:Int)<=(H:Int):=Z0;clear d7;have g9:=ZcX P;have i6:=ZcX X;have g8:=ZcX O;clear P X O;have d0:xz (xj t)< xz (xj ((t.alloc (.cells #[.int .i64 (sz:Nat),.int .i64 pt] 52)))):=Z1;clear j7 j8 g5 j5 j6 y7 y8 f7 f8 h9 i0 c7 c8;generalize (t.alloc (.cells #[.int .i64 (sz:Nat),.int .i64 pt] 52))=e6 at*;have A:FwSt w e6 (xz (xj w)+1) (xz (xj w1)) (xz (xj w4)) (xz (xj K)) (xz (xj w4)+1) (((j:Nat):Int)+1) (at_:Nat) h x:=by rw[hj];exact z.out
   have Q:(λa=>a.cell? ⟨xz (xj w1),0,xw⟩=xk (.int .u64 (Zu h).base)/\a.cell? ⟨xz (xj w1),1,xw⟩=xk (.int .i64 (Zu h).cap)/\a.cell? ⟨xz (xj w1),2,xw⟩=xk (.int .i64 (Zu h).to)/\a.cell? ⟨xz (xj w1),3,xw⟩=xk (.int .i64 (Zu h).low)/\a.cell? ⟨xz (xj w1),4,xw⟩=xk (.int .i64 (Zu h).high)/\a.cell? ⟨xz (xj w1),5,xw⟩=xk (.int .i64 (Zu h).old)/\a.cell? ⟨xz (xj w1),6,xw⟩=xk (.int .i64 (Zu h).far)/\a.cell? ⟨xz (xj t),0,xw⟩=xk (.int .i64 (sz:Nat))/\FwSt w a (xz (xj w)+1) (xz (xj w1)) (xz (xj w4)) (xz (xj K)) (xz (xj w4)+1) (((j:Nat):Int)+1) (at_:Nat) h x/\xz (xj t)<xz (xj a)) e6.drew:=⟨d 0,d 1,d 2,d 3,d 4,d 5,d 6,a7 0,A.drew,d0⟩;have L:∀(u u':World),(λa=>a.cell? ⟨xz (xj w1),0,xw⟩=xk (.int .u64 (Zu h).base)/\a.cell? ⟨xz (xj w1),1,xw⟩=xk (.int .i64 (Zu h).cap)/\a.cell? ⟨xz (xj w1),2,xw⟩=xk (.int .i64 (Zu h).to)/\a.cell? ⟨xz (xj w1),3,xw⟩=xk (.int .i64 (Zu h).low)/\a.cell? ⟨xz (xj w1),4,xw⟩=xk (.int .i64 (Zu h).high)/\a.cell? ⟨xz (xj w1),5,xw⟩=xk (.int .i64 (Zu h).old)/\a.cell? ⟨xz (xj w1),6,xw⟩=xk (.int .i64 (Zu h).far)/\a.cell? ⟨xz (xj t),0,xw⟩=xk (.int .i64 (sz:Nat))/\FwSt w a (xz (xj w)+1) (xz (xj w1)) (xz (xj w4)) (xz (xj K)) (xz (xj w4)+1) (((j:Nat):Int)+1) (at_:Nat) h x/\xz (xj t)<xz (xj a)) u->Below (xz (xj u)) u u'->(λa=>a.cell? ⟨xz (xj w1),0,xw⟩=xk (.int .u64 (Zu h).base)/\a.cell? ⟨xz (xj w1),1,xw⟩=xk (.int .i64 (Zu h).cap)/\a.cell? ⟨xz (xj w1),2,xw⟩=xk (.int .i64 (Zu h).to)/\a.cell? ⟨xz (xj w1),3,xw⟩=xk (.int .i64 (Zu h).low)/\a.cell? ⟨xz (xj w1),4,xw⟩=xk (.int .i64 (Zu h).high)/\a.cell? ⟨xz (xj w1),5,xw⟩=xk (.int .i64 (Zu h).old)/\a.cell? ⟨xz (xj w1),6,xw⟩=xk (.int .i64 (Zu h).far)/\a.cell? ⟨xz (xj t),0,xw⟩=xk (.int .i64 (sz:Nat))/\FwSt w a (xz (xj w)+1) (xz (xj w1)) (xz (xj w4)) (xz (xj K)) (xz (xj w4)+1) (((j:Nat):Int)+1) (at_:Nat) h x/\xz (xj t)<xz (xj a)) u':=by
    rintro u u' ⟨c0,c1,c2,c3,c4,c5,c6,c7,st,hs⟩ p;have hl:=st.lbB;have hz:=st.sz;exact⟨(p.cell Zc2).trans c0,(p.cell Zc2).trans c1,(p.cell Zc2).trans c2,(p.cell Zc2).trans c3,(p.cell Zc2).trans c4,(p.cell Zc2).trans c5,(p.cell Zc2).trans c6,(p.cell hs).trans c7,st.below p,by have:=p.size;omega⟩
   go_region_held3 (λa=>a.cell? ⟨xz (xj w1),0,xw⟩=xk (.int .u64 (Zu h).base)/\a.cell? ⟨xz (xj w1),1,xw⟩=xk (.int .i64 (Zu h).cap)/\a.cell? ⟨xz (xj w1),2,xw⟩=xk (.int .i64 (Zu h).to)/\a.cell? ⟨xz (xj w1),3,xw⟩=xk (.int .i64 (Zu h).low)/\a.cell? ⟨xz (xj w1),4,xw⟩=xk (.int .i64 (Zu h).high)/\a.cell? ⟨xz (xj w1),5,xw⟩=xk (.int .i64 (Zu h).old)/\a.cell? ⟨xz (xj w1),6,xw⟩=xk (.int .i64 (Zu h).far)/\a.cell? ⟨xz (xj t),0,xw⟩=xk (.int .i64 (sz:Nat))/\FwSt w a (xz (xj w)+1) (xz (xj w1)) (xz (xj w4)) (xz (xj K)) (xz (xj w4)+1) (((j:Nat):Int)+1) (at_:Nat) h x/\xz (xj t)<xz (xj a)) (first|exact Q|assumption)
    (first|(go_at_call 70;refine(IK HH.out.lay _).mono ?_;rintro e j9 ⟨rfl,M⟩;have h3:=L _ _ Q M))
   obtain⟨-,-,-,-,-,-,-,k7,n,j2⟩:=h3;clear Q A L a7 k0 i9 d9 d M d0;rename_i R;clear R;obtain⟨k2,j0,a6,g6,g7⟩:=n.F;rw[E0.out,E1.out,E2.out,E3.out,E4.out]at a6;have l:=n.now.own.own j Z0;rw[EP.out]at l;have i8:=Rz l q;clear l hm h8 f4;have f:=ZcX n;clear n;have P:=g9.out;have X:=i6.out;have O:=g8.out;have a5:¬Xl (Zu h)< (sz:Int)+1:=Z0;have N:fwd h v=(Tg h (((j:Nat):Int)+1) at_ H,Xf (Xk h (((j:Nat):Int)+1) at_ H) (((j:Nat):Int)+1) ((zr (Zv h j) at_ H).set at_ (Tg h (((j:Nat):Int)+1) at_ H)),0):=by
    first
    | (have k:j=2:=by omega
       subst k)
    | (have k:j=3:=by omega
       subst k)
    first
    |have B:h.old.getD at_ 0=I:=by show(Zv h 2).getD at_ 0=I;simp[List.getD,q]
    |have B:h.far.getD at_ 0=I:=by show(Zv h 3).getD at_ 0=I;simp[List.getD,q]
    have U:xq h.old=xq (Zv h 2):=rfl;have W:xq h.far=xq (Zv h 3):=rfl;subst P;simp only[fwd,hr,e8,h1,hf,Zdu,Zdv,Zem,ne_eq,Zgo];simp[-List.getD_eq_getElem?_getD,B,e7,d8,S,Ts,U,W,ZfT.2 O,a5];exact⟨rfl,rfl⟩
   have HC:=ZcX (r9 j9 (xz (xj w4)+1) (xz (xj K)) h x f.out.now f.out.sz HH.out j at_ H Z0 Z0 Z0 Z0 g qj EP.out Z0 qm);have i4:=ZcX N;clear P X O N a5;have i5:=ZcX f.out.res;go_wp2_with (first|(go_at_call 71;go_loud (refine HC.out.mono ?_;rintro e f1 ⟨x',rfl,Z,r⟩;have J:=(Z.block _ f.out.rbB).trans i5.out;have c9:=f.out.bel.trans (Z.mono (by have:=f.out.old;have:=f.out.rbB;omega));obtain⟨b0,r0,g0⟩:=YJ (r.own.own 0 Z0);obtain⟨b1,r1,g1⟩:=YJ (r.own.own 1 Z0);obtain⟨b2,r2,g2⟩:=YJ (r.own.own 2 Z0);obtain⟨b3,r3,g3⟩:=YJ (r.own.own 3 Z0);obtain⟨b4,r4,g4⟩:=YJ (r.own.own 4 Z0);have e5:=r.blk;have e1:fwd h v=(Tg h (((j:Nat):Int)+1) at_ H,_,0):=i4.out;generalize o1:Tg h (((j:Nat):Int)+1) at_ H=to at*;generalize Xf (Xk h (((j:Nat):Int)+1) at_ H) (((j:Nat):Int)+1) ((zr (Zv h j) at_ H).set at_ to)=C at*;rw[g0,g1,g2,g3,g4]at e5)))
   have l6:∀j,f1.cell? ⟨xz (xj w)+1,j,xw⟩=YC[j]? :=λj=>Zd5 _ _ _ _ _ _ J;unfold YC at l6;have n0:∀j,f1.frozen? ⟨xz (xj w)+1,j,xw⟩=xh:=λj=>X2 J;have m8:∀j,f1.cell? ⟨xz (xj K),j,xw⟩=(#[.int .u64 C.base,.int .i64 C.cap,.int .i64 C.to,.bool C.cycle,.int .i64 C.scan,.slice b0 (xq (Zv C 0)) r0,.slice b1 (xq (Zv C 1)) r1,.slice b2 (xq (Zv C 2)) r2,.slice b3 (xq (Zv C 3)) r3,.slice b4 (xq (Zv C 4)) r4]:Array Value)[j]? :=λj=>Zd5 _ _ _ _ _ _ e5;have m5:=c9.size;have l8:xz (xj w4)+1<=xz (xj f1):=by have:=Z.size;have:=f.out.sz;omega
   have f3:=ZcX r;have i3:=ZcX c9;have h0:=ZcX J;have G0:=ZcX g0;have G1:=ZcX g1;have G2:=ZcX g2;have G3:=ZcX g3;have G4:=ZcX g4;clear e5 r c9 Z J g0 g1 g2 g3 g4 k2 j0 a6 g6 g7;go_region;all_goals
    go_wp2;try simp only[Exit.inBlock,Exit.then]
    have y:=Uz h0.out (.int .u64 C.base) (.int .i64 C.cap) (.int .i64 C.to) (.bool C.cycle) (.int .i64 C.scan) (.slice b0 (xq (Zv C 0)) r0) (.slice b1 (xq (Zv C 1)) r1) (.slice b2 (xq (Zv C 2)) r2) (.slice b3 (xq (Zv C 3)) r3) (.slice b4 (xq (Zv C 4)) r4);rw[i4.out];refine ZdU (v:=.tuple #[.int .u64 to,ZZ C x',.int .i64 0]) ?_ rfl ?_
    .unfold ZZ;rw[G0.out,G1.out,G2.out,G3.out,G4.out];simp[results,Try.results33,go_sem,y]
    refine⟨x',rfl,?_,?_⟩;exact(Uy i3.out Z0 _ _ _ _ _ _ _ _ _ _).drew;refine⟨λj hj=> ?_,f3.out.own.apart⟩;have ho:=f3.out.own.own j hj;refine zJ (WX ho ?_) ?_;intro c hc;have n2:=(ho.lt c hc).1;exact B4 Z0 _ _ _ _ _ _ _ _ _ _;intro c h1 h2;exact⟨Z0,h2⟩
def Nz(w:World)(G:Nat->Prop)(y:∀b,G b->b<U (R w))(h:Hp)(t:h.ok)(f:Nat->Value)(B:∀j,j<5->Rd w G (.sl ((Zv h j).map vu)) (f j))(v:Int)(C:ZA v)
  (A:ZG (Zu h)=xy) (o:¬v=0) (x:(adr v).2=0) (h2:(Y9 (Zu h) (adr v).1).2.2=0):
  Calls Sol.prog 33 #[ZZ h f,.int .u64 v] w (J3 w (fwd h v)):=by
 obtain⟨_,K,L,M,D,_⟩:=Z0n h2;rw[UD ⟨K,L⟩]at D;obtain⟨k,J⟩:=Zd7 M;have z:Y9 (Zu h) (adr v).1=((Y9 (Zu h) (adr v).1).1,(k:Int),0):=by rw[<-J,<-h2]
 rw[J]at D;generalize (Y9 (Zu h) (adr v).1).1=part at*;have:(part=1\/part=2)\/(part=3\/part=4):=Z0;obtain r|r:=this;exact NB w G y h t f B v C A o x part k z r;obtain⟨j,F,I⟩:∃j:Nat,((j:Nat):Int)+1=part/\Zx h part=Zv h j:=by
  obtain rfl|rfl:=r;exact⟨2,rfl,rfl⟩;exact⟨3,rfl,rfl⟩
 have d:=(XB t part).1;rw[I]at D d;have g:k< xq (Zv h j):=Z0;have q:(Zv h j)[k]?=xk (Zv h j)[k]:=ZcM g;replace d:=d _ (Zd3 g);generalize (Zv h j)[k]=l at*;by_cases p:(adr l).2=0;exact NA w G y h t f B v C A o x part k z j F r l q g d p;by_cases a:(ZP l).2.2=0;have P:=YG.1 (C1 (w:=l) a);obtain⟨n,O⟩:=Zd7 P.1;refine Cu w G y h t f B v C A o x part k z j F r l q g d p n (ZP l).2.1 (ZP l).2.2 (by rw[<-O]) Z0 ?_;by_cases H:xq (Zv h j)<k+(n+1);exact .inr (.inl ⟨a,H⟩);by_cases u:Xl (Zu h)< ((n+1:Nat):Int);exact .inr (.inr (.inl ⟨a,Z0,u⟩));exact .inr (.inr (.inr ⟨a,Z0,u⟩));have N:ZP l=(((0:Nat):Int),(ZP l).2.1,(ZP l).2.2):=by
  unfold ZP at a⊢;split;rename_i c;rw[if_pos c]at a;exact absurd rfl a;rfl
 exact Cu w G y h t f B v C A o x part k z j F r l q g d p 0 _ _ N Z0 (.inl a)
end Vm
namespace Vm
open Go Go.Proofs Go.RowKit
def NC(w:World)(G:Nat->Prop)(t:∀b,G b->b<xz (xj w))(h:Hp)(hh:h.ok)(a:Nat->Value)(hs:∀j,j<5->Rd w G (.sl ((Zv h j).map vu)) (a j))(v:Int)(T:ZA v):
  Calls Sol.prog 33 #[ZZ h a,.int .u64 v] w (J3 w (fwd h v)):=by
 have M:=ZcX hs;have K:=ZcX hh;clear hs hh;by_cases z:ZG (Zu h)=xy/\¬v=0/\(adr v).2=0/\(Y9 (Zu h) (adr v).1).2.2=0;exact Nz w G t h K.out a M.out v T z.1 z.2.1 z.2.2.1 z.2.2.2;unfold ZZ;go_enter Sol.func33,Try.ntmps33;cases D:ZG (Zu h)
 .go_wp2_with (first
   |(go_at_call 64;refine(Tj (h:=h) (x:=a) (G:=G) (λc H=>by have:=t c H;simp;omega) (λj A=>(M.out j A).keep (λb u=>by have:=t b u;rw[ZcU _ _ _ (by simp;omega),ZcU _ _ _ (by omega)]) (λ_ h=>h))).mono ?_;rintro e w1 ⟨rfl,d⟩;unfold Va;have L:=(d.block (xz (xj w)+1) (by simp)).trans (RS w _);have q:=d.size;simp at q;have n:=ZcX d;clear d)
   |(go_at_call 65;refine(RG K.out.lay _).mono ?_;rintro e w2 ⟨rfl,f⟩;rw[D];have I:=(f.block (xz (xj w)+1) (by simp;omega)).trans ((ZcU w1 _ (xz (xj w)+1) (by omega)).trans L);have y2:∀j,w2.cell? ⟨xz (xj w)+1,j,xw⟩=YC[j]? :=λj=>Zd5 _ _ _ _ _ _ I;have f2:∀j,w2.frozen? ⟨xz (xj w)+1,j,xw⟩=xh:=λj=>X2 I;unfold YC at y2;have U:=ZcX f;clear f))
  have y:=Uz I (.int .u64 0) (.int .i64 0) (.int .i64 0) (.bool xh) (.int .i64 0) (.slice xw 0 0) (.slice xw 0 0) (.slice xw 0 0) (.slice xw 0 0) (.slice xw 0 0);refine ZdU (v:=.tuple #[.int .u64 0,.agg YC,.int .i64 1]) Zcx rfl ⟨λ_=>.slice xw 0 0,?_,Uy ?_ Z0 _ _ _ _ _ _ _ _ _ _,?_⟩;simp[fwd,D,ZZ,Hp.zero,YC];exact((((((Zdr _ _).alloc (ZcR _) _).alloc Z1 _).trans (n.out.mono ZbV)).alloc Z0 _).trans (U.out.mono ZbV));have:(fwd h v).2.1=Hp.zero:=by simp[fwd,D]
  rw[this];exact J0 _ _
 .by_cases Q:v=0
  .subst Q
   go_wp2_with (first
    |(go_at_call 64;refine(Tj (h:=h) (x:=a) (G:=G) (λc H=>by have:=t c H;simp;omega) (λj A=>(M.out j A).keep (λb u=>by have:=t b u;rw[ZcU _ _ _ (by simp;omega),ZcU _ _ _ (by omega)]) (λ_ h=>h))).mono ?_;rintro e w1 ⟨rfl,d⟩;unfold Va;have L:=(d.block (xz (xj w)+1) (by simp)).trans (RS w _);have O:=(d.block (xz (xj w)) (by simp;omega)).trans ((ZcU (w.alloc (.cells #[.int .u64 h.base,.int .i64 h.cap,.int .i64 h.to,.bool h.cycle,.int .i64 h.scan,a 0,a 1,a 2,a 3,a 4] 37)) _ (xz (xj w)) (by simp)).trans (Zdf w _));have q:=d.size;simp at q;have n:=ZcX d;clear d)
    |(go_at_call 65;refine(RG K.out.lay _).mono ?_;rintro e w2 ⟨rfl,f⟩;rw[D];have I:=(f.block (xz (xj w)+1) (by simp;omega)).trans ((ZcU w1 _ (xz (xj w)+1) (by omega)).trans L);have p2:=(f.block (xz (xj w)) (by simp;omega)).trans ((ZcU w1 _ (xz (xj w)) (by omega)).trans O);have x2:∀j,w2.cell? ⟨xz (xj w),j,xw⟩=(#[.int .u64 h.base,.int .i64 h.cap,.int .i64 h.to,.bool h.cycle,.int .i64 h.scan,a 0,a 1,a 2,a 3,a 4]:Array Value)[j]? :=λj=>Zd5 _ _ _ _ _ _ p2;have k:Below (xz (xj w)) w w2:=((((((Zdr _ _).alloc (ZcR _) _).alloc (by simp) _).trans (n.out.mono (by simp;omega))).alloc (by omega) _).trans (f.mono (by simp;omega)));have B:=f.size;simp at B;have l:=ZcX k;clear f k)
    |(go_at_call 66;refine(KV _ G (λb u=>by have:=t b u;omega) h K.out a (λj A=>(M.out j A).keep (λb u=>l.out.block b (t b u)) (λ_ h=>h))).mono ?_;rintro e w3 ⟨x,rfl,g,p⟩;obtain⟨a0,q0,Z⟩:=YJ (p.own 0 Z0);obtain⟨a1,q1,e1⟩:=YJ (p.own 1 Z0);obtain⟨a2,q2,e2⟩:=YJ (p.own 2 Z0);obtain⟨a3,q3,e3⟩:=YJ (p.own 3 Z0);obtain⟨a4,q4,e4⟩:=YJ (p.own 4 Z0);unfold ZZ;rw[Z,e1,e2,e3,e4];have C:=(g.block (xz (xj w)+1) Z0).trans I;have P:∀j,w3.cell? ⟨xz (xj w)+1,j,xw⟩=YC[j]? :=λj=>Zd5 _ _ _ _ _ _ C;have f3:∀j,w3.frozen? ⟨xz (xj w)+1,j,xw⟩=xh:=λj=>X2 C;unfold YC at P;have r:=ZcX g;have N:=ZcX p;clear g p))
   have y:=Uz C (.int .u64 h.base) (.int .i64 h.cap) (.int .i64 h.to) (.bool h.cycle) (.int .i64 h.scan) (.slice a0 (xq (Zv h 0)) q0) (.slice a1 (xq (Zv h 1)) q1) (.slice a2 (xq (Zv h 2)) q2) (.slice a3 (xq (Zv h 3)) q3) (.slice a4 (xq (Zv h 4)) q4);have J:fwd h 0=(0,h,0):=by simp[fwd,D]
   refine ZdU (v:=.tuple #[.int .u64 0,ZZ h x,.int .i64 0]) (by unfold ZZ;rw[Z,e1,e2,e3,e4];simp[results,Try.results33,go_sem,y]) rfl ⟨x,?_,Uy (l.out.trans (r.out.mono Z0)) Z0 _ _ _ _ _ _ _ _ _ _,?_⟩;rw[J];rw[J];refine⟨λj A=> ?_,N.out.apart⟩;have ho:=N.out.own j A;refine zJ (B':=xz (xj w2)) (WX ho λc H=>B3 (by have:=(ho.lt c H).1;omega) _ _ _ _ _ _ _ _ _ _) (λc R S=>⟨Z0,S⟩)
  .have X:¬(v=0):=Q;by_cases R:(adr v).2=0
   .by_cases S:(Y9 (Zu h) (adr v).1).2.2=0;exact(z ⟨D,X,R,S⟩).elim
    .go_wp2_with (first
     |(go_at_call 64;refine(Tj (h:=h) (x:=a) (G:=G) (λc H=>by have:=t c H;simp;omega) (λj A=>(M.out j A).keep (λb u=>by have:=t b u;rw[ZcU _ _ _ (by simp;omega),ZcU _ _ _ (by omega)]) (λ_ h=>h))).mono ?_;rintro e w1 ⟨rfl,d⟩;unfold Va;have L:=(d.block (xz (xj w)+1) (by simp)).trans (RS w _);have O:=(d.block (xz (xj w)) (by simp;omega)).trans ((ZcU (w.alloc (.cells #[.int .u64 h.base,.int .i64 h.cap,.int .i64 h.to,.bool h.cycle,.int .i64 h.scan,a 0,a 1,a 2,a 3,a 4] 37)) _ (xz (xj w)) (by simp)).trans (Zdf w _));have q:=d.size;simp at q;have n:=ZcX d;clear d)
     |(go_at_call 65;refine(RG K.out.lay _).mono ?_;rintro e w2 ⟨rfl,f⟩;rw[D];have I:=(f.block (xz (xj w)+1) (by simp;omega)).trans ((ZcU w1 _ (xz (xj w)+1) (by omega)).trans L);have p2:=(f.block (xz (xj w)) (by simp;omega)).trans ((ZcU w1 _ (xz (xj w)) (by omega)).trans O);have x2:∀j,w2.cell? ⟨xz (xj w),j,xw⟩=(#[.int .u64 h.base,.int .i64 h.cap,.int .i64 h.to,.bool h.cycle,.int .i64 h.scan,a 0,a 1,a 2,a 3,a 4]:Array Value)[j]? :=λj=>Zd5 _ _ _ _ _ _ p2;have k:Below (xz (xj w)) w w2:=((((((Zdr _ _).alloc (ZcR _) _).alloc (by simp) _).trans (n.out.mono (by simp;omega))).alloc (by omega) _).trans (f.mono (by simp;omega)));have B:=f.size;simp at B;have m2:=(f.block (xz (xj w1)) (by simp)).trans (Zdf w1 _);have l:=ZcX k;clear f k)
     |(go_at_call 44;refine(VD T _).mono ?_;rintro e w3 ⟨rfl,g⟩;have C:=(g.block (xz (xj w)+1) (by omega)).trans I;have P:∀j,w3.cell? ⟨xz (xj w)+1,j,xw⟩=YC[j]? :=λj=>Zd5 _ _ _ _ _ _ C;have f3:∀j,w3.frozen? ⟨xz (xj w)+1,j,xw⟩=xh:=λj=>X2 C;unfold YC at P;have m3:=(g.block (xz (xj w1)) (by omega)).trans m2;have l3:∀j,w3.cell? ⟨xz (xj w1),j,xw⟩=(#[.int .u64 (Zu h).base,.int .i64 (Zu h).cap,.int .i64 (Zu h).to,.int .i64 (Zu h).low,.int .i64 (Zu h).high,.int .i64 (Zu h).old,.int .i64 (Zu h).far]:Array Value)[j]? :=λj=>Zd5 _ _ _ _ _ _ m3;have a5:=g.size;have r:=ZcX g;clear g)
     |(go_at_call 67;refine(Lq K.out.lay (L0 T) _).mono ?_;rintro e w4 ⟨rfl,F⟩;have a6:=F.size;have Y:∀o,(w4.alloc o).heap[xz (xj w)+1]?=xk (.cells YC 37 (0,0)):=λo=>(ZcU w4 o (xz (xj w)+1) (by omega)).trans ((F.block (xz (xj w)+1) (by omega)).trans C);have y4:∀o j,(w4.alloc o).cell? ⟨xz (xj w)+1,j,xw⟩=YC[j]? :=λo j=>Zd5 _ _ _ _ _ _ (Y o);have f4:∀o j,(w4.alloc o).frozen? ⟨xz (xj w)+1,j,xw⟩=xh:=λo j=>X2 (Y o);unfold YC at y4;have W:=ZcX F;clear F))
     have y:=Uz (Y (.cells #[.int .i64 (Y9 (Zu h) (adr v).1).1,.int .i64 (Y9 (Zu h) (adr v).1).2.1] 72)) (.int .u64 0) (.int .i64 0) (.int .i64 0) (.bool xh) (.int .i64 0) (.slice xw 0 0) (.slice xw 0 0) (.slice xw 0 0) (.slice xw 0 0) (.slice xw 0 0);have J:fwd h v=(0,Hp.zero,6):=by simp[fwd,D,Q,R,S]
     refine ZdU (v:=.tuple #[.int .u64 0,.agg YC,.int .i64 6]) Zcx rfl ⟨λ_=>.slice xw 0 0,?_,Uy (((l.out.trans (r.out.mono Z0)).trans (W.out.mono Z0)).alloc Z0 _) Z0 _ _ _ _ _ _ _ _ _ _,?_⟩;rw[J];simp[ZZ,Hp.zero,YC];rw[J];exact J0 _ _
   .go_wp2_with (first
    |(go_at_call 64;refine(Tj (h:=h) (x:=a) (G:=G) (λc H=>by have:=t c H;simp;omega) (λj A=>(M.out j A).keep (λb u=>by have:=t b u;rw[ZcU _ _ _ (by simp;omega),ZcU _ _ _ (by omega)]) (λ_ h=>h))).mono ?_;rintro e w1 ⟨rfl,d⟩;unfold Va;have L:=(d.block (xz (xj w)+1) (by simp)).trans (RS w _);have O:=(d.block (xz (xj w)) (by simp;omega)).trans ((ZcU (w.alloc (.cells #[.int .u64 h.base,.int .i64 h.cap,.int .i64 h.to,.bool h.cycle,.int .i64 h.scan,a 0,a 1,a 2,a 3,a 4] 37)) _ (xz (xj w)) (by simp)).trans (Zdf w _));have q:=d.size;simp at q;have n:=ZcX d;clear d)
    | (go_at_call 65;refine(RG K.out.lay _).mono ?_;rintro e w2 ⟨rfl,f⟩;rw[D];have I:=(f.block (xz (xj w)+1) (by simp;omega)).trans ((ZcU w1 _ (xz (xj w)+1) (by omega)).trans L);have p2:=(f.block (xz (xj w)) (by simp;omega)).trans ((ZcU w1 _ (xz (xj w)) (by omega)).trans O);have x2:∀j,w2.cell? ⟨xz (xj w),j,xw⟩=(#[.int .u64 h.base,.int .i64 h.cap,.int .i64 h.to,.bool h.cycle,.int .i64 h.scan,a 0,a 1,a 2,a 3,a 4]:Array Value)[j]? :=λj=>Zd5 _ _ _ _ _ _ p2;have k:Below (xz (xj w)) w w2:=((((((Zdr _ _).alloc (ZcR _) _).alloc (by simp) _).trans (n.out.mono (by simp;omega))).alloc (by omega) _).trans (f.mono (by simp;omega)));have B:=f.size;simp at B;have l:=ZcX k;clear f k)
      |(go_at_call 44;refine(VD T _).mono ?_;rintro e w3 ⟨rfl,g⟩;have C:=(g.block (xz (xj w)+1) (by omega)).trans I;have P:∀j,w3.cell? ⟨xz (xj w)+1,j,xw⟩=YC[j]? :=λj=>Zd5 _ _ _ _ _ _ C;have f3:∀j,w3.frozen? ⟨xz (xj w)+1,j,xw⟩=xh:=λj=>X2 C;unfold YC at P;have r:=ZcX g;clear g))
    have y:=Uz C (.int .u64 0) (.int .i64 0) (.int .i64 0) (.bool xh) (.int .i64 0) (.slice xw 0 0) (.slice xw 0 0) (.slice xw 0 0) (.slice xw 0 0) (.slice xw 0 0);have J:fwd h v=(0,Hp.zero,3):=by simp[fwd,D,Q,R]
    refine ZdU (v:=.tuple #[.int .u64 0,.agg YC,.int .i64 3]) Zcx rfl ⟨λ_=>.slice xw 0 0,?_,Uy (l.out.trans (r.out.mono Z0)) Z0 _ _ _ _ _ _ _ _ _ _,?_⟩;rw[J];simp[ZZ,Hp.zero,YC];rw[J];exact J0 _ _
end Vm
namespace Vm
open Go Go.Proofs Go.RowKit
def Kj{w:World}{G:Nat->Prop}{k:IntKind}{n:Int}{v:Value}(r:Rd w G (.int k n) v):v=.int k n:=by cases r;rfl
def Z52{w:World}{G:Nat->Prop}{b:Bool}{v:Value}(r:Rd w G (.bool b) v):v=.bool b:=by cases r;rfl
def Z13{w:World}{G:Nat->Prop}{h:Hp}{v:Value}(r:Rd w G (ZL h) v):∃f,v=ZZ h f/\∀j,j<5->Rd w G (.sl ((Zv h j).map vu)) (f j):=by
 cases r with
 |agg _ vs t _ a=>
  refine⟨λj=>vs.getD (5+j) undef,?_,?_⟩;have g:=Kj (a 0 _ rfl);have k:=Kj (a 1 _ rfl);have l:=Kj (a 2 _ rfl);have n:=Z52 (a 3 _ rfl);have o:=Kj (a 4 _ rfl);have d:vs.size=10:=t;unfold ZZ;rw[<-g,<-k,<-l,<-n,<-o];congr 1;apply Zgi;simp[d];intro i u x;have p:i<10:=Z0
  match i,p with
  |0,_|1,_|2,_|3,_|4,_|5,_|6,_|7,_|8,_|9,_=>simp[Array.getD,d]
  intro j q
  match j,q with
  |0,_=>exact a 5 _ rfl
  |1,_=>exact a 6 _ rfl
  |2,_=>exact a 7 _ rfl
  |3,_=>exact a 8 _ rfl
  |4,_=>exact a 9 _ rfl
def Z12{w:World}{G:Nat->Prop}{h:Hp}{x:Nat->Value}(d:∀j,j<5->Rd w G (.sl ((Zv h j).map vu)) (x j)):Rd w G (ZL h) (ZZ h x):=by
 refine .agg _ _ rfl (by simp[V.one]) ?_;intro i y a
 match i,a with
 |0,a=>cases a;exact .int _ _
 |1,a=>cases a;exact .int _ _
 |2,a=>cases a;exact .int _ _
 |3,a=>cases a;exact .bool _
 |4,a=>cases a;exact .int _ _
 |5,a=>cases a;exact d 0 Z0
 |6,a=>cases a;exact d 1 Z0
 |7,a=>cases a;exact d 2 Z0
 |8,a=>cases a;exact d 3 Z0
 |9,a=>cases a;exact d 4 Z0
def Z0G:RW:=by
 intro h v p u;refine⟨Z2,λw G vs o a f=> ?_⟩;have r0:=f 0 _ rfl;have n:=f 1 _ rfl;obtain⟨⟨l⟩⟩:=vs;simp at a;rename_i v0 l;obtain _|⟨v1,l⟩:=l;simp at a;cases l with
 |cons _ _=>simp at a
 |nil=>
  simp at r0 n;obtain⟨k,rfl,t⟩:=Z13 r0;have:=Kj n;subst this;refine(NC w G o h p k t v u).mono ?_;rintro e z ⟨x,rfl,g,r⟩;refine⟨_,rfl,g,?_⟩;refine .tup _ _ rfl ?_;intro i y d
  match i,d with
  |0,d=>cases d;exact .int _ _
  |1,d=>cases d;exact Z12 λj q=>GP (r.own j q) λb g _=>.inr ⟨g,by assumption⟩
  |2,d=>cases d;exact .int _ _
end Vm
end
section
namespace Vm
open Go Go.Conc Go.ConcN
section
section
variable {P:Z4}{Stop:Za}{b:Ze}{k:Zi}{cs:Z5}{a:Act}{w:Z3}
def Walk.two{x y:Code}(h:Walk P Stop (b.at a (.code x:: .code y::k)) cs w):Walk P Stop (b.at a (.code (.seq x y)::k)) cs w:=.go (λw=>stepG_seq) h
def Walk.region{id:Nat}{ops:Zq}(h:Walk P Stop (b.at a (.inRegion ops (List.range ops.size)::k)) cs w):Walk P Stop (b.at a (.code (.region id ops xh)::k)) cs w:=.go (λw=>stepG_region) h
def Walk.regEnd{ops:Zq}(h:Walk P Stop (b.at a k) cs w):Walk P Stop (b.at a (.inRegion ops []::k)) cs w:=.go (λw=>stepG_region_end) h
def Walk.val{ops:Zq}{i:Nat}{rest:Zb}{o:Oper}{v:Z7}(q:ops[i]?=xk o)(r:Region.wanted o (yielded ops a.tmps)=xy)(p:b.kind≠.early)(n:Q5 P o.op=xy)(j:∀g:Z3,g.heap=w.heap->(execOp a.eval o).run P g=.ok (.value v) g)
  (h:Walk P Stop (b.at (a.put o.dst v) (.inRegion ops rest::k)) cs w):Walk P Stop (b.at a (.inRegion ops (i::rest)::k)) cs w:=by
 refine .one λd=> ?_;have f:EvsB (U (R (Y7 ((execOp a.eval o).run P (w.at d))))) (listed P b.fn a o (w.at d)):=λe l=>DN n a (w.at d) e (mem_listed l);rw[j (w.at d) rfl]at f;exact⟨_,_,_,_,stepG_value q r p (j (w.at d) rfl),ZcR _,f,h.at d⟩
def Walk.chan{ops:Zq}{i:Nat}{rest:Zb}{o:Oper}{t p:Z8}{dir:ChanDir}{inf:TypeInfo}{f:Zl}(z:ops[i]?=xk o)(B:Region.wanted o (yielded ops a.tmps)=xy)(y:b.kind≠.early)(j:o.op=.makeChan t (.const (.int f 0)))(l:P.underlying t=xk (.chan dir p))(g:P.info? p=xk inf)
  (h:Walk P Stop (b.at (a.put o.dst (.chan (xk (U (R w))))) (.inRegion ops rest::k)) cs (w.alloc (.chan 0 #[] xh 0 0 xh))):Walk P Stop (b.at a (.inRegion ops (i::rest)::k)) cs w:=by
 refine .one λd=> ?_;have n:execOp a.eval o=(do pure (.value (<-Instr.makeChan t (.int f (0:Nat)))):Sem Next):=by unfold execOp;simp only[j];rfl
 have A:(execOp a.eval o).run P (w.at d)=.ok (.value (.chan (xk (U (R w))))) ((w.alloc (.chan 0 #[] xh 0 0 xh)).at d):=by
  rw[n];simp only[Zdp,run_makeChan (w:=w.at d) l g f 0 Z0 Z0,Zdj];rfl
 have x:(execOp a.eval o).events P (w.at d) #[]=#[]:=by
  rw[n];have q:=events_makeChan (P:=P) (w:=w.at d) l g f 0 Z0 Z0 #[];have r:(Instr.makeChan t (.int f (0:Nat))).runT P (w.at d) #[]=(.ok (.chan (xk (U (R w)))) ((w.alloc (.chan 0 #[] xh 0 0 xh)).at d), #[]):=by
   refine Zf7 ?_ q;rw[ZeK];exact run_makeChan (w:=w.at d) l g f 0 Z0 Z0
  show((Sem.bind _ _).runT P (w.at d) #[]).2=_;rw[ZeR,r];rfl
 refine⟨_,_,_,_,stepG_value z B y A,by show U (R w)<=U (R (w.alloc _));simp,λe u=> ?_,h.at d⟩;have:=mem_listed u;simp_all
def Walk.fork{fr D:Ze}{l:Zj}(T:∀w:Z3,stepG P xy (G fr cs) w=.spawn (G D cs) l w #[])
  (H:∀(n d:Nat) (gs:Zg) (sl:Option (Nat×Nat)) (t:Trace) (q:Zc),0<n->gs.size=n+1->gs[0]?=xk (G D cs)->gs[n]?=xk l->YE P n gs q->(∀Y Z M,TI n Y Z M (xz (xj w)) t)->Win P (Co P Stop) gs (w.at d) sl t):Walk P Stop fr cs w:=by
 intro d0 gs sl t q hl N r;have R:∀(f:Zg) g,f[f.size]? ≠xk g:=λf g e=>by
  simp_all
 refine skip hl (λi g O z=> ?_) ⟨0,_,.inl rfl,N,rfl⟩ λf d L q' i g a1 B Q O a2 a0=> ?_;obtain rfl|rfl:=O;rw[N]at z;cases z;exact⟨awake_of (.inl rfl),λg1 g2 d=>woken_run rfl⟩;simp_all;obtain rfl|rfl:=O;have F:f[0]?=xk (G fr cs):=by rw[B 0 (.inl rfl)];exact N
 have J:0<f.size:=(ZcS.1 F).1;have A:=runT_crowd_spawn (P:=P) (sl:=L) (i:=0) (w:=w.at d) F (T (w.at d));refine⟨_,_,_,_,A,?_⟩;generalize hx:({g:=0,fn:=(G fr cs).frame.fn,pos:=(G fr cs).frame.place,act:=.go f.size}:MemOp)=x;generalize hy:({g:=f.size,fn:=l.frame.fn,pos:=(G fr cs).frame.place,act:=.start}:MemOp)=y;have I:((MemOp.ofEvents 0 (G fr cs).frame.fn (G fr cs).frame.place #[]).push x).push y=#[x,y]:=by simp[MemOp.ofEvents]
 rw[I];have U:x.g=0/\x.act=.go f.size:=by rw[<-hx];exact⟨rfl,rfl⟩
 have W:y.g=f.size/\y.act=.start:=by rw[<-hy];exact⟨rfl,rfl⟩
 refine H f.size d _ L _ q' J Z1 ?_ ZbT (λj g hj a3 z=> ?_) λY Z M=> ?_;grind;rw[ZeX]at z;simp only[ZeU]at z;rw[if_neg Z0,ZdF Z0]at z;exact Q j g hj Z0 z;have t0:TI f.size (λ_=>True) (λ_=>False) M (xz (xj w)) t:=⟨r.clean,r.hears,r.low,λi op x p o C=>.inl (r.known i op x p o C),λi op x p o C=>.inr (.inr ⟨λ_=>by simp_all[FS,trivial],λb _ h=>h⟩)⟩
 have X:=t0.comm (ZcR _) #[x,y] (λop S=>by
  have:op=x\/op=y:=by simpa using S
  obtain rfl|rfl:=this;simp_all[MemAct.touch?];simp_all[MemAct.touch?])
 have K:∀(i:Nat) (op:MemOp) (u:Touch),(t++ #[x,y])[i]?=xk op->op.act.touch?=xk u->t[i]?=xk op:=λi op u p o=>by
  obtain⟨_,h⟩|⟨_,h⟩:=getElem?_append_cases p;exact h;have:op=x\/op=y:=by simpa using h
  obtain rfl|rfl:=this;simp_all[MemAct.touch?];simp_all[MemAct.touch?]
 refine⟨X.clean,X.hears,X.low,λi op u p o C=>.inl ((r.known i op u (K i op u p o) o C).app _),λi op u p o C=>.inr (.inl ?_)⟩;exact fork_knows U W (r.hears 0) (r.hears _) (r.known i op u (K i op u p o) o C);simp_all
def Walk.meet{fr p:Ze}{f:Zj}{c:Nat}{KA KB OA0:Z6}{StopA:(Nat->Prop)->Goroutine->World->Prop}{vs:Zk}{z:Z7}(D:∀w:Z3,stepG P xy (G fr cs) w=.spawn (G p cs) f w #[])
  (O:Play P xy c KA StopA (vs.map .recv++[.closed z]) OA0 (G p cs) w) (Q:Play P xh c KB (Ue P c) (vs.map .send) (λ_=>False) f w) (r:w.heap[c]?=xk (.chan 0 #[] xh 0 0 xh))
  (la:∀b,OA0 b->b<xz (xj w)) (ka:∀b,KA b->b<xz (xj w)) (kb:∀b,KB b->b<xz (xj w)) (I:∀b,OA0 b->¬KB b) (M:¬OA0 c) (y:¬KA c) (A:¬KB c)
  (u:∀x a j,StopA x a j->xz (xj w)<=xz (xj j)->j.tape=w.tape->(j.os,j.output)=(w.os,w.output)->(∀b,x b->(OA0 b\/xz (xj w)<=b)/\b<xz (xj j))->(∀b,b<xz (xj w)->¬OA0 b->b≠c->j.heap[b]?=w.heap[b]?)->∃o l,a=G o l/\Walk P Stop o l j):Walk P Stop fr cs w:=by
 refine .fork D λn d gs sl t q U F N C T H=> ?_;have R:Cfg P n c KA KB OA0 (w.at d) OA0 (λ_=>False) gs (w.at d) t q:=
  ⟨U,T,H _ _ _,la,λ_ h=>h.elim,ka,kb,λ_ _ h=>h,I,M,y,A,(ZcS.1 r).1,ZcR _,rfl,rfl,λ_ h=>.inl h,λ_ h=>h.elim,λ_ _ _ _=>rfl⟩
 have W:=(Z4d (P:=P) (n:=n) (KB:=KB) (OA0:=OA0) (w0:=w.at d) O).opn vs z (λ_=>False) f gs (w.at d) sl t q 0 0 xh rfl R F N C (Rely.at _ _ _ d) (.run (Q.rely (Rely.at _ _ _ d))) r;refine W.bind λB w1 J t1 ⟨L,x,OB,q1,X,k1,Y,g,Z,k5⟩=> ?_;obtain⟨o,l,rfl,S⟩:=u x L w1 Y g.b0 g.tape g.os (λb K=>⟨g.oa b K,g.la b K⟩) g.fr;exact S w1.drawn B J t1 q1 Z X ⟨g.ti.clean,g.ti.hears,g.ti.low,k5⟩
end
end
end Vm
end
section
namespace Vm
open Go Go.Conc
section
section
variable {Q:Z4}{c:Nat}{Post:Za}{es:ZbS}{fr fr':Ze}{cs cs':Z5}{w w':Z3}
def LS.steps:∀ {es:ZbS} {fr fr':Ze} {cs cs':Z5} {w w':Z3},Steps Q (lone fr (cs++[YH Q]) w) (lone fr' (cs'++[YH Q]) w')->LS Q c Post es fr' cs' w'->LS Q c Post es fr cs w
 | [],_,_,_,_,_,_,h,⟨n,d,c2,w2,f,g⟩=>let⟨m,j⟩:=Steps.trans h ⟨n,f⟩;⟨m,d,c2,w2,j,g⟩
 |e::es,_,_,_,_,_,_,h,⟨n,d,c2,w2,f,g⟩=>let⟨m,j⟩:=Steps.trans h ⟨n,f⟩;⟨m,d,c2,w2,j,g⟩
def LS.ev{e:Ev}(h:Vg Q c e fr)(k:LS Q c Post es (Xm e fr) cs w):LS Q c Post (e::es) fr cs w:=⟨0,fr,cs,w,rfl,h,k⟩
def LS.now(h:Post fr cs w):LS Q c Post [] fr cs w:=⟨0,fr,cs,w,rfl,h⟩
end
def Cd{P:Z4}{ops:Zq}{w:Z3}{Q g:Act->Prop}(h:∀a,Q a->g a):∀(l:List Oper) (a:Act),wpStill P ops w Q l a->wpStill P ops w g l a
 | [],a,d=>h a d
 |o::l,a,d=>by
  simp only[wpStill]at d⊢;split;rename_i f;rw[if_pos f]at d;exact Oper.still_mono (λa=>Cd h l a) d;rename_i f;rw[if_neg f]at d;exact Cd h l _ d
def Yk:Code->List Nat->Code
 |c,[]=>c
 |.seq a _,0::l=>Yk a l
 |.seq _ b,_::l=>Yk b l
 |.cond _ a _,0::l=>Yk a l
 |.cond _ _ b,_::l=>Yk b l
 |.block _ a,_::l=>Yk a l
 |.loop a,_::l=>Yk a l
 |.scope a,_::l=>Yk a l
 |c,_=>c
def K0:Code->Array Oper
 |.region _ ops _=>ops
 |_=> #[]
def yX(Q:Z4)(c:Nat)(Post:Za)(es:ZbS)(b:Ze)(k:Zi)(cs:Z5):Exit->Act->World->Prop
 |.normal,a,w=>LS Q c Post es (b.at a k) cs w
 |.exit id,a,w=>∃k',exitTo id k=xk k'/\LS Q c Post es (b.at a k') cs w
 |.ret,a,w=>∀d,LS Q c Post es {b.at a d with mode:=.returning} cs w
 |_,_,_=>False
def SC(Q:Z4)(c:Nat)(x:Code)(R:List Ev->Exit->Act->World->Prop)(es:ZbS)(a:Act)(w:Z3):Prop:=
 ∀(Post:Za) (b:Ze) (k:Zi) (cs:Z5),(∀d e f w',R d e f w'->yX Q c Post d b k cs e f w')->LS Q c Post es (b.at a (.code x::k)) cs w
def ST(Q:Z4)(c:Nat)(ops:Zq)(R:List Ev->Exit->Act->World->Prop)(l:Zb)(es:ZbS)(a:Act)(w:Z3):Prop:=
 ∀(Post:Za) (b:Ze) (k:Zi) (cs:Z5),(∀d e f w',R d e f w'->yX Q c Post d b k cs e f w')->LS Q c Post es (b.at a (.inRegion ops l::k)) cs w
section
variable {Q:Z4}{c:Nat}{R R':List Ev->Exit->Act->World->Prop}{es:ZbS}{a:Act}{w:Z3}{x y:Code}
variable {ops:Zq}{l:Zb}
def SC.draw{id:Nat}(h:∀t,ST Q c ops R (Region.schedule (Q.follows .mixedOrders) ops t) es a {w with drawn:=w.drawn+1}):SC Q c (.region id ops xy) R es a w:=λPost b k cs d=>LS.steps (.one step_region_draw) (h _ Post b k cs d)
def ST.nil(h:R es .normal a w):ST Q c ops R [] es a w:=λPost b k cs d=>LS.steps (.one step_region_end) (d _ _ _ _ h)
def ST.omit{i:Nat}(g:((ops[i]?).map (Region.wanted · (yielded ops a.tmps))).getD xh=xh)(f:ST Q c ops R l es (a.put ((ops[i]?).bind (·.dst)) undef) w):ST Q c ops R (i::l) es a w:=λPost b k cs d=>
 LS.steps (.one (step_op_skip g)) (f Post b k cs d)
def ST.still{i:Nat}{K:Act->Prop}(h:stOp Q ops w i K a)(t:∀a,K a->ST Q c ops R l es a w):ST Q c ops R (i::l) es a w:=by
 unfold stOp at h;cases q:ops[i]? with
 |none=>
  rw[q]at h;refine .omit (by simp[q]) ?_;simp_all[Option.bind_none,Act.put]
 |some o=>
  rw[q]at h;dsimp only at h;by_cases u:Region.wanted o (yielded ops a.tmps)=xy;rw[if_pos u]at h;unfold Oper.still at h;intro Post b k cs r;have B:=stepG_op (P:=Q) (b:=b) (k:=k) (cs:=cs++[YH Q]) (w:=w) (rest:=l) q u;have z:∀v,(b.at a (.inRegion ops (i::l)::k)).finish v=b.at (a.put o.dst v) (.inRegion ops l::k):=λv=>by grind [Frame.finish_at]
  revert h
  cases C:(execOp a.eval o).run Q w with
  |halt x w'=>exact False.elim
  |ok n w'=>
   cases n<;>first|exact False.elim|skip
   rename_i v;rintro⟨rfl,h⟩;refine LS.steps (.one (Zgb ?_)) (t _ h Post b k cs r);simp_all[stepG.apply];rintro⟨rfl,h⟩;refine LS.steps (.one (Zgb ?_)) (t _ h Post b k cs r);simp_all[stepG.apply];rename_i f args;rintro⟨rfl,v,A,h⟩;obtain⟨e,j,fr,⟨rfl,rfl⟩,g,_,p⟩:=A (b.at a (.inRegion ops (i::l)::k)::(cs++[YH Q]));have d:step Q (lone (b.at a (.inRegion ops (i::l)::k)) (cs++[YH Q]) j)=.next (lone (Frame.enter Q f args .normal) (b.at a (.inRegion ops (i::l)::k)::(cs++[YH Q])) j):=
    Zgb (by simp_all[stepG.apply,Frame.at])
   refine LS.steps (.head d (g.trans (.one ?_))) (t _ h Post b k cs r);grind [step_leave_returned]
  rw[if_neg u]at h;refine .omit ZbU ?_;simp_all
def ST.ev{i:Nat}{o:Oper}{e:Ev}(B:ops[i]?=xk o)(H:Region.wanted o (yielded ops a.tmps)=xy)(A:match e with
   |.recv _|.closed _=>∃t f d h inf z,o.op=.recv t f xy/\ZU f=xy/\a.eval f=.chan (xk c)/\Q.underlying t=xk (.chan d h)/\Q.info? h=xk inf/\inf.zero=xk z/\∀C,e=.closed C->C=z
   |.send v=>∃f x,o.op=.send f x/\ZU f=xy/\ZU x=xy/\a.eval f=.chan (xk c)/\a.eval x=v)
  (G:ST Q c ops R l es (a.put o.dst e.val) w):ST Q c ops R (i::l) (e::es) a w:=λPost b k cs F=>by
 refine LS.ev ⟨ops,i,l,k,o,rfl,rfl,B,H,?_⟩ ?_;have g:∀x,(b.at a (.inRegion ops (i::l)::k)).eval x=a.eval x:=Frame.eval_at b a _;cases e with
 |recv v=>obtain⟨t,f,d,h,inf,z,j,n,p,q,r,u,_⟩:=A;exact⟨t,f,d,h,inf,z,j,n,by rw[g];exact p,q,r,u⟩
 |closed v=>obtain⟨t,f,d,h,inf,z,j,n,p,q,r,u,D⟩:=A;exact⟨t,f,d,h,inf,j,n,by rw[g];exact p,q,r,by rw[D v rfl];exact u⟩
 |send v=>obtain⟨f,x,j,n,p,q,r⟩:=A;exact⟨f,x,j,n,p,by rw[g];exact q,by rw[g];exact r⟩
 have:Xm e (b.at a (.inRegion ops (i::l)::k))=b.at (a.put o.dst e.val) (.inRegion ops l::k):=by
  unfold Xm;rw[Zfa,B];rfl
 rw[this];exact G Post b k cs F
def ST.head{md:Region.Mode}{n g:Nat}{L:Array Bool->Act->Prop}:∀(f t:Nat) (listed:Array Bool) (a:Act),wpAnyL Q md ops w n L f listed a->(∀listed a t,L listed a->ST Q c ops R (Region.linearise.go md ops g t listed []) es a w)->
  ST Q c ops R (Region.linearise.go md ops (f+g) t listed []) es a w
 |0,t,listed,a,h,j=>by rw[Zdy];exact j _ _ _ h
 |f+1,t,listed,a,h,j=>by
  obtain⟨r,u⟩:=h;rw[show f+1+g=(f+g)+1 by omega];simp only[Region.linearise.go]
  change ST Q c ops R (match(Region.ready md ops listed)[t% P (Region.ready md ops listed)]? with
   |some i=>Region.linearise.go md ops (f+g) (t / P (Region.ready md ops listed)) (listed.setIfInBounds i xy) [i]
   |none=>[].reverse) es a w
  cases o:(Region.ready md ops listed)[t% P (Region.ready md ops listed)]? with
  |none=>
   exfalso;have d:0< P (Region.ready md ops listed):=Zg2.2 r;have:=Zfk.1 o;have:=ZfS t d;omega
  |some i=>
   simp only[];rw[linearise_go_acc,Zgy,ZfK];exact ST.still (u i (ZcT o)).2 λp q=>ST.head f _ _ p q j
def ST.last{n:Nat}{listed:Array Bool}{t:Nat}(h:Region.seqB .any ops 1 n listed=xy)(d:ST Q c ops R [n] es a w):ST Q c ops R (Region.linearise.go .any ops 1 t listed []) es a w:=by
 simp only[Region.seqB,ZcP,Zd8]at h;simp only[Region.linearise.go]
 change ST Q c ops R (match(Region.ready .any ops listed)[t% P (Region.ready .any ops listed)]? with
   |some i=>[i]
   |none=>[]) es a w
 grind
def SC.last{id n:Nat}{l:List Oper}(F:Q.follows .mixedOrders=xy)(z:Region.lexTailB .any l.toArray n=xy)(r:P l=n+1)(h:wpStill Q l.toArray {w with drawn:=w.drawn+1} (λq=>ST Q c l.toArray R [n] es q {w with drawn:=w.drawn+1}) (l.take n) a):SC Q c (.region id l.toArray xy) R es a w:=by
 refine SC.draw λt=> ?_;simp only[Region.lexTailB,ZcP,Zd8]at z;obtain⟨⟨⟨⟨o,B⟩,I⟩,C⟩,f⟩:=z;have G:n<P l:=by simpa using B
 have u:P (l.take n)=n:=ZbV;have D:l.toArray.size-n=1:=ZbV;rw[D]at f;have p:HeadInv .any l.toArray n (Array.replicate l.toArray.size xh):=
  ⟨Z1,λj N _ K=>(by grind [getD_replicate_false]),λt _ M=>getD_in ZbT (getD_replicate_false _ _)⟩
 have H:=wpAnyL_lex (md:=.any) (g:=1) o I C B (l.take n) 0 _ a (λj J=>by
  simp_all) Z0 p ZbU h
 simp only[Region.schedule,F,Bool.true_or,Zdv,Region.linearise];have e:l.toArray.size=P (l.take n)+1:=by rw[u];simpa using r
 rw[e];exact ST.head (L:=λd q=>Region.seqB .any l.toArray 1 n d=xy/\ST Q c l.toArray R [n] es q {w with drawn:=w.drawn+1}) _ t _ a (by rw[<-e];exact H) λlisted q O A=>ST.last A.1 A.2
end
section
variable {Q:Z4}{c:Nat}{Post:Za}{es:ZbS}{a:Act}{w:Z3}{x y:Code}{b:Ze}{k k':Zi}{cs:Z5}
def LS.two(h:LS Q c Post es (b.at a (.code x:: .code y::k)) cs w):LS Q c Post es (b.at a (.code (.seq x y)::k)) cs w:=LS.steps (.one step_seq) h
def LS.condT{o:Operand}(hc:a.eval o=.bool xy)(h:LS Q c Post es (b.at a (.code x::k)) cs w):LS Q c Post es (b.at a (.code (.cond o x y)::k)) cs w:=LS.steps (.one (step_cond hc)) h
def LS.condF{o:Operand}(hc:a.eval o=.bool xh)(h:LS Q c Post es (b.at a (.code y::k)) cs w):LS Q c Post es (b.at a (.code (.cond o x y)::k)) cs w:=LS.steps (.one (step_cond hc)) h
def LS.skip(h:LS Q c Post es (b.at a k) cs w):LS Q c Post es (b.at a (.code .skip::k)) cs w:=LS.steps (.one step_skip) h
def LS.block{id:Nat}(h:LS Q c Post es (b.at a (.code x:: .inBlock id::k)) cs w):LS Q c Post es (b.at a (.code (.block id x)::k)) cs w:=LS.steps (.one step_block) h
def LS.inBlock{id:Nat}(h:LS Q c Post es (b.at a k) cs w):LS Q c Post es (b.at a (.inBlock id::k)) cs w:=LS.steps (.one step_inBlock) h
theorem LS.inLoop(h:LS Q c Post es (b.at a (.code x:: .inLoop x::k)) cs w):LS Q c Post es (b.at a (.inLoop x::k)) cs w:=LS.steps (.one step_inLoop) h
def LS.exit{id:Nat}(d:exitTo id k=xk k')(h:LS Q c Post es (b.at a k') cs w):LS Q c Post es (b.at a (.code (.exit id)::k)) cs w:=LS.steps (.one (step_exit d)) h
def LS.loopI(I:Nat->List Ev->Act->World->Prop){n:Nat}(d:I n es a w)(f:∀n es a w,I n es a w->(∀m es a w,m<n->I m es a w->LS Q c Post es (b.at a (.inLoop x::k)) cs w)->LS Q c Post es (b.at a (.code x:: .inLoop x::k)) cs w):LS Q c Post es (b.at a (.code (.loop x)::k)) cs w:=by
 have key:∀n es a w,I n es a w->LS Q c Post es (b.at a (.code x:: .inLoop x::k)) cs w:=by
  intro n;induction n using Nat.strongRecOn with
  |_ n g=>grind [inLoop]
 exact LS.steps (.one step_loop) (key n es a w d)
def LS.wp{R:Zr}(h:x.wp Q R a w)(o:∀e f w',R e f w'->yX Q c Post es b k cs e f w'):LS Q c Post es (b.at a (.code x::k)) cs w:=by
 obtain⟨e,f,w',q,r⟩:=h b k (cs++[YH Q]);have g:=o e f w' q;cases e with
 |normal=>exact LS.steps r g
 |exit id=>obtain⟨k',j,n⟩:=g;exact LS.steps (r k' j) n
 |ret=>obtain⟨d,r⟩:=r;exact LS.steps r (g d)
 |_=>exact g.elim
def LS.regK(h:∀K:Act->World->Prop,(∀a w,LS Q c Post es (b.at a k) cs w->K a w)->x.wp Q (λe a w=>e=.normal/\K a w) a w):LS Q c Post es (b.at a (.code x::k)) cs w:=
 LS.wp (h _ λ_ _ q=>q) λe g w' ⟨d,f⟩=>by subst d;exact f
def LS.send{id n:Nat}{l:List Oper}{v:Z7}(B:Q.follows .mixedOrders=xy)(z:Region.lexTailB .any l.toArray n=xy)(q:P l=n+1){o:Oper}{g j:Operand}(D:l[n]?=xk o)(A:o.guard=xw)(p:o.op=.send g j)(u:ZU g=xy)(h2:ZU j=xy)
  (h:wpStill Q l.toArray {w with drawn:=w.drawn+1} (λd=>d.eval g=.chan (xk c)/\d.eval j=v/\LS Q c Post es (b.at (d.put o.dst undef) k) cs {w with drawn:=w.drawn+1}) (l.take n) a):LS Q c Post (.send v::es) (b.at a (.code (.region id l.toArray xy)::k)) cs w:=
 SC.last (R:=λf e d w'=>e=.normal/\LS Q c Post f (b.at d k) cs w') B z q (Cd (λd ⟨r,t,C⟩=>ST.ev (o:=o) ZbT (by simp[Region.wanted,A]) ⟨g,j,p,u,h2,r,t⟩ (.nil ⟨rfl,C⟩)) _ _ h) Post b k cs λf e d w' ⟨r,t⟩=>by subst r;exact t
def LS.region{id:Nat}{ops:Zq}(h:LS Q c Post es (b.at a (.inRegion ops (List.range ops.size)::k)) cs w):LS Q c Post es (b.at a (.code (.region id ops xh)::k)) cs w:=LS.steps (.one step_region) h
def LS.value{ops:Zq}{i:Nat}{l:Zb}{o:Oper}{v:Z7}{w':Z3}(g:ops[i]?=xk o)(j:Region.wanted o (yielded ops a.tmps)=xy)(h:(execOp a.eval o).run Q w=.ok (.value v) w')(f:LS Q c Post es (b.at (a.put o.dst v) (.inRegion ops l::k)) cs w'):LS Q c Post es (b.at a (.inRegion ops (i::l)::k)) cs w:=by
 have d:(b.at a (.inRegion ops (i::l)::k)).finish v=b.at (a.put o.dst v) (.inRegion ops l::k):=by grind [Frame.finish_at]
 refine LS.steps (.one (Zgb ?_)) f;simp_all[stepG_op,stepG.apply]
def LS.regEnd{ops:Zq}(h:LS Q c Post es (b.at a k) cs w):LS Q c Post es (b.at a (.inRegion ops []::k)) cs w:=LS.steps (.one step_region_end) h
def LS.event{ops:Zq}{i:Nat}{l:Zb}{o:Oper}{e:Ev}(n:ops[i]?=xk o)(p:Region.wanted o (yielded ops a.tmps)=xy)(q:match e with
   |.recv _|.closed _=>∃t f d g inf z,o.op=.recv t f xy/\ZU f=xy/\a.eval f=.chan (xk c)/\Q.underlying t=xk (.chan d g)/\Q.info? g=xk inf/\inf.zero=xk z/\∀h,e=.closed h->h=z
   |.send v=>∃f x,o.op=.send f x/\ZU f=xy/\ZU x=xy/\a.eval f=.chan (xk c)/\a.eval x=v)
  (r:LS Q c Post es (b.at (a.put o.dst e.val) (.inRegion ops l::k)) cs w):LS Q c Post (e::es) (b.at a (.inRegion ops (i::l)::k)) cs w:=by
 refine LS.ev ⟨ops,i,l,k,o,rfl,rfl,n,p,?_⟩ ?_;have j:∀x,(b.at a (.inRegion ops (i::l)::k)).eval x=a.eval x:=Frame.eval_at b a _;grind;simp_all[Xm,Zfa]
end
end
end Vm
end
section
namespace Vm
open Go
open Go.Proofs
noncomputable def ofC:Code:=match Try.f15.body with|some c=>c|none=>.skip
def BA(f:Zm):Option (List OT):=if f=43 then xk [.fz,.mem [.fz],.mem [.fz]]else sig f
def MQ:List Nat:=[0,1,2,3,16,4,5,6,7,23,25,8,24,29,9,10,48,47,49,12,46,13]
def Z7n:List Nat:=[15,63,76,79]
def vf(P:Z4):FC:= {P,ix:=pos (MQ++Z7n),fresh,sig:=BA,tr:=[3],fix:=[4,23],n:=82,keep:=MQ}
def y5:SS:=[(0,.fz)]
def r0N:SS:=[(0,.fz),(1,(.mem [.fz,.fz,.fz,.fz,.fz,.fz,.fz,.fz,.fz,.fz])),(2,(.mem [.nil,.nil])),(3,.fz)]
def r0:Stm:=
(.reg ⟨[],[],[(1,.m [(.fld (.sz (.s 0) 10) 0),(.fld (.sz (.s 0) 10) 1),(.fld (.sz (.s 0) 10) 2),(.fld (.sz (.s 0) 10) 3),(.fld (.sz (.s 0) 10) 4),(.fld (.sz (.s 0) 10) 5),(.fld (.sz (.s 0) 10) 6),(.fld (.sz (.s 0) 10) 7),(.fld (.sz (.s 0) 10) 8),(.fld (.sz (.s 0) 10) 9)]),(2,.m [(.c (.sl [])),(.c (.sl []))]),(3,.v (.c (.int .i64 (0))))]⟩)
def r0c:comp (vf (Yo Try.prog)) (Yk ofC [0]) y5=xk (r0,⟨xk r0N,[],[]⟩):=Z2
def rXS:SS:=[(0,.fz),(1,(.mem [.fz,.fz,.fz,.fz,.fz,.fz,.fz,.fz,.fz,.fz])),(2,(.mem [.nil,.nil])),(3,.fz)]
def In:SS:=[(0,.fz),(1,(.mem [.fz,.fz,.fz,.fz,.fz,.fz,.fz,.fz,.fz,.fz])),(2,(.mem [.nil,.nil])),(3,.fz),(16,.fz)]
def B9:SS:=[(0,.fz),(1,(.mem [.fz,.fz,.fz,.fz,.fz,.fz,.fz,.fz,.fz,.fz])),(2,(.mem [.nil,.nil])),(3,.fz),(16,.fz)]
def rX:Stm:=
(.seq
(.reg ⟨[.call 22 [] (.id 25) xh xh [(.mm 1 0 10)]],[],[(4,.v (.un .not (.s 22)))]⟩)
(.cond (.s 4)
 (.seq
 (.reg ⟨[],[([],(.ag [(.c (.sl [])),(.c (.sl []))]))],[(2,.m [(.c (.sl [])),(.c (.sl []))]),(3,.v (.c (.int .i64 (1))))]⟩)
 .ret)
 .skip))
def rXc:comp (vf (Yo Try.prog)) (Yk ofC [1,0]) rXS=xk (rX,⟨xk In,[],[B9]⟩):=Z2
def Ki:SS:=[(1,(.mem [.fz,.fz,.fz,.fz,.fz,.fz,.fz,.fz,.fz,.fz])),(2,(.mem [.fz,.fz])),(3,.fz)]
def r5N:SS:=[(1,(.mem [.fz,.fz,.fz,.fz,.fz,.fz,.fz,.fz,.fz,.fz])),(2,(.mem [.fz,.fz])),(3,.fz),(5,.nil)]
def r5:Stm:=
(.reg ⟨[],[],[(6,.v (.c (.sl [])))]⟩)
def r5c:comp (vf (Sol.prog)) (Yk ofC [1,1,1,1,0]) Ki=xk (r5,⟨xk r5N,[],[]⟩):=Z2
def r6S:SS:=[(1,(.mem [.fz,.fz,.fz,.fz,.fz,.fz,.fz,.fz,.fz,.fz])),(2,(.mem [.fz,.fz])),(3,.fz),(5,.nil)]
def r6N:SS:=[(1,(.mem [.fz,.fz,.fz,.fz,.fz,.fz,.fz,.fz,.fz,.fz])),(2,(.mem [.fz,.fz])),(3,.fz),(5,.nil),(6,(.mem [(.own 84)]))]
def r6:Stm:=
(.reg ⟨[],[],[(7,.m [(.c (.mp 0 [] []))])]⟩)
def r6c:comp (vf (Sol.prog)) (Yk ofC [1,1,1,1,1,0]) r6S=xk (r6,⟨xk r6N,[],[]⟩):=Z2
def r7S:SS:=[(1,(.mem [.fz,.fz,.fz,.fz,.fz,.fz,.fz,.fz,.fz,.fz])),(2,(.mem [.fz,.fz])),(3,.fz),(5,.nil),(6,(.mem [(.own 84)]))]
def r7N:SS:=[(1,(.mem [.fz,.fz,.fz,.fz,.fz,.fz,.fz,.fz,.fz,.fz])),(2,(.mem [.fz,.fz])),(3,.fz),(5,.nil),(6,(.mem [(.own 84)])),(7,(.mem [(.own 85)]))]
def r7:Stm:=
(.reg ⟨[],[],[(8,.m [(.c (.mp 0 [] []))])]⟩)
def r7c:comp (vf (Sol.prog)) (Yk ofC [1,1,1,1,1,1,0]) r7S=xk (r7,⟨xk r7N,[],[]⟩):=Z2
def B6:SS:=[(1,(.mem [.fz,.fz,.fz,.fz,.fz,.fz,.fz,.fz,.fz,.fz])),(2,(.mem [.fz,.fz])),(3,.fz),(5,(.own 87)),(6,(.mem [(.own 84)])),(7,(.mem [(.own 85)])),(24,.fz),(25,.fz)]
def rDN:SS:=[(1,(.mem [.fz,.fz,.fz,.fz,.fz,.fz,.fz,.fz,.fz,.fz])),(2,(.mem [.fz,.fz])),(3,.fz),(5,(.own 87)),(6,(.mem [(.own 84)])),(7,(.mem [(.own 85)])),(25,.fz),(8,(.mem [.fz,.fz,.fz,.fz,.fz,.fz,.fz])),(24,.fz),(29,.fz)]
def B7:SS:=[(1,(.mem [.fz,.fz,.fz,.fz,.fz,.fz,.fz,.fz,.fz,.fz])),(2,(.mem [.fz,.fz])),(3,.fz),(5,(.own 87)),(6,(.mem [(.own 84)])),(7,(.mem [(.own 85)])),(24,.fz),(25,.fz)]
def rD:Stm:=
(.seq
(.cond (.s 10)
 .skip
 (.exit 0))
(.block 1
 (.seq
 (.reg ⟨[],[],[(11,.m [(.fld (.sz (.ext (.s 12) 0) 7) 0),(.fld (.sz (.ext (.s 12) 0) 7) 1),(.fld (.sz (.ext (.s 12) 0) 7) 2),(.fld (.sz (.ext (.s 12) 0) 7) 3),(.fld (.sz (.ext (.s 12) 0) 7) 4),(.fld (.sz (.ext (.s 12) 0) 7) 5),(.fld (.sz (.ext (.s 12) 0) 7) 6)])]⟩)
 (.seq
 (.seq
 (.reg ⟨[],[],[(13,.v (.m 11 3))]⟩)
 (.cond (.s 13)
  (.seq
  (.reg ⟨[],[],[(8,.m [(.mput (.i .u64) (.m 8 0) (.m 11 5) (.m 11 4))])]⟩)
  (.exit 1))
  .skip))
 (.seq
 (.reg ⟨[],[],[(7,.m [(.mput (.i .u64) (.m 7 0) (.m 11 5) (.len (.s 6)))])]⟩)
 (.reg ⟨[],[],[(6,.v (.app (.s 6) (.lit [(.mm 11 0 7)]) 7))]⟩))))))
def Im:comp (vf (Sol.prog)) (Yk ofC [1,1,1,1,1,1,1,0,1,0,0,1]) B6=xk (rD,⟨xk rDN,[(0,B7)],[]⟩):=Z2
def Il:SS:=[(1,(.mem [.fz,.fz,.fz,.fz,.fz,.fz,.fz,.fz,.fz,.fz])),(2,(.mem [.fz,.fz])),(3,.fz),(5,.fz),(6,(.mem [.fz])),(7,(.mem [.fz]))]
def B5:SS:=[(1,(.mem [.fz,.fz,.fz,.fz,.fz,.fz,.fz,.fz,.fz,.fz])),(2,(.mem [.fz,.fz])),(3,.fz),(5,.fz),(6,(.mem [.fz])),(7,(.mem [.fz])),(9,(.clo 43 [7,6])),(10,(.mem [.fz,.fz])),(48,.fz),(47,.fz),(49,.fz),(46,.fz)]
def rC:Stm:=
(.seq
(.reg ⟨[],[],[(14,.no)]⟩)
(.seq
(.reg ⟨[],[],[(14,.no),(15,.m [(.c (.sl [])),(.c (.sl []))])]⟩)
(.seq
(.seq
(.reg ⟨[],[],[(14,.no),(16,.v (.c (.int .i64 (0)))),(17,.v (.len (.s 6))),(20,.v (.s 6))]⟩)
(.block 2
 (.loop [1,2,3,6,7,8,14,15,16,17,20]
  (.seq
  (.reg ⟨[],[],[(14,.no),(18,.v (.bin .lss (.s 16) (.s 17)))]⟩)
  (.seq
  (.cond (.s 18)
   .skip
   (.exit 2))
  (.seq
  (.block 3
   (.seq
   (.reg ⟨[],[],[(14,.no),(19,.m [(.fld (.flds (.idx (.s 20) (.s 16) 7) 0 7) 0),(.fld (.flds (.idx (.s 20) (.s 16) 7) 0 7) 1),(.fld (.flds (.idx (.s 20) (.s 16) 7) 0 7) 2),(.fld (.flds (.idx (.s 20) (.s 16) 7) 0 7) 3),(.fld (.flds (.idx (.s 20) (.s 16) 7) 0 7) 4),(.fld (.flds (.idx (.s 20) (.s 16) 7) 0 7) 5),(.fld (.flds (.idx (.s 20) (.s 16) 7) 0 7) 6)])]⟩)
   (.seq
   (.reg ⟨[],[],[(14,.no),(21,.v (.m 19 2))]⟩)
   (.reg ⟨[.callm 23 [] (.id 43) [.fz,(.mem [.fz]),(.mem [.fz])] [(.slc (.m 19 6) (.c (.int .i64 (0))) (.s 21) 1),(.ag [(.m 8 0)]),(.ag [(.m 7 0)])]],[],[(7,.m [(.fld (.ext (.s 23) 2) 0)]),(8,.m [(.fld (.ext (.s 23) 1) 0)]),(14,.no),(15,.m [(.app (.m 15 0) (.lit [(.ag [(.one (.ext (.s 23) 0)),(.slcl (.m 19 6) (.s 21) 1)])]) 2),(.m 15 1)])]⟩))))
  (.reg ⟨[],[],[(14,.no),(16,.v (.bin .add (.s 16) (.c (.int .i64 (1)))))]⟩)))))))
(.seq
(.reg ⟨[.callm 24 [] (.id 43) [.fz,(.mem [.fz]),(.mem [.fz])] [(.m 1 9),(.ag [(.m 8 0)]),(.ag [(.m 7 0)])]],[],[(7,.m [(.fld (.ext (.s 24) 2) 0)]),(8,.m [(.fld (.ext (.s 24) 1) 0)]),(14,.no),(15,.m [(.m 15 0),(.one (.ext (.s 24) 0))])]⟩)
(.seq
(.reg ⟨[.call 25 [] (.id 17) xh xh [(.mm 15 0 2)]],[],[(2,.m [(.fld (.sz (.ext (.s 25) 0) 2) 0),(.fld (.sz (.ext (.s 25) 0) 2) 1)]),(3,.v (.fl (.ext (.s 25) 1))),(14,.no)]⟩)
.ret)))))
def rCc:comp (vf (Sol.prog)) (Yk ofC [1,1,1,1,1,1,1,1]) Il=xk (rC,⟨xw,[],[B5]⟩):=Z2
def HQ:Fn:=⟨16,[0,1,2,4,5,14,13,15,7,12,19,8,9,10,11,34],
(.seq
(.reg ⟨[],[],[(3,.v (.c (.sl [])))]⟩)
(.seq
(.reg ⟨[],[],[(4,.v (.c (.sl [])))]⟩)
(.seq
(.seq
(.reg ⟨[],[],[(5,.v (.c (.int .i64 (0)))),(6,.v (.len (.s 0))),(9,.v (.s 0))]⟩)
(.block 0
 (.loop [0,1,2,3,4,5,6,9]
  (.seq
  (.reg ⟨[],[],[(7,.v (.bin .lss (.s 5) (.s 6)))]⟩)
  (.seq
  (.cond (.s 7)
   .skip
   (.exit 0))
  (.seq
  (.block 1
   (.seq
   (.reg ⟨[],[],[(8,.v (.fld (.idx (.s 9) (.s 5) 1) 0))]⟩)
   (.seq
   (.seq
   (.reg ⟨[],[],[(10,.v (.bin .eql (.s 8) (.c (.int .u64 (0)))))]⟩)
   (.cond (.s 10)
    (.seq
    (.reg ⟨[],[],[(4,.v (.app (.s 4) (.lit [(.c (.int .i64 (-1)))]) 1))]⟩)
    (.exit 1))
    .skip))
   (.seq
   (.reg ⟨[.call 16 [] (.id 44) xh xh [(.s 8)]],[],[(11,.v (.ext (.s 16) 0)),(12,.v (.ext (.s 16) 1))]⟩)
   (.seq
   (.seq
   (.reg ⟨[],[],[(13,.v (.ext (.lk (.i .u64) (.m 1 0) (.s 11) (.int .u64 (0)) xy) 0)),(14,.v (.ext (.lk (.i .u64) (.m 1 0) (.s 11) (.int .u64 (0)) xy) 1))]⟩)
   (.seq
   (.reg ⟨[],[],[(15,.v (.s 14))]⟩)
   (.cond (.s 15)
    (.reg ⟨[],[],[(11,.v (.s 13))]⟩)
    .skip)))
   (.reg ⟨[],[],[(4,.v (.app (.s 4) (.lit [(.one (.lk (.i .u64) (.m 2 0) (.s 11) (.int .i64 (0)) xh))]) 1))]⟩))))))
  (.reg ⟨[],[],[(5,.v (.bin .add (.s 5) (.c (.int .i64 (1)))))]⟩)))))))
(.seq
(.reg ⟨[],[],[(3,.v (.s 4)),(4,.no)]⟩)
.ret)))),
[(3,.v)]⟩
def PQ:ZK Sol.prog fresh sig [.fz,(.mem [.fz]),(.mem [.fz])] (TM [.fz,(.mem [.fz]),(.mem [.fz])]) Try.f43=xk HQ:=Z2
def Hb:Fn:=⟨6,[0,1,2,3,4,11],
pQ [pR [(1,pS 0 10),pV 2 (pI 0)],pC [pK 6 51 [.mm 1 0 10]] [pV 3 (.ext (.s 6) 0),pV 4 (.ext (.s 6) 1)],pQ [pR [pV 5 (.un .not (.s 4))]] (.cond (.s 5) (pQ [pR [pV 2 (pI 0)]] .ret) .skip),pC [pK 7 52 [.s 3]] [pV 2 (.s 7)]] .ret,[(2,.v)]⟩
def P7:ZK Sol.prog fresh sig [.fz] [] Try.f22=xk Hb:=Z2
def Hd:Fn:=⟨5,[0,1,2,3,4],
pQ [pR [(1,pS 0 10),pV 2 pF],pC [pK 5 51 [.mm 1 0 10]] [pV 3 (.ext (.s 5) 0),pV 4 (.ext (.s 5) 1)],pR [pV 2 (.s 4)]] .ret,[(2,.v)]⟩
def P9:ZK Sol.prog fresh sig [.fz] [] Try.f25=xk Hd:=Z2
def He:Fn:=⟨8,[0,1,2,4,5,6,7,22],
pQ [pR [(2,pS 0 10),pV 3 pN,pV 4 (pI 0)],pC [pK 8 51 [.mm 2 0 10]] [pV 5 (.ext (.s 8) 0),pV 6 (.ext (.s 8) 1)],pQ [.reg ⟨[.lt 9 [] (.un .not (.s 6)),.lt 10 [] (.ite (.s 9) pT (.bin .lss (.s 1) (pI 1)))],[([(9,xh)],.bin .lss (.s 1) (pI 1)),([(10,xh)],.bin .gtr (.s 1) (pI 4))],[pV 7 (.ite (.s 10) pT (.bin .gtr (.s 1) (pI 4)))]⟩] (.cond (.s 7) (pQ [pR [pV 4 (pI 1)]] .ret) .skip),pR [pV 3 (.fld (.ai (.flds (.star (.s 5)) 17 4) (.bin .sub (.s 1) (pI 1)) 4 1 xy) 0),pV 4 (pI 0)]] .ret,[(3,.v),(4,.v)]⟩
def Pa:ZK Sol.prog fresh sig [.fz,.fz] [] Try.f27=xk He:=Z2
def Ho:Fn:=⟨12,[0,1,2,3,13,4,16,15,17,6,14,24],
pQ [pR [(1,pS 0 10),pV 2 (.c (.nul 0)),pV 3 pF],.reg ⟨[pK 12 64 [.mm 1 0 10]],[([],.ag [.fld (.mm 1 0 10) 0,.fld (.mm 1 0 10) 1,.fld (.mm 1 0 10) 2,.fld (.mm 1 0 10) 3,.fld (.mm 1 0 10) 4,.fld (.mm 1 0 10) 5,.fld (.mm 1 0 10) 6,.fld (.mm 1 0 10) 7,.fld (.mm 1 0 10) 8,.fld (.mm 1 0 10) 9,.fld (.sz (.s 12) 7) 0,.fld (.sz (.s 12) 7) 1,.fld (.sz (.s 12) 7) 2,.fld (.sz (.s 12) 7) 3,.fld (.sz (.s 12) 7) 4,.fld (.sz (.s 12) 7) 5,.fld (.sz (.s 12) 7) 6,pN,pN,pN,pN,.c (.mp 0 [] []),.c (.mp 0 [] [])])],[(5,.m [.fld (.mm 1 0 10) 0,.fld (.mm 1 0 10) 1,.fld (.mm 1 0 10) 2,.fld (.mm 1 0 10) 3,.fld (.mm 1 0 10) 4,.fld (.mm 1 0 10) 5,.fld (.mm 1 0 10) 6,.fld (.mm 1 0 10) 7,.fld (.mm 1 0 10) 8,.fld (.mm 1 0 10) 9,.fld (.sz (.s 12) 7) 0,.fld (.sz (.s 12) 7) 1,.fld (.sz (.s 12) 7) 2,.fld (.sz (.s 12) 7) 3,.fld (.sz (.s 12) 7) 4,.fld (.sz (.s 12) 7) 5,.fld (.sz (.s 12) 7) 6,pN,pN,pN,pN,.c (.mp 0 [] []),.c (.mp 0 [] [])])]⟩,pQ [pC [pK 10 82 []] [pV 6 (pI 0),pV 7 (.len (.s 10))]] (.block 0 (.loop [0,1,2,3,5,6,7,10] (pQ [pR [pV 8 (.bin .lss (.s 6) (.s 7))],.cond (.s 8) .skip (.exit 0),.block 1 (pQ [pR [(9,.m [.fld (.flds (.idx (.s 10) (.s 6) 1) 0 1) 0])],pC [.callm 13 [] (.e (.m 9 0)) [.mem [.fz,.fz,.fz,.fz,.fz,.fz,.fz,.fz,.fz,.fz,.fz,.fz,.fz,.fz,.fz,.fz,.fz,.fz,.fz,.fz,.fz,.own 84,.own 115]] [.ag [.m 5 0,.m 5 1,.m 5 2,.m 5 3,.m 5 4,.m 5 5,.m 5 6,.m 5 7,.m 5 8,.m 5 9,.m 5 10,.m 5 11,.m 5 12,.m 5 13,.m 5 14,.m 5 15,.m 5 16,.m 5 17,.m 5 18,.m 5 19,.m 5 20,.m 5 21,.m 5 22]]] [(5,pM (.ext (.s 13) 1) 23),pV 11 (.un .not (.ext (.s 13) 0))]] (.cond (.s 11) (pQ [pR [pV 2 (.c (.nul 0)),pV 3 pF]] .ret) .skip))] (pR [pV 6 (.bin .add (.s 6) (pI 1))])))),pR [pV 2 (.pt xw [.m 5 0,.m 5 1,.m 5 2,.m 5 3,.m 5 4,.m 5 5,.m 5 6,.m 5 7,.m 5 8,.m 5 9,.m 5 10,.m 5 11,.m 5 12,.m 5 13,.m 5 14,.m 5 15,.m 5 16,.m 5 17,.m 5 18,.m 5 19,.m 5 20,.m 5 21,.m 5 22]),pV 3 pT,(5,.no)]] .ret,[(2,.v),(3,.v)]⟩
def Ps:ZK Sol.prog fresh sig [.fz] [] Try.f51=xk Ho:=Z2
def Hq:Fn:=⟨11,[0,2,3,4,8,19,18,20,6,17,25],
pQ [pR [pV 1 (pI 0)],pR [pV 2 (pI 0)],pQ [pR [pV 3 (pI 3)]] (.block 0 (.loop [0,1,2,3] (pQ [pQ [pR [pV 4 (.bin .leq (.s 3) (pI 4))]] (.cond (.s 4) .skip (.exit 0)),.block 1 (pQ [pR [pV 5 (pI 0),pV 6 (.len (.fld (.ai (.flds (.star (.s 0)) 17 4) (.bin .sub (.s 3) (pI 1)) 4 1 xy) 0)),pV 9 (.fld (.ai (.flds (.star (.s 0)) 17 4) (.bin .sub (.s 3) (pI 1)) 4 1 xy) 0)]] (.block 2 (.loop [0,1,2,3,4,5,6,9] (pQ [pR [pV 7 (.bin .lss (.s 5) (.s 6))],.cond (.s 7) .skip (.exit 2),.block 3 (pQ [pR [(8,pM (.flds (.idx (.s 9) (.s 5) 5) 0 5) 5)],pR [pV 10 (.un .not (.m 8 3))]] (.cond (.s 10) (pR [pV 2 (.bin .add (.s 2) (.bin .add (pI 1) (.m 8 1)))]) .skip))] (pR [pV 5 (.bin .add (.s 5) (pI 1))])))))] (pR [pV 3 (.bin .add (.s 3) (pI 1))])))),pR [pV 1 (.s 2)]] .ret,[(1,.v)]⟩
def Pt:ZK Sol.prog fresh sig [.fz] [] Try.f52=xk Hq:=Z2
def HI:Fn:=⟨1,[0],
pQ [pR [pV 0 pN],pR [pV 0 (.lit [.ag [.c (.fn 103)],.ag [.c (.fn 104)],.ag [.c (.fn 105)],.ag [.c (.fn 106)],.ag [.c (.fn 107)],.ag [.c (.fn 108)],.ag [.c (.fn 109)],.ag [.c (.fn 110)]])]] .ret,[(0,.v)]⟩
def PJ:ZK Sol.prog fresh sig [] [] Try.f82=xk HI:=Z2
def GT:Fn:=⟨2,[0,2],
pQ [pR [pV 1 pF],.reg ⟨[pK 2 65 [.flds (.star (.s 0)) 10 7],.lt 3 [] (.s 2),.lt 4 [] (.ite (.s 3) (.bin .leq (.len (.fld (.star (.s 0)) 9)) (pI 16)) pF),.lt 5 [] (.ite (.s 4) (.bin .geq (.fld (.star (.s 0)) 4) (pI 0)) pF)],[([(3,xy)],.bin .leq (.len (.fld (.star (.s 0)) 9)) (pI 16)),([(4,xy)],.bin .geq (.fld (.star (.s 0)) 4) (pI 0)),([(5,xy)],.bin .leq (.fld (.star (.s 0)) 4) (.len (.fld (.star (.s 0)) 5)))],[pV 1 (.ite (.s 5) (.bin .leq (.fld (.star (.s 0)) 4) (.len (.fld (.star (.s 0)) 5))) pF)]⟩] .ret,[(1,.v)]⟩
def OF:ZK Sol.prog fresh sig [.fz] [] Try.f103=xk GT:=Z2
def K1:Fn:=⟨3,[0,2,7],
pQ [pR [pV 1 pF],pQ [pR [pV 2 (.fld (.star (.s 0)) 3)]] (.cond (.s 2) (pQ [pR [pV 1 (.bin .lss (.fld (.star (.s 0)) 4) (.len (.fld (.star (.s 0)) 5)))]] .ret) .skip),.reg ⟨[.lt 3 [] (.bin .eql (.len (.fld (.star (.s 0)) 7)) (pI 0)),.lt 4 [] (.ite (.s 3) (.bin .eql (.len (.fld (.star (.s 0)) 8)) (pI 0)) pF)],[([(3,xy)],.bin .eql (.len (.fld (.star (.s 0)) 8)) (pI 0)),([(4,xy)],.bin .eql (.fld (.star (.s 0)) 4) (.len (.fld (.star (.s 0)) 5)))],[pV 1 (.ite (.s 4) (.bin .eql (.fld (.star (.s 0)) 4) (.len (.fld (.star (.s 0)) 5))) pF)]⟩] .ret,[(1,.v)]⟩
def OG:ZK Sol.prog fresh sig [.fz] [] Try.f104=xk K1:=Z2
def GU:Fn:=⟨11,[0,2,3,8,9,4,5,6,7,18,39],
pQ [pR [pV 1 pF],pR [pV 2 pT],.skip,pQ [pR [pV 3 (pI 0)]] (.block 0 (.loop [0,1,2,3] (pQ [pR [pV 4 (.bin .lss (.s 3) (pI 4))],.cond (.s 4) .skip (.exit 0),.block 1 (pQ [pR [pV 5 (.s 3)],pR [pV 6 (.bin .add (.s 5) (pI 1))],pR [pV 7 pN],pR [pV 8 (pI 0)],pQ [.reg ⟨[.lt 11 [] (.bin .eql (.s 6) (pI 1))],[([(11,xh)],.bin .eql (.s 6) (pI 2))],[pV 9 (.ite (.s 11) pT (.bin .eql (.s 6) (pI 2)))]⟩] (.cond (.s 9) (pC [pK 12 118 [.pt xw [.m 0 0,.m 0 1,.m 0 2,.m 0 3,.m 0 4,.m 0 5,.m 0 6,.m 0 7,.m 0 8,.m 0 9,.m 0 10,.m 0 11,.m 0 12,.m 0 13,.m 0 14,.m 0 15,.m 0 16,.m 0 17,.m 0 18,.m 0 19,.m 0 20,.m 0 21,.m 0 22],.s 6],.call 13 [] (.id 117) xy xh [.s 12]] [pV 7 (.ext (.s 13) 0),pV 8 (.ext (.s 13) 1)]) (pC [pK 14 118 [.pt xw [.m 0 0,.m 0 1,.m 0 2,.m 0 3,.m 0 4,.m 0 5,.m 0 6,.m 0 7,.m 0 8,.m 0 9,.m 0 10,.m 0 11,.m 0 12,.m 0 13,.m 0 14,.m 0 15,.m 0 16,.m 0 17,.m 0 18,.m 0 19,.m 0 20,.m 0 21,.m 0 22],.s 6],pK 15 118 [.pt xw [.m 0 0,.m 0 1,.m 0 2,.m 0 3,.m 0 4,.m 0 5,.m 0 6,.m 0 7,.m 0 8,.m 0 9,.m 0 10,.m 0 11,.m 0 12,.m 0 13,.m 0 14,.m 0 15,.m 0 16,.m 0 17,.m 0 18,.m 0 19,.m 0 20,.m 0 21,.m 0 22],.s 6],pK 16 120 [.pt xw [.m 0 0,.m 0 1,.m 0 2,.m 0 3,.m 0 4,.m 0 5,.m 0 6,.m 0 7,.m 0 8,.m 0 9,.m 0 10,.m 0 11,.m 0 12,.m 0 13,.m 0 14,.m 0 15,.m 0 16,.m 0 17,.m 0 18,.m 0 19,.m 0 20,.m 0 21,.m 0 22],.s 15],.call 17 [] (.id 119) xy xh [.s 14,.s 16]] [pV 7 (.ext (.s 17) 0),pV 8 (.ext (.s 17) 1)])),pQ [pR [pV 10 (.bin .neq (.s 8) (pI 0))]] (.cond (.s 10) (pQ [pR [pV 2 pF]] (.exit 0)) .skip)] (pC [.callm 18 [] (.id 121) [.mem [.fz,.fz,.fz,.fz,.fz,.fz,.fz,.fz,.fz,.fz,.fz,.fz,.fz,.fz,.fz,.fz,.fz,.fz,.fz,.fz,.fz,.own 84,.own 115],.fz,.fz] [.ag [.m 0 0,.m 0 1,.m 0 2,.m 0 3,.m 0 4,.m 0 5,.m 0 6,.m 0 7,.m 0 8,.m 0 9,.m 0 10,.m 0 11,.m 0 12,.m 0 13,.m 0 14,.m 0 15,.m 0 16,.m 0 17,.m 0 18,.m 0 19,.m 0 20,.m 0 21,.m 0 22],.s 6,.s 7]] [(0,pM (.ext (.s 18) 1) 23)]))] (pR [pV 3 (.bin .add (.s 3) (pI 1))])))),pR [pV 1 (.s 2)]] .ret,[(1,.v)]⟩
def OH:ZK Sol.prog fresh sig [(.mem [.fz,.fz,.fz,.fz,.fz,.fz,.fz,.fz,.fz,.fz,.fz,.fz,.fz,.fz,.fz,.fz,.fz,.fz,.fz,.fz,.fz,(.own 84),(.own 115)])] [(0,(.mem [.fz,.fz,.fz,.fz,.fz,.fz,.fz,.fz,.fz,.fz,.fz,.fz,.fz,.fz,.fz,.fz,.fz,.fz,.fz,.fz,.fz,(.own 84),(.own 115)]))] Try.f105=xk GU:=Z2
def Ao:Fn:=⟨13,[0,2,12,3,4,15,26,25,27,6,24,32,46],
pQ [pR [pV 1 pF],pQ [pR [pV 2 (.un .not (.fld (.star (.s 0)) 3))]] (.cond (.s 2) (pQ [pR [pV 1 pT]] .ret) .skip),pR [pV 3 (.c (.mp 0 [] []))],pQ [pR [pV 4 (pI 3)]] (.block 0 (.loop [0,1,2,3,4] (pQ [pQ [pR [pV 5 (.bin .leq (.s 4) (pI 4))]] (.cond (.s 5) .skip (.exit 0)),.block 1 (pQ [pR [pV 6 (pI 0),pV 7 (.len (.fld (.ai (.flds (.star (.s 0)) 17 4) (.bin .sub (.s 4) (pI 1)) 4 1 xy) 0)),pV 10 (.fld (.ai (.flds (.star (.s 0)) 17 4) (.bin .sub (.s 4) (pI 1)) 4 1 xy) 0)]] (.block 2 (.loop [0,1,2,3,4,5,6,7,10] (pQ [pR [pV 8 (.bin .lss (.s 6) (.s 7))],.cond (.s 8) .skip (.exit 2),.block 3 (pQ [pR [(9,pM (.flds (.idx (.s 10) (.s 6) 5) 0 5) 5)],pQ [pR [pV 11 (.un .not (.m 9 3))]] (.cond (.s 11) (.exit 3) .skip),pQ [.reg ⟨[.lt 13 [] (.bin .neq (.lk (.i .u64) (.fld (.star (.s 0)) 21) (.m 9 4) (.int .i64 0) xh) (pI 1))],[([(13,xh)],.fl (.lk (.i .u64) (.s 3) (.m 9 4) (.bool xh) xh))],[pV 12 (.ite (.s 13) pT (.fl (.lk (.i .u64) (.s 3) (.m 9 4) (.bool xh) xh)))]⟩] (.cond (.s 12) (pQ [pR [pV 1 pF]] .ret) .skip)] (pR [pV 3 (.mput (.i .u64) (.s 3) (.m 9 4) pT)]))] (pR [pV 6 (.bin .add (.s 6) (pI 1))])))))] (pR [pV 4 (.bin .add (.s 4) (pI 1))])))),pR [pV 1 (.bin .eql (.mlen (.s 3)) (.len (.fld (.ai (.flds (.star (.s 0)) 17 4) (pI 0) 4 1 xy) 0)))]] .ret,[(1,.v)]⟩
def OI:ZK Sol.prog fresh sig [.fz] [] Try.f106=xk Ao:=Z2
def GV:Fn:=⟨9,[0,1,2,11,10,12,4,9,18],
pQ [pR [(1,.m [.one (.s 0)]),pV 2 pF],pQ [pR [pV 3 (pI 0),pV 4 (.len (.fld (.star (.m 1 0)) 9)),pV 7 (.fld (.star (.m 1 0)) 9)]] (.block 0 (.loop [0,1,2,3,4,7] (pQ [pR [pV 5 (.bin .lss (.s 3) (.s 4))],.cond (.s 5) .skip (.exit 0),.block 1 (pQ [pR [pV 6 (.fld (.idx (.s 7) (.s 3) 1) 0)],pC [pK 9 122 [.m 1 0,.s 6,pI 1,pI 2]] [pV 8 (.un .not (.s 9))]] (.cond (.s 8) (pQ [pR [pV 2 pF]] .ret) .skip))] (pR [pV 3 (.bin .add (.s 3) (pI 1))])))),pC [.call 10 [] (.id 123) xh xy [.m 1 0,pI 2,.pt (xk 124) [.pt xw [.m 1 0]]],.lt 11 [] (.s 10),.call 12 [(11,xy)] (.id 123) xh xy [.m 1 0,pI 1,.pt (xk 125) [.pt xw [.m 1 0]]]] [pV 2 (.ite (.s 11) (.s 12) pF)]] .ret,[(2,.v)]⟩
def OJ:ZK Sol.prog fresh sig [.fz] [] Try.f107=xk GV:=Z2
def GW:Fn:=⟨3,[0,1,2],
pQ [pR [(1,.m [.one (.s 0)]),pV 2 pF],pC [.call 3 [] (.id 123) xh xy [.m 1 0,pI 1,.pt (xk 126) [.pt xw [.m 1 0]]]] [pV 2 (.s 3)]] .ret,[(2,.v)]⟩
def OK:ZK Sol.prog fresh sig [.fz] [] Try.f108=xk GW:=Z2
def GX:Fn:=⟨4,[0,1,2,3],
pQ [pR [(1,.m [.one (.s 0)]),pV 2 pF],pR [(3,.no)],pC [.call 4 [] (.id 123) xh xy [.m 1 0,pI 3,.pt (xk 127) [.pt xw [.m 1 0]]],.lt 5 [] (.s 4),.call 6 [(5,xy)] (.id 123) xh xy [.m 1 0,pI 4,.pt (xk 127) [.pt xw [.m 1 0]]]] [pV 2 (.ite (.s 5) (.s 6) pF),(3,.no)]] .ret,[(2,.v)]⟩
def OL:ZK Sol.prog fresh sig [.fz] [] Try.f109=xk GX:=Z2
def GY:Fn:=⟨2,[0,2],
pQ [pR [pV 1 pF],pC [pK 2 52 [.s 0]] [pV 1 (.bin .leq (.bin .add (.bin .add (.len (.fld (.star (.s 0)) 5)) (.len (.fld (.star (.s 0)) 6))) (.s 2)) (.fld (.star (.s 0)) 1))]] .ret,[(1,.v)]⟩
def OM:ZK Sol.prog fresh sig [.fz] [] Try.f110=xk GY:=Z2
def H1:Fn:=⟨3,[0,1,4],
pQ [pR [pV 2 pN],pR [pV 2 (.ai (.ag [.fld (.star (.s 0)) 5,.fld (.star (.s 0)) 6,.fld (.star (.s 0)) 7,.fld (.star (.s 0)) 8]) (.bin .sub (.s 1) (pI 1)) 4 1 xh)]] .ret,[(2,.v)]⟩
def OP:ZK Sol.prog fresh sig [.fz,.fz] [] Try.f118=xk H1:=Z2
def H2:Fn:=⟨14,[0,1,4,5,6,15,7,8,9,25,10,11,36,52],
pQ [pR [pV 2 pN],pR [pV 3 pN],pQ [pR [pV 4 (pI 0)]] (.block 0 (.loop [0,1,2,3,4] (pQ [pQ [pR [pV 5 (.bin .lss (.s 4) (.len (.s 1)))]] (.cond (.s 5) .skip (.exit 0))] (.block 1 (pQ [pR [(6,.m [pI 0,pI 0])],pQ [pC [pK 14 44 [.fld (.idx (.s 1) (.s 4) 1) 0]] [pV 7 (.ext (.s 14) 0),pV 8 (.ext (.s 14) 1)],pR [pV 9 (.bin .eql (.s 8) (pI 0))]] (.cond (.s 9) (pQ [pR [(10,pM (.sz (.ext (.lk (.i .u64) (.fld (.star (.s 0)) 22) (.s 7) (.agg [.int .i64 0,.int .i64 0]) xy) 0) 2) 2),pV 11 (.ext (.lk (.i .u64) (.fld (.star (.s 0)) 22) (.s 7) (.agg [.int .i64 0,.int .i64 0]) xy) 1)],pQ [pR [pV 12 (.un .not (.s 11))]] (.cond (.s 12) (pQ [pR [pV 2 (.s 3),(3,.no)]] .ret) .skip),pR [(6,pM (.mm 10 0 2) 2)]] (pR [pV 3 (.app (.s 3) (.lit [.mm 6 0 2]) 2)])) (pQ [pC [pK 15 69 [.fld (.idx (.s 1) (.s 4) 1) 0]] [(6,pM (.sz (.ext (.s 15) 0) 2) 2),pV 8 (.ext (.s 15) 1)],pR [pV 13 (.bin .neq (.s 8) (pI 0))]] (.cond (.s 13) (pQ [pR [pV 2 (.s 3),(3,.no)]] .ret) .skip)))] (pR [pV 4 (.bin .add (.s 4) (.bin .add (pI 1) (.m 6 0)))])))))),pR [pV 2 (.s 3),(3,.no)]] .ret,[(2,.v)]⟩
def OQ:ZK Sol.prog fresh sig [.fz,.fz] [] Try.f120=xk H2:=Z2
def K4:Fn:=⟨11,[0,1,2,19,18,20,7,17,8,9,42],
pQ [.reg ⟨[],[([],.ai (.c (.agg [(.bool xy),(.bool xy),(.bool xy),(.bool xy)])) (.bin .sub (.s 1) (pI 1)) 4 1 xh)],[(0,.m [.m 0 0,.m 0 1,.m 0 2,.m 0 3,.m 0 4,.m 0 5,.m 0 6,.m 0 7,.m 0 8,.m 0 9,.m 0 10,.m 0 11,.m 0 12,.m 0 13,.m 0 14,.m 0 15,.m 0 16,.fld (.aput (.mm 0 17 4) (.bin .sub (.s 1) (pI 1)) 4 1 (.one (.s 2))) 0,.fld (.aput (.mm 0 17 4) (.bin .sub (.s 1) (pI 1)) 4 1 (.one (.s 2))) 1,.fld (.aput (.mm 0 17 4) (.bin .sub (.s 1) (pI 1)) 4 1 (.one (.s 2))) 2,.fld (.aput (.mm 0 17 4) (.bin .sub (.s 1) (pI 1)) 4 1 (.one (.s 2))) 3,.m 0 21,.m 0 22])]⟩,pR [pV 3 (pI 0),pV 4 (.len (.s 2)),pV 7 (.s 2)]] (.block 0 (.loop [0,1,2,3,4,7] (pQ [pR [pV 5 (.bin .lss (.s 3) (.s 4))],.cond (.s 5) .skip (.exit 0),.block 1 (pQ [pR [(6,pM (.flds (.idx (.s 7) (.s 3) 5) 0 5) 5)],pC [pK 11 75 [.mm 0 10 7,.ag [.one (.s 1),.m 6 0]]] [pV 8 (.ext (.s 11) 0),pV 9 (.ext (.s 11) 1)],pR [(0,.m [.m 0 0,.m 0 1,.m 0 2,.m 0 3,.m 0 4,.m 0 5,.m 0 6,.m 0 7,.m 0 8,.m 0 9,.m 0 10,.m 0 11,.m 0 12,.m 0 13,.m 0 14,.m 0 15,.m 0 16,.m 0 17,.m 0 18,.m 0 19,.m 0 20,.mput (.i .u64) (.m 0 21) (.s 8) (.s 1),.m 0 22])],pR [pV 10 (.bin .eql (.s 1) (pI 1))]] (.cond (.s 10) (pR [(0,.m [.m 0 0,.m 0 1,.m 0 2,.m 0 3,.m 0 4,.m 0 5,.m 0 6,.m 0 7,.m 0 8,.m 0 9,.m 0 10,.m 0 11,.m 0 12,.m 0 13,.m 0 14,.m 0 15,.m 0 16,.m 0 17,.m 0 18,.m 0 19,.m 0 20,.m 0 21,.mput (.i .u64) (.m 0 22) (.s 8) (.mm 6 1 2)])]) .skip))] (pR [pV 3 (.bin .add (.s 3) (pI 1))])))),[]⟩
def OU:ZK Sol.prog fresh sig [(.mem [.fz,.fz,.fz,.fz,.fz,.fz,.fz,.fz,.fz,.fz,.fz,.fz,.fz,.fz,.fz,.fz,.fz,.fz,.fz,.fz,.fz,(.own 84),(.own 115)]),.fz,.fz] [(0,(.mem [.fz,.fz,.fz,.fz,.fz,.fz,.fz,.fz,.fz,.fz,.fz,.fz,.fz,.fz,.fz,.fz,.fz,.fz,.fz,.fz,.fz,(.own 84),(.own 115)]))] Try.f121=xk K4:=Z2
def Ap:Fn:=⟨11,[0,1,2,3,8,14,9,10,21,11,12],
pQ [pR [pV 4 pF],pQ [pR [pV 5 (.bin .eql (.s 1) (pU 0))]] (.cond (.s 5) (pQ [pR [pV 4 pT]] .ret) .skip),pC [pK 11 44 [.s 1]] [pV 6 (.ext (.s 11) 0),pV 7 (.ext (.s 11) 1)],pQ [pR [pV 8 (.bin .neq (.s 7) (pI 0))]] (.cond (.s 8) (pQ [pR [pV 4 pF]] .ret) .skip),pR [pV 9 (.ext (.lk (.i .u64) (.fld (.star (.s 0)) 21) (.s 6) (.int .i64 0) xy) 0),pV 10 (.ext (.lk (.i .u64) (.fld (.star (.s 0)) 21) (.s 6) (.int .i64 0) xy) 1)],.reg ⟨[.lt 12 [] (.s 10),.lt 13 [] (.ite (.s 12) (.bin .geq (.s 9) (.s 2)) pF)],[([(12,xy)],.bin .geq (.s 9) (.s 2)),([(13,xy)],.bin .leq (.s 9) (.s 3))],[pV 4 (.ite (.s 13) (.bin .leq (.s 9) (.s 3)) pF)]⟩] .ret,[(4,.v)]⟩
def OW:ZK Sol.prog fresh sig [.fz,.fz,.fz,.fz] [] Try.f122=xk Ap:=Z2
def H3:Fn:=⟨17,[0,1,2,6,7,23,22,24,9,21,28,32,31,33,10,11,47],
pQ [pR [pV 3 pF],pC [pK 17 118 [.s 0,.s 1]] [pV 4 (.s 17)],pQ [pR [pV 5 (pI 0),pV 6 (.len (.fld (.ai (.flds (.star (.s 0)) 17 4) (.bin .sub (.s 1) (pI 1)) 4 1 xy) 0)),pV 9 (.fld (.ai (.flds (.star (.s 0)) 17 4) (.bin .sub (.s 1) (pI 1)) 4 1 xy) 0)]] (.block 0 (.loop [0,1,2,3,4,5,6,9] (pQ [pR [pV 7 (.bin .lss (.s 5) (.s 6))],.cond (.s 7) .skip (.exit 0),.block 1 (pQ [pR [(8,pM (.flds (.idx (.s 9) (.s 5) 5) 0 5) 5)],pQ [pR [pV 10 (.m 8 3)]] (.cond (.s 10) (.exit 1) .skip),pR [pV 11 (pI 0),pV 12 (.m 8 2)]] (.block 2 (.loop [0,1,2,3,4,5,6,7,8,9,10,11,12] (pQ [pR [pV 13 (.bin .lss (.s 11) (.s 12))],.cond (.s 13) .skip (.exit 2),.block 3 (pQ [pR [pV 14 (.s 11)],pR [pV 15 (.bin .add (.bin .add (.m 8 0) (pI 1)) (.s 14))],pC [.call 18 [] (.e (.s 2)) xh xh [.s 15,.fld (.idx (.s 4) (.s 15) 1) 0]] [pV 16 (.un .not (.s 18))]] (.cond (.s 16) (pQ [pR [pV 3 pF]] .ret) .skip))] (pR [pV 11 (.bin .add (.s 11) (pI 1))])))))] (pR [pV 5 (.bin .add (.s 5) (pI 1))])))),pR [pV 3 pT]] .ret,[(3,.v)]⟩
def OX:ZK Sol.prog fresh sig [.fz,.fz,.fz] [] Try.f123=xk H3:=Z2
def H4:Fn:=⟨4,[0,1,2,5],
pQ [pR [pV 3 pF],pC [pK 4 122 [.fld (.star (.s 2)) 0,.s 1,pI 1,pI 2]] [pV 3 (.s 4)]] .ret,[(3,.v)]⟩
def OY:ZK Sol.prog fresh sig [.fz,.fz,.fz] [] Try.f124=xk H4:=Z2
def Aq:Fn:=⟨4,[0,1,2,5],
pQ [pR [pV 3 pF],pC [.lt 4 [] (.bin .geq (.s 0) (.fld (.star (.fld (.star (.s 2)) 0)) 4)),.call 5 [(4,xh)] (.id 122) xh xh [.fld (.star (.s 2)) 0,.s 1,pI 1,pI 2]] [pV 3 (.ite (.s 4) pT (.s 5))]] .ret,[(3,.v)]⟩
def OZ:ZK Sol.prog fresh sig [.fz,.fz,.fz] [] Try.f125=xk Aq:=Z2
def Ar:Fn:=⟨4,[0,1,2,5],
pQ [pR [pV 3 pF],pC [.lt 4 [] (.bin .lss (.s 0) (.fld (.star (.fld (.star (.s 2)) 0)) 4)),.call 5 [(4,xh)] (.id 122) xh xh [.fld (.star (.s 2)) 0,.s 1,pI 1,pI 4]] [pV 3 (.ite (.s 4) pT (.s 5))]] .ret,[(3,.v)]⟩
def P0:ZK Sol.prog fresh sig [.fz,.fz,.fz] [] Try.f126=xk Ar:=Z2
def H5:Fn:=⟨4,[0,1,2,5],
pQ [pR [pV 3 pF],pC [pK 4 122 [.fld (.star (.s 2)) 0,.s 1,pI 3,pI 4]] [pV 3 (.s 4)]] .ret,[(3,.v)]⟩
def P1:ZK Sol.prog fresh sig [.fz,.fz,.fz] [] Try.f127=xk H5:=Z2
end Vm
end
