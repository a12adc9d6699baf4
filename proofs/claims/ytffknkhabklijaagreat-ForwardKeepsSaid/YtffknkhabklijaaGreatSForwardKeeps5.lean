import Derived.ProofKit
import Derived.OpenShut
import Derived.WalkSpells
import Derived.WalkLawsBesides
import Derived.StillTailTactics
import Derived.Deep.RegionHeld3
import Derived.Deep.AppendLies
import Derived.Deep.Onto
import Derived.Deep.OwnRows
import Derived.Lib.Hide
import Derived.Lib.AppendZerosOnto
import Derived.Laws.CopyOwn
import Derived.Test.YtffknkhabklijaaGreatSForwardKeeps4
set_option linter.unusedSimpArgs false
set_option linter.unusedVariables false
set_option linter.defProp false
set_option maxHeartbeats 4000000
set_option maxRecDepth 100000
theorem ZcH{p:Prop}(h:p:=by simp[ZD]):p:=h
theorem ZcX{p:Prop}(h:p:=by simp[ZY]):p:=h
theorem ZcK{p:Prop}(h:p:=by simp[Y2];omega):p:=h
theorem ZcU{p:Prop}(h:p:=by unfold ZM at d;omega):p:=h
theorem ZcB{p:Prop}(h:p:=by simp[ZY];omega):p:=h
theorem Zcy{p:Prop}(h:p:=by rw[cell_of_row _ _ _ _ _ _ F];rfl):p:=h
theorem ZcF{p:Prop}(h:p:=by rw[cell_of_row _ _ _ _ _ _ y];rfl):p:=h
theorem ZcD{p:Prop}(h:p:=by rw[cell_of_row _ _ _ _ _ _ O];rfl):p:=h
theorem Zd9{p:Prop}(h:p:=by simp[ZA]):p:=h
def ZeS:=@List.append_nil
def Zec:=@Int.tmod_eq_emod_of_nonneg
def ZeY:=@Int.tdiv_eq_ediv_of_nonneg
def ZgL:=@Int.fdiv_eq_ediv_of_nonneg
def Zee:=@List.take_add_one
def Zhm:=@Int.emod_nonneg
def ZgQ:=@Int.emod_lt_of_pos
def Zg5:=@List.map_take
def Zhp:=@List.set_append_right
def Zef:=@List.drop_eq_getElem_cons
def Zei:=@List.append_assoc
def Zg0:=@List.map_set
def Zf5:=@List.take_append_drop
def Zh6:=@List.map_drop
def Zhv:=@List.drop_take
def Zh0:=@List.find?_append
def ZgE:=@List.all_append
def Zfx:=@List.all_eq_false
def ZeQ:=@Bool.true_eq_false
def ZfC:=@List.length_pos_iff
def Zf6:=@List.length_eq_zero_iff
def ZdS:=@Go.RowKit.Below.heap_setCell
def Zdv:=@Go.Lib.hid
def ZeV:=@Go.RowKit.Below.setCell
def Zeu:=@Go.bodyPost_ret
def Zhz:=@Nat.mul_one
def Zgj:=@List.take_left
def ZgX:=@Array.ext
section
namespace Vm
open Go
open Go.Proofs
def sig(f:Zn):Option (List OT):=
 if f=105 then some [.fz,.mem [.own 119],.mem [.own 3]]else
 if f=85 then some [.fz,.mem [.fz,.fz]]else
 if f=86 then some [.fz,.own 119]else
 if f=59 then some [.fz,.own 119]else
 if f=112 then some [.mem [.fz,.fz,.fz,.fz,.fz,.fz,.fz,.fz,.fz,.fz,.fz,.fz,.fz,.fz,.fz,.fz,.fz,.fz,.fz,.fz,.fz,.own 63,.own 144],.fz,.fz]else
 if f=98 then some [.mem [.fz,.fz,.fz,.fz,.fz,.fz,.fz,.fz,.fz,.fz,.fz,.fz,.fz,.fz,.fz,.fz,.fz,.fz,.fz,.fz,.fz,.own 63,.own 144]]else
 if f=1000105 then some [.mem [.fz,.fz,.fz,.fz,.fz,.fz,.fz,.fz,.fz,.fz,.fz,.fz,.fz,.fz,.fz,.fz,.fz,.fz,.fz,.fz,.fz,.own 63,.own 144]]else
 none
@[simp]def pI(n:Int):E:=.c (.int .i64 n)
@[simp]def pU(n:Int):E:=.c (.int .u64 n)
@[simp]def pF:E:=.c (.bool false)
@[simp]def pT:E:=.c (.bool true)
@[simp]def pN:E:=.c (.sl [])
@[simp]def pG(e:E):Nat->Nat->List E
 |_,0=>[]
 |i,n+1=>.fld e i::pG e (i+1) n
@[simp]def pS(a n:Nat):OV:=.m (pG (.sz (.s a) n) 0 n)
@[simp]def pM(e:E)(n:Nat):OV:=.m (pG e 0 n)
@[simp]def pY:E:=.ag [pU 0,pI 0,pI 0,pF,pI 0,pN,pN,pN,pN,pN]
@[simp]def pZ:OV:=.m [pU 0,pI 0,pI 0,pF,pI 0,pN,pN,pN,pN,pN]
@[simp]def pR(l:List (Nat×OV)):Stm:=.reg ⟨[],[],l⟩
@[simp]def pC(e:List EF)(l:List (Nat×OV)):Stm:=.reg ⟨e,[],l⟩
@[simp]def pV(t:Nat)(e:E):Nat×OV:=(t,.v e)
@[simp]def pK(t f:Nat)(l:List E):EF:=.call t [] (.id f) false false l
@[simp]def pQ:List Stm->Stm->Stm
 | [],z=>z
 |a::l,z=>.seq a (pQ l z)
def fresh(f:Zn):Bool:=f==87||f==108||f==110
def follows:Sol.prog.follows .mixedOrders=true:=Z2
section
def qQ(x:Option V)(A B:Prop):Prop:=
 match x with
 |some (.bool true)=>A
 |some (.bool false)=>B
 |_=>False
@[simp]theorem Z9h(b:Bool)(A B:Prop):qQ (some (.bool b)) A B↔if b=true then A else B:=by cases b<;>simp[qQ]
def Xy{α:Type}(x:Option α)(K:α->Prop):Prop:=
 match x with
 |some x=>K x
 |none=>False
@[simp]theorem ZaW{α:Type}(x:α)(K:α->Prop):Xy (some x) K↔K x:=Zfb
@[simp]theorem ZaV{α:Type}(K:α->Prop):Xy none K↔False:=Zfb
@[simp]theorem ZaU{α β:Type}(f:α->β)(x:Option α)(K:β->Prop):Xy (x.map f) K↔Xy x (λy=>K (f y)):=by cases x<;>rfl
@[simp]theorem ZaS{α β:Type}(f:α->Option β)(x:Option α)(K:β->Prop):Xy (x.bind f) K↔Xy x (λy=>Xy (f y) K):=by cases x<;>rfl
@[simp]theorem ZaT{α:Type}(p:Prop) [Decidable p](x y:Option α)(K:α->Prop):Xy (if p then x else y) K↔if p then Xy x K else Xy y K:=by split<;>rfl
def Sg(P:Z4) [Lg P](f:Zn)(fr fl:Bool)(xs:Zp)(K:V->Prop):Prop:=∃r,VC P f fr xs r/\(fl=true->Wh r=some r)/\K r
def Zw{P:Z4} [Lg P]{f:Zn}{fr fl:Bool}{xs:Zp}{K:V->Prop}{r:V}(h:VC P f fr xs r)(g:fl=true->Wh r=some r)(d:K r):Sg P f fr fl xs K:=⟨r,h,g,d⟩
def Li(P:Z4) [Lg P](f:Zn)(ks:List OT)(xs:Zp)(K:V->Prop):Prop:=∃R,V7 P f ks xs R/\K R
def VL{P:Z4} [Lg P]{f:Zn}{ks:List OT}{xs:Zp}{K:V->Prop}{R:V}(h:V7 P f ks xs R)(d:K R):Li P f ks xs K:=⟨R,h,d⟩
def kS(P:Z4) [Lg P](b:Stm)(N:St->Prop)(X:Nat->St->Prop)(R:St->Prop)(s:St):Prop:=Yu P b s N X R
def xB(id:Nat)(N:St->Prop)(X:Nat->St->Prop)(i:Nat)(s:St):Prop:=if i=id then N s else X i s
def kR(d:List (ZC×E))(outs:List (Nat×OV))(K:St->Prop)(t:St):Prop:=Sa t d/\VJ outs t t K
def kO(l:List (Nat×OV))(t u:St)(i:Nat)(K:St->Prop)(x:SV):Prop:=VJ l t (Yj u i x) K
def kL(P:Z4) [Lg P](l:List EF)(s:St)(i:Nat)(K:St->Prop)(x:V):Prop:=YM P l (Yj s i (.v x)) K
def kA(P:Z4) [Lg P](f:Zn)(fr fl:Bool)(K:V->Prop)(xs:Zp):Prop:=Sg P f fr fl xs K
def Rn(P:Z4) [Lg P](fr fl:Bool)(K:V->Prop)(xs:Zp)(v:V):Prop:=Xy (Qh v) λn=>Sg P n.1 fr fl (xs++n.2) K
def jO(P:Z4) [Lg P](x:Option V)(fr fl:Bool)(K:V->Prop)(xs:Zp):Prop:=Xy x (Rn P fr fl K xs)
def jP(P:Z4) [Lg P](f:Option FuncId)(ks:List OT)(K:V->Prop)(xs:Zp):Prop:=Xy f λn=>Li P n ks xs K
def kW(P:Z4) [Lg P](l:List EF)(s:St)(i:Nat)(K:St->Prop)(d:Zp):Prop:=if d=[]then YM P l s K else YM P l (Yj s i (.v (.tup (.bool false::d)))) K
def kT(_:V):Prop:=True
section
variable {P:Z4}[Lg P]{N R:St->Prop}{X:Nat->St->Prop}{K:St->Prop}{s t u:St}
@[simp]theorem ZaB(b:Stm):kS P b N X R s↔Yu P b s N X R:=Zfb
@[simp]theorem Zcl(id:Nat):xB id N X id s↔N s:=by simp[xB]
def Ja(id i:Nat):xB id N X i s↔if i=id then N s else X i s:=Zfb
@[simp]theorem Zck{id i:Nat}(h:i≠id):xB id N X i s↔X i s:=by simp[xB,h]
@[simp]theorem ZaA(d:List (ZC×E))(outs:List (Nat×OV)):kR d outs K t↔Sa t d/\VJ outs t t K:=Zfb
@[simp]theorem Zaz(l:List (Nat×OV))(i:Nat)(x:SV):kO l t u i K x↔VJ l t (Yj u i x) K:=Zfb
@[simp]theorem Zay(l:List EF)(i:Nat)(x:V):kL P l s i K x↔YM P l (Yj s i (.v x)) K:=Zfb
@[simp]theorem Zax(f:Zn)(fr fl:Bool)(K:V->Prop)(xs:Zp):kA P f fr fl K xs↔Sg P f fr fl xs K:=Zfb
@[simp]theorem Zav(v:V)(fr fl:Bool)(K:V->Prop)(xs:Zp):jO P (some v) fr fl K xs↔Rn P fr fl K xs v:=Zfb
@[simp]theorem Zau(f:Zn)(fr fl:Bool)(K:V->Prop)(xs:Zp):Rn P fr fl K xs (.fn f)↔Sg P f fr fl xs K:=by simp[Rn,Qh]
@[simp]theorem Zat(f:Zn)(cs:Zp)(fr fl:Bool)(K:V->Prop)(xs:Zp):Rn P fr fl K xs (.clo f cs)↔Sg P f fr fl (xs++cs) K:=by simp[Rn,Qh]
@[simp]theorem Zaw(f:Zn)(ks:List OT)(K:V->Prop)(xs:Zp):jP P (some f) ks K xs↔Li P f ks xs K:=Zfb
@[simp]theorem ZaE(l:List EF)(i:Nat):kW P l s i K []↔YM P l s K:=by simp[kW]
@[simp]theorem ZaD(l:List EF)(i:Nat)(x:V)(d:Zp):kW P l s i K (x::d)↔YM P l (Yj s i (.v (.tup (.bool false::x::d)))) K:=by simp[kW]
@[simp]theorem ZaC(x:V):kT x↔True:=Zfb
@[simp]theorem Zcg(r:Reg):Yu P (.reg r) s N X R↔qf P r s N:=Zfb
@[simp]theorem Zcj:Yu P .skip s N X R↔N s:=Zfb
@[simp]theorem Zci(a b:Stm):Yu P (.seq a b) s N X R↔Yu P a s (kS P b N X R) X R:=Zfb
@[simp]theorem Zce(c:E)(a b:Stm):Yu P (.cond c a b) s N X R↔qQ (eval s c) (Yu P a s N X R) (Yu P b s N X R):=by
 rfl
@[simp]theorem Zcd(id:Nat)(a:Stm):Yu P (.block id a) s N X R↔Yu P a s N (xB id N X) R:=Zfb
@[simp]theorem Zcf(id:Nat):Yu P (.exit id) s N X R↔X id s:=Zfb
@[simp]theorem Zch:Yu P .ret s N X R↔R s:=Zfb
def UK{keep:Zd}{a:Stm}(I:St->Prop)(μ:St->Nat)(f:I (YW keep s))(g:∀s,I s->Yu P a s (λd=>I (YW keep d)/\μ (YW keep d)<μ s) X R):Yu P (.loop keep a) s N X R:=⟨I,μ,f,g⟩
@[simp]theorem Zcc(f:List EF)(d:List (ZC×E))(outs:List (Nat×OV)):qf P ⟨f,d,outs⟩ s K↔YM P f s (kR d outs K):=Zfb
@[simp]theorem Zcb:VJ [] t u K↔K u:=Zfb
@[simp]theorem Zca(i:Nat)(o:OV)(l:List (Nat×OV)):VJ ((i,o)::l) t u K↔Xy (WF t o) (kO l t u i K):=by
 simp only[VJ,Xy,kO];cases WF t o<;>rfl
@[simp]theorem Zc4:Sa t []↔True:=Zfb
@[simp]theorem Zc3(C:ZC)(e:E)(l:List (ZC×E)):Sa t ((C,e)::l)↔(Vx t C=true->Xy (eval t e) kT)/\Sa t l:=by
 simp only[Sa,Xy,kT];cases eval t e<;>simp
@[simp]theorem Zc9:YM P [] s K↔K s:=Zfb
@[simp]theorem Zc8(i:Nat)(C:ZC)(e:E)(l:List EF):YM P (.lt i C e::l) s K↔if Vx s C=true then Xy (eval s e) (kL P l s i K)else YM P l s K:=by
 simp only[YM,Xy,kL];cases eval s e<;>rfl
@[simp]theorem Zc5(i:Nat)(C:ZC)(f:Zn)(fr fl:Bool)(es:List E)(l:List EF):YM P (.call i C (.id f) fr fl es::l) s K↔if Vx s C=true then Xy (YB s es) (kA P f fr fl (kL P l s i K))else YM P l s K:=by
 simp only[YM,Xy,kA,Sg,kL,Ut];cases YB s es<;>simp
@[simp]theorem Zc6(i:Nat)(C:ZC)(x:E)(fr fl:Bool)(es:List E)(l:List EF):YM P (.call i C (.e x) fr fl es::l) s K↔if Vx s C=true then Xy (YB s es) (jO P (eval s x) fr fl (kL P l s i K))else YM P l s K:=by
 simp only[YM,Xy,jO,Rn,Sg,kL,Ut];cases YB s es with
 |none=>simp
 |some f=>
  cases eval s x with
  |none=>simp
  |some v=>cases d:Qh v<;>simp[d]
@[simp]theorem Zc7(i:Nat)(C:ZC)(f:FN)(ks:List OT)(es:List E)(l:List EF):YM P (.callm i C f ks es::l) s K↔
  if Vx s C=true then Xy (YB s es) (jP P (Vc s f) ks (kL P l s i K))
  else Xy (Ws s ks es) (kW P l s i K):=by
 simp only[YM,Xy,Li,jP,kL,kW];split
 ·cases YB s es<;>cases Vc s f<;>simp
 ·cases Ws s ks es with
  |none=>simp
  |some d=>cases d<;>simp
@[simp]theorem Zbm(e:E):WF t (.v e)=(eval t e).map .v:=rfl
@[simp]theorem Zbk(l:List E):WF t (.m l)=(YB t l).map .m:=rfl
@[simp]theorem Zbl:WF t .no=some .no:=rfl
@[simp]theorem Zao:Vx s []=true:=rfl
def Z1n(i:Nat)(b:Bool)(C:ZC):Vx s ((i,b)::C)=((match get s i with|.v (.bool c)=>c==b|_=>false)&&Vx s C):=rfl
end
@[simp]theorem Zam(x:SV)(s:St):get (x::s) 0=x:=rfl
@[simp]theorem Zal(x:SV)(s:St)(n:Nat):get (x::s) (n+1)=get s n:=by simp[get]
@[simp]theorem Zbr(x y:SV)(s:St):Yj (y::s) 0 x=x::s:=rfl
@[simp]theorem Zbq(x y:SV)(s:St)(n:Nat):Yj (y::s) (n+1) x=y::Yj s n x:=rfl
@[simp]theorem Zbp(x:SV):Yj [] 0 x=[x]:=rfl
@[simp]theorem Zbo(x:SV)(n:Nat):Yj [] (n+1) x=.no::Yj [] n x:=rfl
@[simp]theorem Zbj(s:St):YW [] s=[]:=rfl
@[simp]theorem Zbi(i:Nat)(l:Zd)(s:St):YW (i::l) s=Yj (YW l s) i (get s i):=rfl
attribute [simp] Km eval YB Z1n Wc UE VF R9 R8 Xz QR Sd UO Vc Ws
section
variable {k:Zl}{a b:Int}{x y:V}{l r:Zp}
@[simp]theorem Z8r:Xk .add (.int k a) (.int k b)=some (.int k (k.wrap (a+b))):=by simp[Xk]
@[simp]theorem Z8B:Xk .sub (.int k a) (.int k b)=some (.int k (k.wrap (a-b))):=by simp[Xk]
@[simp]theorem Z8x:Xk .mul (.int k a) (.int k b)=some (.int k (k.wrap (a*b))):=by simp[Xk]
@[simp]theorem Z8z:Xk .quo (.int k a) (.int k b)=if b≠0 then some (.int k (k.wrap (a.tdiv b)))else none:=by simp[Xk]
@[simp]theorem Z8A:Xk .rem (.int k a) (.int k b)=if b≠0 then some (.int k (a.tmod b))else none:=by simp[Xk]
@[simp]theorem Z8s:Xk .eql (.int k a) (.int k b)=some (.bool (decide (a=b))):=by simp[Xk];rfl
@[simp]theorem Z8y:Xk .neq (.int k a) (.int k b)=some (.bool (!decide (a=b))):=by simp[Xk];rfl
@[simp]theorem Z8w:Xk .lss (.int k a) (.int k b)=some (.bool (decide (a<b))):=by simp[Xk]
@[simp]theorem Z8v:Xk .leq (.int k a) (.int k b)=some (.bool (decide (a<=b))):=by simp[Xk]
@[simp]theorem Z8u:Xk .gtr (.int k a) (.int k b)=some (.bool (decide (b<a))):=by simp[Xk]
@[simp]theorem Z8t:Xk .geq (.int k a) (.int k b)=some (.bool (decide (b<=a))):=by simp[Xk]
@[simp]theorem Z9j(p q n:Bool):Sl n (.bool p) (.bool q)=some (.bool (n ^^ (p==q))):=rfl
@[simp]theorem ZbY:S6 .neg (.int k a)=some (.int k (k.wrap (0-a))):=rfl
@[simp]theorem ZbZ(p:Bool):S6 .not (.bool p)=some (.bool !p):=rfl
@[simp]theorem Z9i(k':Zl):Qj k' (.int k a)=some (.int k' (k'.wrap a)):=rfl
@[simp]theorem ZaF:Rr (.sl l)=some (.int .i64 l.length):=rfl
@[simp]theorem ZaL(id:Nat)(vs:Zp):Sx (.mp id l vs)=some (.int .i64 l.length):=rfl
@[simp]theorem ZaI(id:Nat)(vs:Zp):JU (.mp id l vs)=some (.mp id [] []):=rfl
@[simp]theorem ZaJ:Rz (.int k a) (.int k b)=some (.int k (if b<a then b else a)):=rfl
@[simp]theorem ZaH:Ry (.int k a) (.int k b)=some (.int k (if b>a then b else a)):=rfl
@[simp]theorem Z9k(i:Nat):Ts (.tup l) i=l[i]? :=rfl
@[simp]theorem Zaq(i n:Nat):Y9 (.sl l) (.int k (i:Int)) n=(l[i]?).bind λz=>if z.cells.length=n then some z else none:=by simp[Y9]
@[simp]theorem Z94:(V.int k a).cells=[V.int k a]:=rfl
@[simp]theorem Z92(p:Bool):(V.bool p).cells=[V.bool p]:=rfl
@[simp]theorem Z97(s:ByteArray):(V.str s).cells=[V.str s]:=rfl
@[simp]theorem Z96:(V.sl l).cells=[V.sl l]:=rfl
@[simp]theorem Z90:(V.agg l).cells=l:=rfl
@[simp]theorem Z95(id:Nat):(V.mp id l r).cells=[V.mp id l r]:=rfl
@[simp]theorem Z93(f:Zn):(V.fn f).cells=[V.fn f]:=rfl
@[simp]theorem Zbe:(V.int k a).one=true:=rfl
@[simp]theorem Zba(p:Bool):(V.bool p).one=true:=rfl
@[simp]theorem Zbh:(V.sl l).one=true:=rfl
@[simp]theorem Zbf(id:Nat):(V.mp id l r).one=true:=rfl
@[simp]theorem Zbd(f:Zn):(V.fn f).one=true:=rfl
@[simp]theorem Zb9:(V.agg l).one=false:=rfl
@[simp]theorem Zb3:YR (.int k a)=some (.int k a):=rfl
@[simp]theorem ZaZ(p:Bool):YR (.bool p)=some (.bool p):=rfl
@[simp]theorem Zb7(s:ByteArray):YR (.str s)=some (.str s):=rfl
@[simp]theorem Zb6:YR (.sl l)=some (.sl l):=rfl
@[simp]theorem Zb4(id:Nat):YR (.mp id l r)=some (.mp id l r):=rfl
@[simp]theorem Zb2(f:Zn):YR (.fn f)=some (.fn f):=rfl
@[simp]theorem Z9n(o:Nat):ZZ (.agg l) o=(l[o]?).bind YR:=rfl
@[simp]theorem Z9J:ZZ (.int k a) 0=some (.int k a):=rfl
@[simp]theorem Z9o(p:Bool):ZZ (.bool p) 0=some (.bool p):=rfl
@[simp]theorem Za9:ZZ (.sl l) 0=some (.sl l):=rfl
@[simp]theorem Zaa(s:ByteArray):ZZ (.str s) 0=some (.str s):=rfl
@[simp]theorem Zab(o n:Nat):VS (.agg l) o n=if o+n<=l.length then some (.agg ((l.drop o).take n))else none:=rfl
@[simp]theorem ZbM(n:Nat):Vk (.agg l) n=if l.length=n then some (.agg l)else none:=rfl
@[simp]theorem Zar:Rm (.agg l)=some (.agg l):=rfl
@[simp]theorem ZbL:UH (.ptr l)=some (.agg l):=rfl
@[simp]theorem Zas(p:Bool)(A B:Option V):QA (.bool p) A B=if p=true then A else B:=by cases p<;>rfl
@[simp]theorem Z8d:Tn l=.agg (flat l):=rfl
@[simp]theorem Z9l:flat (x::l)=x.cells++flat l:=rfl
@[simp]theorem Z9m:flat []=[]:=rfl
@[simp]theorem Z8q(n:Nat):R1 n (.sl l) (.sl r)=if l.length+r.length<=Y2/\Xj n r=true then some (.sl (l++r))else none:=rfl
@[simp]theorem ZbE(n:Nat):Xj n []=true:=rfl
@[simp]theorem ZbA(n:Nat):Xj n (x::l)=(x.cells.length==n&&Xj n l):=rfl
def RT{α:Type}{f:α->V}{n:Nat}{l:List α}(h:∀x,(f x).cells.length=n):Xj n (l.map f)=true:=by
 simp[Xj,h]
abbrev Ze:=List Int
@[simp]theorem KM(l:Ze):Xj 1 (l.map (V.int k))=true:=RT λ_=>rfl
@[simp]theorem ZaK(n:Nat):JW x (.int k (n:Int))=if n<=Y2 then some (.sl (List.replicate n x))else none:=by
 simp only[JW];have:((n:Int)<=(Y2:Nat))↔n<=Y2:=Z0;simp[this]
@[simp]theorem Z6T(i j n:Nat):SN n (.sl l) (.int k (i:Int)) (.int k (j:Int))=if i<=j/\j<=l.length/\Xj n l=true then some (.sl ((l.take j).drop i))else none:=by
 simp[SN]
@[simp]theorem ZbJ(i n:Nat):RU n (.sl l) (.int k (i:Int))=if i<=l.length/\Xj n l=true then some (.sl (l.drop i))else none:=by
 simp[RU]
@[simp]theorem Zc0(i o:Nat):SQ (.sl l) (.int k (i:Int)) o y=(l[i]?).bind λz=>if o+y.cells.length<=z.cells.length/\y.cells≠[]then some (.sl (l.set i (z.put o y.cells)))else none:=by
 simp[SQ]
end
abbrev vi(n:Int):V:=.int .i64 n
abbrev vu(n:Int):V:=.int .u64 n
@[simp]theorem ZaN(n:Nat):((n:Int)<0)↔False:=⟨λh=>absurd h (by omega),False.elim⟩
def Zy(n:Int)(d: -9223372036854775808<=n)(h2:n<=9223372036854775807):IntKind.i64.wrap n=n:=by
 rw[IntKind.wrap_i64];omega
end
end Vm
end
section
namespace Vm
open Go Go.ChangeShapes Go.WideShapes Go.ChangeAt Go.RowKit
section
def JE(P:Z4)(n:Nat):List Field->Nat->Bool
 | [],o=>o==n
 |f::l,o=>f.offset==o&&JE P n l (o+P.cellsOf f.type)
def TN(P:Z4):Nat->TypeId->Bool
 |0,_=>false
 |n+1,t=>match P.underlying t with
  |some .bool|some (.int _)|some .string=>true
  |some (.slice e)=>TN P n e&&decide (0<P.cellsOf e)
  |some (.struct a)=>JE P (P.cellsOf t) a.toList 0&&a.toList.all λf=>TN P n f.type
  |some (.array m e)=>TN P n e&&m*P.cellsOf e==P.cellsOf t
  |_=>false
def Xp(P:Z4):Nat->TypeId->V->Prop
 |0,_,_=>False
 |n+1,t,x=>match P.underlying t with
  |some .bool=>∃b,x=.bool b
  |some (.int k)=>∃m,x=.int k m/\(Lit.int k m).wf=true
  |some .string=>∃s,x=.str s/\s.size<=maxLen
  |some (.slice e)=>∃l,x=.sl l/\l.length<=maxLen/\∀y∈l,Xp P n e y
  |some (.struct d)=>∃a,x=.agg (flat a)/\a.length=d.toList.length/\∀(i:Nat) (f:Field) (y:V),d.toList[i]?=some f->a[i]?=some y->Xp P n f.type y
  |some (.array m e)=>∃a,x=.agg (flat a)/\a.length=m/\∀y∈a,Xp P n e y
  |_=>False
def RdC(w:Z3)(G:Z6)(cs:Zp)(vs:Zk):Prop:=
 vs.length=cs.length/\∀(i:Nat) (c:V),cs[i]?=some c->c.one=true/\∃u,vs[i]?=some u/\Rd w G c u
def RdC.nil{w:Z3}{G:Z6}:RdC w G [] []:=⟨rfl,λi c h=>Zd1⟩
def RdC.append{w:Z3}{G:Z6}{cs d:Zp}{vs f:Zk}(h:RdC w G cs vs)(h':RdC w G d f):RdC w G (cs++d) (vs++f):=by
 refine⟨by simp[h.1,h'.1],λi c g=> ?_⟩;rw[List.getElem?_append]at g⊢;rw[h.1];split at g
 ·rename_i a;rw[if_pos a];exact h.2 i c g
 ·rename_i a;rw[if_neg a];exact h'.2 _ c g
theorem RdC.one{w:Z3}{G:Z6}{c:V}{v:Z7}(a:c.one=true)(h:Rd w G c v):RdC w G [c] [v]:=
 ⟨rfl,λi x d=>by
  grind⟩
def Lm{α:Type}{Q:Nat->α->Prop}:∀(n:Nat),(∀i,i<n->∃y,Q i y)->∃l:List α,l.length=n/\∀(i:Nat) (y:α),l[i]?=some y->Q i y
 |0,_=>⟨[],rfl,λi y h=>Zd1⟩
 |n+1,h=>by
  obtain⟨l,d,f⟩:=Lm n λi o=>h i Z0;obtain⟨y,j⟩:=h n Z0;refine⟨l++[y],by simp[d],λi z a=> ?_⟩;rw[List.getElem?_append]at a;split at a
  ·exact f i z a
  ·rename_i g;rw[List.getElem?_singleton]at a;split at a
   ·rename_i k;have:i=n:=Z0;subst this;simp only[Zdj]at a;subst a;exact j
   ·cases a
def qL{w:Z3}{b:Nat}{a:Addr}{n:Nat}{cs:Zk}(h:w.cells? b a n=some cs):cs.length=n/\∀i,i<n->w.cell? (a.add i)=cs[i]? :=by
 unfold World.cells? at h;split at h
 ·have d:=mapM_some_length h;rw[Zh2]at d;refine⟨d,λi f=>mapM_some_get h i i ?_⟩;simp_all
 ·cases h
def Z0i{w:Z3}{a:Addr}{v:Z7}(h:w.cell? a=some v):a.block<w.heap.size:=by
 grind [World.cell?,Nat.lt_or_ge]
def Bs{w:Z3}{G:Z6}:∀ {d:Zp} {a:List (List Value)},a.length=d.length->(∀(i:Nat) (y:V) (vs:Zk),d[i]?=some y->a[i]?=some vs->RdC w G y.cells vs)->RdC w G (flat d) a.flatten
 | [],[],_,_=>by simpa using RdC.nil
 | [],_::_,h,_=>Zd1
 |_::_,[],h,_=>Zd1
 |y::d,vs::a,h,f=>by
  rw[So,List.flatten_cons];exact(f 0 y vs rfl rfl).append (Bs Zcp λi z g k j=>f (i+1) z g Zcp Zcp)
def Eu{P:Z4}{n:Nat}{cs:Zk}:∀ {l:List Field} {o:Nat},JE P n l o=true->o<=n/\(cs.length=n->cs.drop o=(l.map λf=>(cs.drop f.offset).take (P.cellsOf f.type)).flatten)
 | [],o,h=>by
   simp_all[JE,Ze5,Zdp]
 |f::l,o,h=>by
  simp only[JE,Zdn,Ze5]at h;obtain⟨d,a⟩:=h;obtain⟨g,j⟩:=Eu (cs:=cs) a;refine⟨Z0,λk=> ?_⟩
  grind [List.flatten_cons,List.drop_drop,List.take_append_drop]
def OP{cs:Zk}{k:Nat}:∀ {m:Nat},cs.length=m*k->cs=((List.range m).map λi=>(cs.drop (i*k)).take k).flatten:=by
 have:∀(m:Nat) (cs:Zk),cs.take (m*k)=((List.range m).map λi=>(cs.drop (i*k)).take k).flatten:=by
  intro m
  induction m with
  |zero=>simp
  |succ m d=>
   simp_all[Zfe,ZeL,List.flatten_append,ZeJ,List.take_add]
 intro m h;have a:=this m cs
 grind
section
variable {H:Type}{enc:TypeId×Value->H}{P:Z4}{w:Z3}{spare:Nat->Bool}{held:Bool}
def ym:∀ {n:Nat} {t:Z8} {D:Nat} {cs:Zk} {d:DataW H×List MemPlace},TN P n t=true->DataW.trod enc P w 0 spare held D t cs=some d->
  ∃x,Xp P n t x/\RdC w (λb=>b<w.heap.size) x.cells cs
 |0,t,D,cs,d,K,h=>by cases K
 |n+1,t,D,cs,d,K,h=>by
  unfold TN at K;unfold Xp;split at K
  ·rename_i N;obtain⟨b,rfl,_⟩:=DataW.trod_bool N h;exact⟨.bool b,⟨b,rfl⟩,.one rfl (.bool b)⟩
  ·rename_i k N;obtain⟨m,rfl,_,hw⟩:=DataW.trod_int N h;exact⟨.int k m,⟨m,rfl,hw⟩,.one rfl (.int k m)⟩
  ·rename_i N;obtain⟨s,rfl,_,hw⟩:=DataW.trod_string N h;exact⟨.str s,⟨s,rfl,hw⟩,.one rfl (.str s)⟩
  ·rename_i e N;simp only[Zdn,ZdH]at K;obtain⟨L,A⟩:=K;obtain⟨rfl,_⟩|⟨a,len,cap,a6,b2,m,_,rfl,_,_,b4,a1,b3,F,_⟩:=DataW.trod_slice N h
   ·exact⟨.sl [],⟨[],rfl,Z1,Z1⟩,.one rfl (.nil _ _ (Zex _))⟩
   ·have I:∀i,i<len->∃y,Xp P n e y/\∃vs,w.cells? 0 (a.add (i*P.cellsOf e)) (P.cellsOf e)=some vs/\RdC w (λb=>b<w.heap.size) y.cells vs:=by
     intro i g;have r:=F i g;rw[Zdk Z0]at r;simp only[Zdi]at r;obtain⟨vs,B,C⟩:=r;obtain⟨y,p,M⟩:=ym L C;exact⟨y,p,vs,B,M⟩
    obtain⟨l,a9,Y⟩:=Lm len I
    have b0:∀y∈l,Xp P n e y:=λy p=>by
     obtain⟨i,g⟩:=ZdM p;exact(Y i y g).1
    refine⟨.sl l,⟨l,rfl,Z0,b0⟩,.one rfl ?_⟩;cases a2:len with
    |zero=>
     have:l=[]:=Zeb Z0;subst this;exact .nil _ _ a1
    |succ b1=>
     obtain⟨b,o,X⟩:=a
     have Z:X=none:=by
      obtain⟨y,_,vs,O,_⟩:=I 0 Z0;obtain⟨r,B⟩:=qL O;have C:=B 0 A;rw[Zdk Z0]at C;have h4:=World.cell?_spot C;cases X with
      |none=>rfl
      |some s=>simp[Addr.add]at h4
     subst Z
     have z:∀(i j:Nat) (y:V),l[i]?=some y->j<P.cellsOf e->∃(u:Z7),w.cell? ⟨b,o+(i*P.cellsOf e+j),none⟩=some u/\∃c,y.cells[j]?=some c/\c.one=true/\Rd w (λb=>b<w.heap.size) c u:=by
      intro i j y p W;obtain⟨_,vs,O,M⟩:=Y i y p;obtain⟨r,B⟩:=qL O;have C:=B j W;rw[Zf4,Zf4,Zdk Z0]at C;have a5:j<y.cells.length:=by rw[<-M.1];omega
      obtain⟨q1,u,q2,q3⟩:=M.2 j y.cells[j] (Zdk a5);rw[Zdk Z0,Zdj]at q2;subst q2;exact⟨_,by rw[<-ZeF];exact C,_,Zdk a5,q1,q3⟩
     have J:∀y∈l,y.fits (P.cellsOf e):=λy p=>by
      obtain⟨i,g⟩:=ZdM p;obtain⟨_,vs,O,M⟩:=Y i y g;refine⟨by rw[<-M.1,(qL O).1],λc hc=> ?_⟩;obtain⟨j,W⟩:=ZdM hc;exact(M.2 j c W).1
     have U:∀i,i<l.length*P.cellsOf e->∃y,l[i / P.cellsOf e]?=some y/\i%P.cellsOf e<P.cellsOf e/\i=i / P.cellsOf e*P.cellsOf e+i%P.cellsOf e:=by
      intro i g;have r:i / P.cellsOf e<l.length:=(Zhq A).2 g;exact⟨_,Zdk r,Zgw _ A,by rw[Nat.mul_comm];exact(Nat.div_add_mod _ _).symm⟩
     have hb:b<w.heap.size:=by
      obtain⟨y,p⟩:∃y,l[0]?=some y:=⟨_,Zdk Z0⟩;obtain⟨u,hu,_⟩:=z 0 0 y p A;exact Z0i hu
     have a3:=Rd.sl (w:=w) (G:=λb=>b<w.heap.size) l b o cap (P.cellsOf e) (λi=>(w.cell? ⟨b,o+i,none⟩).getD undef) Z0 a1 hb J (λi g=> ?_) (λi c g=> ?_)
     ·rw[a9,a2]at a3;exact a3
     ·obtain⟨y,r,B,C⟩:=U i g;obtain⟨u,hu,_⟩:=z _ _ y r B;rw[<-C]at hu;rw[hu];rfl
     ·have a8:i<l.length*P.cellsOf e:=by
       rw[<-Tt J];exact(Zdl.1 g).1
      obtain⟨y,r,B,C⟩:=U i a8;obtain⟨u,hu,c',a7,_,M⟩:=z _ _ y r B;rw[<-C]at hu;rw[C,Vu J r _ B,a7]at g;cases g;simp only[hu,ZdN];exact M
  ·rename_i fs N;simp only[Zdn,Zdu]at K;obtain⟨L,A⟩:=K;obtain⟨xs,m,_,_,a0,a4,F⟩:=DataW.trod_struct N h
   obtain⟨ys,R,S⟩:=Lm (Q:=λi y=>∀f,fs.toList[i]?=some f->Xp P n f.type y/\RdC w (λb=>b<w.heap.size) y.cells ((cs.drop f.offset).take (P.cellsOf f.type))) fs.toList.length (by
    intro i g;have hf:fs.toList[i]?=some fs.toList[i]:=Zdk g;have r:=F i fs.toList[i] Z1;rw[Zdk (by rw[a4];exact g)]at r;obtain⟨y,p,M⟩:=ym (A _ (ZdA g)) r;exact⟨y,λf B=>by rw[hf]at B;cases B;exact⟨p,M⟩⟩)
   refine⟨.agg (flat ys),⟨ys,rfl,R,λi f y hf p=>(S i y p f hf).1⟩,?_⟩;have T:=(Eu (cs:=cs) L).2 a0;rw[List.drop_zero]at T;rw[T];refine Bs (by simp[R]) λi y vs p O=> ?_;rw[ZdJ,Zdm]at O;obtain⟨f,hf,rfl⟩:=O;exact(S i y p f hf).2
  ·rename_i m e N;simp only[Zdn,Ze5]at K;obtain⟨L,A⟩:=K;obtain⟨xs,q,_,_,a0,a4,F⟩:=DataW.trod_array N h
   obtain⟨ys,R,S⟩:=Lm (Q:=λi y=>Xp P n e y/\RdC w (λb=>b<w.heap.size) y.cells ((cs.drop (i*P.cellsOf e)).take (P.cellsOf e))) m (by
    intro i g;have r:=F i g;rw[Zdk Z0]at r;exact ym L r)
   refine⟨.agg (flat ys),⟨ys,rfl,R,λy p=> ?_⟩,?_⟩
   ·obtain⟨i,g⟩:=ZdM p;exact(S i y g).1
   ·rw[OP (cs:=cs) (k:=P.cellsOf e) (m:=m) Z0];refine Bs (by simp[R]) λi y vs p O=> ?_;rw[ZdJ,Zdm]at O;obtain⟨j,W,rfl⟩:=O
    have:j=i:=by
     rw[Zdl]at W;obtain⟨_,W⟩:=W;simpa using W.symm
    subst this;exact(S j y p).2
  ·cases K
def Z5B{n:Nat}{t:Z8}{v:Z7}{d:DataW H}{G:List MemPlace}{r:Reach}{F:Nat}(j:TN P n t=true)(a:Value.okWide P w r F t v)(h:DataW.Trod enc P w 0 spare held t v d G):
  ∃x,Xp P n t x/\Rd w (λb=>b<w.heap.size) x v:=by
 obtain⟨C,h⟩:=h;obtain⟨x,g,l⟩:=ym j h;refine⟨x,g,?_⟩
 have o:∀ {c:V},x=c->c.cells=[c]->v.cells.toList=[v]->Rd w (λb=>b<w.heap.size) x v:=by
  intro c z y B;subst z;rw[y,B]at l;obtain⟨_,u,p,D⟩:=l.2 0 x rfl;simp at p;subst p;exact D
 have K:∀ {q:Zp} {vs:Za},x=.agg q->v=.agg vs->Rd w (λb=>b<w.heap.size) x v:=by
  intro q vs z B;subst z B;refine .agg q vs (by have:=l.1;simpa[Value.cells]using this) (λc y=> ?_) λi c A=> ?_
  ·obtain⟨i,A⟩:=ZdM y;exact(l.2 i c A).1
  ·obtain⟨_,u,p,D⟩:=l.2 i c A
   have:vs.getD i undef=u:=by
    have I:vs[i]?=some u:=by simpa[Value.cells]using p
    simp[Zdo,I]
   grind
 cases n with
 |zero=>cases j
 |succ n=>
  unfold TN at j;unfold Xp at g;split at j
  ·rename_i f;rw[f]at g;obtain⟨b,rfl⟩:=g;obtain⟨c,rfl⟩:=okWide_bool f a;exact o rfl rfl rfl
  ·rename_i k f;rw[f]at g;obtain⟨b,rfl,_⟩:=g;obtain⟨c,rfl⟩:=okWide_int f a;exact o rfl rfl rfl
  ·rename_i f;rw[f]at g;obtain⟨b,rfl,_⟩:=g;obtain⟨c,rfl⟩:=okWide_string f a;exact o rfl rfl rfl
  ·rename_i e f;rw[f]at g;obtain⟨b,rfl,_⟩:=g;obtain⟨c,_,_,rfl⟩:=okWide_slice f a;exact o rfl rfl rfl
  ·rename_i J f;rw[f]at g;obtain⟨b,rfl,_⟩:=g;simp only[Value.okWide,f]at a
   grind
  ·rename_i m e f;rw[f]at g;obtain⟨b,rfl,_⟩:=g;simp only[Value.okWide,f]at a
   grind
  ·cases j
def M3{n:Nat}{r:Reach}{G:Nat}:∀ {g:List TypeId} {vs:Zk} {o:List (DataW H)} {A:List MemPlace},DataW.TrodAll enc P w 0 spare held g vs o A->(∀t∈g,TN P n t=true)->
  (∀(j:Nat) t v,g[j]?=some t->vs[j]?=some v->Value.okWide P w r G t v)->
  ∃l:Zp,l.length=vs.length/\vs.length=g.length/\o.length=g.length/\(∀(i:Nat) (t:Z8) (x:V),g[i]?=some t->l[i]?=some x->Xp P n t x)/\∀(i:Nat) (x:V) (v:Z7),l[i]?=some x->vs[i]?=some v->Rd w (λb=>b<w.heap.size) x v
 | [],vs,o,A,h,_,_=>by
   obtain⟨rfl,rfl,rfl⟩:=trodAll_nil h;simp
 |t::g,vs,o,A,h,F,a=>by
  obtain⟨v,R,d,I,p,q,rfl,rfl,rfl,J,K⟩:=trodAll_cons h;obtain⟨x,y,z⟩:=Z5B (F t Z1) (a 0 t v rfl rfl) J;obtain⟨l,L,M,Q,N,O⟩:=M3 K (λt k=>F t (by simp[k])) λj B C k u=>a (j+1) B C Zcp Zcp;refine⟨x::l,by simp[L],by simp[M],by simp[Q],λi B D k f=> ?_,λi D C f u=> ?_⟩
  ·cases i with
   |zero=>simp at k f;subst k f;exact y
   |succ i=>exact N i B D Zcp ZcL
  ·cases i with
   |zero=>simp at u f;subst u f;exact z
   |succ i=>exact O i D C ZcL Zcp
def Do{W n:Z3}(r:laidOutB P=true)(o:Below W.heap.size W n):∀ {j:List TypeId} {vs:Zk} {g:List (DataW H)} {f:List MemPlace},DataW.TrodAll enc P W 0 (λ_=>true) true j vs g f->
  (∀t∈j,P.readableRec t=true/\t<P.types.size)->(∀x∈f,x.block<W.heap.size)->DataW.TrodAll enc P n 0 (λb=>decide (b<W.heap.size)) true j vs g f
 | [],vs,g,f,h,_,_=>by
   obtain⟨rfl,rfl,rfl⟩:=trodAll_nil h;rfl
 |t::j,vs,g,f,h,k,a=>by
  obtain⟨v,B,d,u,p,q,rfl,rfl,rfl,y,z⟩:=trodAll_cons h;exact trodAll_cons_mk (Below.trod r (k t Z1).1 (k t Z1).2 y o λx l=>a x (by simp[l])) (Do r o z (λt A=>k t (by simp[A])) λx l=>a x (by simp[l]))
end
def Z2I{P:Z4} [Lg P]{f:Zn}{fn:Func}{s:ChangeSpec}{tb:Z8}(n:Nat)(S:laidOutB P=true)(F:(fn.params.toList.all λt=>TN P n t)=true)(l:(fn.params.toList.all λt=>P.readableRec t&&decide (t<P.types.size))=true)
  (d:s.vars=[]) (y:fn.resultTypes=#[tb]) (Q:P.underlying tb=some .bool)
  (k:∀(H:Type) (ds:List (DataW H)),ds.length=fn.params.toList.length->s.fn H ds= {results:=[.lit (.bool true)],args:=ds})
  (r:∀A:Zp,A.length=fn.params.toList.length->(∀(i:Nat) (t:Z8) (x:V),fn.params.toList[i]?=some t->A[i]?=some x->Xp P n t x)->VC P f false A (.bool true))
  (H:Type) (enc:TypeId×Value->H) (W:Z3) (base:Nat) (args:Za) (ds gs:List (DataW H)) (a:List MemPlace)
  (z:∀(j:Nat) t v,fn.params[j]?=some t->args[j]?=some v->Value.okWide P W .any base t v)
  (C:DataW.Whole enc P fn.params.toList s.vars false W args.toList ds gs a):
  Lg.calls P f args W λe J=>∃v,e=.returned v/\s.post enc P fn false true false false W args v J:=by
 have u:∀x∈a,x.block<W.heap.size:=λx B=>by simpa using C.lt x B
 have o:=C;obtain⟨p,q,K,L,rfl,_,_⟩:=C;rw[d]at L;obtain⟨rfl,rfl⟩:=trodVars_none L;rw[ZeS]at u o;obtain⟨A,O,T,Z,U,X⟩:=M3 (n:=n) K (Zdu.1 F) λj t v N Y=>z j t v Zcp Zcp;obtain⟨_,I⟩:=r A (by rw[O,T]) U;refine Lg.calls_mono (I W (λb=>b<W.heap.size) args (λb h=>h) Zcp λi x B=> ?_) λe J R=> ?_
 ·have M:i<args.toList.length:=by rw[<-O];exact(Zdl.1 B).1
  have:args.getD i undef=args.toList[i]:=by
   have D:i<args.size:=by simpa using M
   simp[Zdo,D]
  rw[this];exact X i x _ B (Zdk M)
 ·obtain⟨v,rfl,g,G⟩:=R;cases G;refine⟨_,rfl,ds,[],p,[],p,[],o,?_,?_,?_,g.frame _,λh=>ZcC⟩
  ·rw[k H _ Zcp,y];exact trodAll_mk1 (shut_bool Q true)
  ·rw[k H _ Zcp,ZeS];exact Do S g K (λt N=>by simpa using Zdu.1 l t N) u
  ·rw[d,k H _ Zcp];rfl
def FU{α:Type}{enc:α->V}{Q:α->Prop}:∀ {l:Zp},(∀y∈l,∃a,y=enc a/\Q a)->∃d:List α,l=d.map enc/\∀a∈d,Q a
 | [],_=>⟨[],rfl,Z1⟩
 |y::l,h=>by
  obtain⟨a,rfl,g⟩:=h y Z1;obtain⟨d,rfl,j⟩:=FU (l:=l) λz k=>h z (ZdV _ k)
  exact⟨a::d,rfl,λb f=>by
   obtain rfl|f:=ZdG.1 f
   ·exact g
   ·exact j b f⟩
def Ns{P:Z4}{n:Nat}{t:Z8}{x:V}{k:Zl}(d:P.underlying t=some (.int k))(h:Xp P (n+1) t x):∃m,x=.int k m/\k.min<=m/\m<=k.max:=by
 unfold Xp at h;rw[d]at h;obtain⟨m,rfl,a⟩:=h;simp only[Lit.wf,Zdn,ZdH]at a;exact⟨m,rfl,a⟩
def Cj{P:Z4}{n:Nat}{t e:Z8}{x:V}{α:Type}{enc:α->V}{Q:α->Prop}(g:P.underlying t=some (.slice e))(h:Xp P (n+1) t x)(f:∀y,Xp P n e y->∃a,y=enc a/\Q a):∃l:List α,x=.sl (l.map enc)/\l.length<=maxLen/\∀a∈l,Q a:=by
 unfold Xp at h;rw[g]at h;obtain⟨l,rfl,k,d⟩:=h;obtain⟨p,rfl,o⟩:=FU λy j=>f y (d y j)
 grind
def Nt{P:Z4}{n:Nat}{t:Z8}{x:V}{fs:Array Field}(d:P.underlying t=some (.struct fs))(h:Xp P (n+1) t x):∃a,x=.agg (flat a)/\a.length=fs.toList.length/\∀(i:Nat) (f:Field) (y:V),fs.toList[i]?=some f->a[i]?=some y->Xp P n f.type y:=by
 simp_all[Xp]
end
end Vm
end
section
namespace Vm
open Go
open Go.Proofs
section
def VD(s:St):List (Nat×SV)->St
 | []=>s
 |(i,x)::l=>VD (Yj s i x) l
@[simp]theorem Zbt(s:St):VD s []=s:=rfl
@[simp]theorem Zbs(s:St)(i:Nat)(x:SV)(l:List (Nat×SV)):VD s ((i,x)::l)=VD (Yj s i x) l:=rfl
section
variable {P:Z4}[Lg P]{K K':St->Prop}
def NV(d:∀s,K s->K' s){t:St}:∀ {l:List (Nat×OV)} {u:St},VJ l t u K->VJ l t u K'
 | [],_,h=>d _ h
 | (i,o)::l,u,h=>by
   simp only[VJ]at h⊢;split
   ·rename_i x a;rw[a]at h;exact NV d h
   ·rename_i a;rw[a]at h;exact h
def SW(g:∀s,K s->K' s):∀ {l:List EF} {s:St},YM P l s K->YM P l s K'
 | [],_,h=>g _ h
 | .lt i C e::l,s,h=>by
   simp only[YM]at h⊢;split
   ·rename_i a;rw[if_pos a]at h;split
    ·rename_i x d;rw[d]at h;exact SW g h
    ·rename_i d;rw[d]at h;exact h
   ·rename_i a;rw[if_neg a]at h;exact SW g h
 | .call i C f u fl t::l,s,h=>by
   simp only[YM]at h⊢;split
   ·rename_i a;rw[if_pos a]at h;split
    ·rename_i x n d k;rw[d,k]at h;obtain⟨r,j,o,p⟩:=h;exact⟨r,j,o,SW g p⟩
    ·rename_i q;split at h
     ·rename_i x n d k;exact(q x n d k).elim
     ·exact h
   ·rename_i a;rw[if_neg a]at h;exact SW g h
 | .callm i C f w t::l,s,h=>by
   simp only[YM]at h⊢;split
   ·rename_i a;rw[if_pos a]at h;split
    ·rename_i x n d k;rw[d,k]at h;obtain⟨r,j,p⟩:=h;exact⟨r,j,SW g p⟩
    ·rename_i d;split at h
     ·rename_i x n j o;exact(d x n j o).elim
     ·exact h
   ·rename_i a;rw[if_neg a]at h;split at h
    ·exact SW g h
    ·exact SW g h
    ·exact h.elim
def SX:∀ {a:Stm} {s:St} {N p R q:St->Prop} {X u:Nat->St->Prop},Yu P a s N X R->(∀s,N s->p s)->(∀i s,X i s->u i s)->(∀s,R s->q s)->Yu P a s p u q
 |.reg r,s,_,_,_,_,_,_,h,d,_,_=>SW (λt j=>⟨j.1,NV d j.2⟩) h
 |.skip,s,_,_,_,_,_,_,h,d,_,_=>d _ h
 |.seq a b,s,_,_,_,_,_,_,h,d,g,f=>SX (a:=a) (s:=s) h (λt j=>SX (a:=b) (s:=t) j d g f) g f
 | .cond c a b,s,_,_,_,_,_,_,h,d,g,f=>by
   simp only[Yu]at h⊢;split
   ·rename_i k;rw[k]at h;exact SX h d g f
   ·rename_i k;rw[k]at h;exact SX h d g f
   ·rename_i l n;split at h
    ·rename_i k;exact(l k).elim
    ·rename_i k;exact(n k).elim
    ·exact h
 | .block id a,s,_,_,_,_,_,_,h,d,g,f=>SX (a:=a) (s:=s) h d (λi t j=>by
   split
   ·rename_i o;rw[if_pos o]at j;exact d _ j
   ·rename_i o;rw[if_neg o]at j;exact g _ _ j) f
 | .loop w a,s,_,_,_,_,_,_,h,d,g,f=>by
   obtain⟨I,m,l,n⟩:=h;exact⟨I,m,l,λt j=>SX (a:=a) (s:=t) (n t j) (λ_ h=>h) g f⟩
 |.exit id,s,_,_,_,_,_,_,h,_,g,_=>g _ _ h
 |.ret,s,_,_,_,_,_,_,h,_,_,f=>f _ h
end
def Vp{P:Z4} [Lg P]{keep:Zd}{a:Stm}{s:St}{N R:St->Prop}{X:Nat->St->Prop}{ι:Type}(L:ι->List (Nat×SV))(Inv:ι->Prop)(m:St->Nat)(d:ι)
  (g:YW keep s=VD (YW keep s) (L d)) (k:Inv d)
  (j:∀p,Inv p->Yu P a (VD (YW keep s) (L p)) (λf=>∃q,Inv q/\YW keep f=VD (YW keep s) (L q)/\m (VD (YW keep s) (L q))<m (VD (YW keep s) (L p))) X R):
  Yu P (.loop keep a) s N X R:=by
 refine⟨λt=>∃p,Inv p/\t=VD (YW keep s) (L p),m,⟨d,k,g⟩,?_⟩;rintro t ⟨p,o,rfl⟩;refine SX (j p o) (λf u=> ?_) (λ_ _ h=>h) (λ_ h=>h);obtain⟨q,r,l,n⟩:=u;rw[l];exact⟨⟨q,r,rfl⟩,n⟩
def ZY(c:Nat)(n:Nat)(t:St):Nat:=match get t c with|.v (.int _ k)=>n-k.toNat|_=>0
def WM{P:Z4} [Lg P]{keep:Zd}{a:Stm}{s:St}{N R:St->Prop}{X:Nat->St->Prop}(c n:Nat)(L:Nat->List (Nat×SV))(Inv:Z6)
  (g:YW keep s=VD (YW keep s) (L 0)) (hc:∀i,get (VD (YW keep s) (L i)) c=.v (vi i)) (k:Inv 0)
  (j:∀i,i<=n->Inv i->Yu P a (VD (YW keep s) (L i)) (λf=>i<n/\Inv (i+1)/\YW keep f=VD (YW keep s) (L (i+1))) X R):
  Yu P (.loop keep a) s N X R:=by
 refine Vp L (λi=>i<=n/\Inv i) (ZY c n) 0 g ⟨Z0,k⟩ ?_;rintro i ⟨o,q⟩;refine SX (j i o q) (λf p=> ?_) (λ_ _ h=>h) (λ_ h=>h);obtain⟨h,d,l⟩:=p;refine⟨i+1,⟨Z0,d⟩,l,?_⟩;simp only[ZY,hc];simp;omega
def Tl{P:Z4} [Lg P]{keep:Zd}{a:Stm}{s:St}{N R:St->Prop}{X:Nat->St->Prop}(c n:Nat)(Inv:Z6)
  (d:YW keep s=Yj (YW keep s) c (.v (vi 0))) (hc:∀x,get (Yj (YW keep s) c x) c=x) (g:Inv 0)
  (f:∀i,i<=n->Inv i->Yu P a (Yj (YW keep s) c (.v (vi i))) (λh=>i<n/\Inv (i+1)/\YW keep h=Yj (YW keep s) c (.v (vi (i+1)))) X R):
  Yu P (.loop keep a) s N X R:=
 WM c n (λi=>[(c,.v (vi i))]) Inv d (λi=>hc _) g f
end
def Kc:Fn:=⟨5,[0,2,3,5,12],
pQ [pR [pV 1 (pU 0),pV 2 (pI 0)],pQ [pR [pV 3 (.bin .eql (.s 0) (pU 0))]] (.cond (.s 3) (pQ [pR [pV 1 (pU 0),pV 2 (pI 6)]] .ret) .skip),pQ [.reg ⟨[.lt 5 [] (.bin .eql (.bin .rem (.s 0) (pU 2)) (pU 0))],[([(5,false)],.bin .eql (.s 0) (pU 1))],[pV 4 (.ite (.s 5) pT (.bin .eql (.s 0) (pU 1)))]⟩] (.cond (.s 4) (pQ [pR [pV 1 (pU 0),pV 2 (pI 3)]] .ret) .skip),pR [pV 1 (.bin .quo (.s 0) (pU 2)),pV 2 (pI 0)]] .ret,[(1,.v),(2,.v)]⟩
def PY:ZH Sol.prog fresh sig [.fz] [] Tryz.f29=some Kc:=Z2
def HY:Fn:=⟨5,[0,2,3,4,20],
pQ [pR [(1,.m [pI 0,pI 0]),pV 2 (pI 0)],pR [(3,pM (.ag [.conv .i64 (.bin .rem (.bin .shr (.s 0) (pU 1)) (pU 65536)),.conv .i64 (.bin .shr (.s 0) (pU 17))]) 2)],pQ [.reg ⟨[.lt 5 [] (.bin .neq (.bin .rem (.s 0) (pU 2)) (pU 0)),.call 6 [(5,false)] (.id 78) false false [.mm 3 0 2]],[([(5,false)],.un .not (.s 6))],[pV 4 (.ite (.s 5) pT (.un .not (.s 6)))]⟩] (.cond (.s 4) (pQ [pR [(1,pM (.ag [pI 0,pI 0]) 2),pV 2 (pI 3)]] .ret) .skip),pR [(1,pM (.mm 3 0 2) 2),pV 2 (pI 0)]] .ret,[(1,(.ag 2)),(2,.v)]⟩
def x3:ZH Sol.prog fresh sig [.fz] [] Tryz.f47=some HY:=Z2
def Kd:Fn:=⟨5,[0,2,3,5,12],
pQ [pR [pV 1 (pU 0),pV 2 (pI 0)],pQ [pR [pV 3 (.bin .eql (.s 0) (pU 0))]] (.cond (.s 3) (pQ [pR [pV 1 (pU 0),pV 2 (pI 6)]] .ret) .skip),pQ [.reg ⟨[.lt 5 [] (.bin .eql (.bin .rem (.s 0) (pU 2)) (pU 0))],[([(5,false)],.bin .eql (.s 0) (pU 1))],[pV 4 (.ite (.s 5) pT (.bin .eql (.s 0) (pU 1)))]⟩] (.cond (.s 4) (pQ [pR [pV 1 (pU 0),pV 2 (pI 3)]] .ret) .skip),pR [pV 1 (.bin .quo (.s 0) (pU 2)),pV 2 (pI 0)]] .ret,[(1,.v),(2,.v)]⟩
def c68:ZH Sol.prog fresh sig [.fz] [] Tryz.f68=some Kd:=Z2
def Ig:Fn:=⟨3,[0,1,2],
pQ [pR [(1,pS 0 2),pV 2 pF],.reg ⟨[.lt 3 [] (.bin .geq (.m 1 0) (pI 0)),.lt 4 [] (.ite (.s 3) (.bin .leq (.m 1 0) (pI 255)) pF),.lt 5 [] (.ite (.s 4) (.bin .geq (.m 1 1) (pI 0)) pF)],[([(3,true)],.bin .leq (.m 1 0) (pI 255)),([(4,true)],.bin .geq (.m 1 1) (pI 0)),([(5,true)],.bin .leq (.m 1 1) (.m 1 0))],[pV 2 (.ite (.s 5) (.bin .leq (.m 1 1) (.m 1 0)) pF)]⟩] .ret,[(2,.v)]⟩
def c78:ZH Sol.prog fresh sig [.fz] [] Tryz.f78=some Ig:=Z2
def zT:Fn:=⟨4,[0,2,3,9],
pQ [pR [pV 1 (pU 0),pV 2 (pI 0)],pQ [.reg ⟨[.lt 4 [] (.bin .lss (.s 0) (pU 1))],[([(4,false)],.bin .gtr (.s 0) (pU 9223372036854775807))],[pV 3 (.ite (.s 4) pT (.bin .gtr (.s 0) (pU 9223372036854775807)))]⟩] (.cond (.s 3) (pQ [pR [pV 1 (pU 0),pV 2 (pI 1)]] .ret) .skip),pR [pV 1 (.bin .add (.bin .mul (pU 2) (.s 0)) (pU 1)),pV 2 (pI 0)]] .ret,[(1,.v),(2,.v)]⟩
def c79:ZH Sol.prog fresh sig [.fz] [] Tryz.f79=some zT:=Z2
def Ii:Fn:=⟨6,[0,1,2,3,4,8],
pQ [pR [(1,pS 0 2),pV 2 (pU 0),pV 3 (pI 0)],pC [pK 6 104 [.mm 1 0 2]] [pV 4 (.s 6)],pQ [pR [pV 5 (.un .not (.s 4))]] (.cond (.s 5) (pQ [pR [pV 2 (pU 0),pV 3 (pI 1)]] .ret) .skip),pR [pV 2 (.bin .mul (pU 2) (.bin .add (.conv .u64 (.m 1 0)) (.bin .mul (pU 65536) (.conv .u64 (.m 1 1))))),pV 3 (pI 0)]] .ret,[(2,.v),(3,.v)]⟩
def c82:ZH Sol.prog fresh sig [.fz] [] Tryz.f82=some Ii:=Z2
def zU:Fn:=⟨4,[0,2,3,9],
pQ [pR [pV 1 (pU 0),pV 2 (pI 0)],pQ [.reg ⟨[.lt 4 [] (.bin .lss (.s 0) (pU 1))],[([(4,false)],.bin .gtr (.s 0) (pU 9223372036854775807))],[pV 3 (.ite (.s 4) pT (.bin .gtr (.s 0) (pU 9223372036854775807)))]⟩] (.cond (.s 3) (pQ [pR [pV 1 (pU 0),pV 2 (pI 1)]] .ret) .skip),pR [pV 1 (.bin .add (.bin .mul (pU 2) (.s 0)) (pU 1)),pV 2 (pI 0)]] .ret,[(1,.v),(2,.v)]⟩
def c84:ZH Sol.prog fresh sig [.fz] [] Tryz.f84=some zU:=Z2
def Hf:Fn:=⟨3,[0,1,2],
pQ [pR [(1,pS 0 2),pV 2 pF],.reg ⟨[.lt 3 [] (.bin .geq (.m 1 0) (pI 0)),.lt 4 [] (.ite (.s 3) (.bin .leq (.m 1 0) (pI 255)) pF),.lt 5 [] (.ite (.s 4) (.bin .geq (.m 1 1) (pI 0)) pF)],[([(3,true)],.bin .leq (.m 1 0) (pI 255)),([(4,true)],.bin .geq (.m 1 1) (pI 0)),([(5,true)],.bin .leq (.m 1 1) (.m 1 0))],[pV 2 (.ite (.s 5) (.bin .leq (.m 1 1) (.m 1 0)) pF)]⟩] .ret,[(2,.v)]⟩
def Pv:ZH Sol.prog fresh sig [.fz] [] Tryz.f104=some Hf:=Z2
def Hi:Fn:=⟨7,[0,2,3,4,5,6,27],
pQ [pR [(1,.m [pI 0,pI 0]),pV 2 (pI 0)],pR [(3,pM (.ag [.conv .i64 (.bin .rem (.bin .quo (.s 0) (pU 2)) (pU 65536)),.conv .i64 (.bin .rem (.bin .quo (.s 0) (pU 131072)) (pU 65536))]) 2)],pC [pK 7 82 [.mm 3 0 2]] [pV 4 (.ext (.s 7) 0),pV 5 (.ext (.s 7) 1)],pQ [.reg ⟨[.lt 8 [] (.bin .neq (.s 5) (pI 0))],[([(8,false)],.bin .neq (.s 4) (.s 0))],[pV 6 (.ite (.s 8) pT (.bin .neq (.s 4) (.s 0)))]⟩] (.cond (.s 6) (pQ [pR [(1,pM (.ag [pI 0,pI 0]) 2),pV 2 (pI 3)]] .ret) .skip),pR [(1,pM (.mm 3 0 2) 2),pV 2 (pI 0)]] .ret,[(1,(.ag 2)),(2,.v)]⟩
def Py:ZH Sol.prog fresh sig [.fz] [] Tryz.f107=some Hi:=Z2
end Vm
end
section
namespace Vm
open Go Go.Proofs
def Yv(n:Int):Prop:= -9223372036854775808<=n/\n<=9223372036854775807
def ZA(n:Int):Prop:=0<=n/\n<18446744073709551616
def ZT(n:Int)(a:0<=n)(h2:n<=18446744073709551615):IntKind.u64.wrap n=n:=by
 rw[IntKind.wrap_u64];omega
def ZU{α:Type}{l:List α}{i:Nat}{x:α}(h:l[i]?=some x):∀a:i<l.length,l[i]'a=x:=λa=>by
 rw[Zdk a]at h;exact Zff h
def Ye(size ptrs:Int):Bool:=decide (0<=size)&&decide (size<=255)&&decide (0<=ptrs)&&decide (ptrs<=size)
theorem Yf{s p:Int}:Ye s p=true↔0<=s/\s<=255/\0<=p/\p<=s:=by simp[Ye,and_assoc]
def Z6H{s p:Int}:Ye s p=false↔ ¬(0<=s/\s<=255/\0<=p/\p<=s):=by rw[<-Yf];simp
abbrev RS(s p:Int):V:=.agg [vi s,vi p]
def Mn{s p:Int}:VC Sol.prog 78 false [RS s p] (.bool (Ye s p)):=by
 refine ZN Sol.func78 follows Z2 c78 rfl ?_;by_cases a:0<=s<;>by_cases d:s<=255<;>by_cases f:0<=p<;>by_cases g:p<=s<;>simp[Ig,Ye,a,d,f,g]
def M7{s p:Int}:VC Sol.prog 104 false [RS s p] (.bool (Ye s p)):=by
 refine ZN Sol.func104 follows Z2 Pv rfl ?_;by_cases a:0<=s<;>by_cases d:s<=255<;>by_cases f:0<=p<;>by_cases g:p<=s<;>simp[Hf,Ye,a,d,f,g]
def adr(w:Int):Int×Int:=if w=0 then(0,6)else if w%2=0\/w=1 then(0,3)else(w / 2,0)
def Jg{w:Int}(l:ZA w):VC Sol.prog 29 false [vu w] (.tup [vu (adr w).1,vi (adr w).2]):=by
 refine ZN Sol.func29 follows Z2 PY rfl ?_;obtain⟨f,n⟩:=l;have d:w.tmod 2=w%2:=Zec f;have j:w.tdiv 2=w / 2:=ZeY f;have k:=ZT (w / 2) Z0 Z0;by_cases a:w=0
 ·simp[Kc,adr,a]
 ·by_cases g:w%2=0
  ·simp[Kc,adr,a,d,g]
  ·by_cases h:w=1
   ·subst h;simp[Kc,adr]
   ·simp[Kc,adr,a,d,j,g,h,k]
def yo{w:Int}(l:ZA w):VC Sol.prog 68 false [vu w] (.tup [vu (adr w).1,vi (adr w).2]):=by
 refine ZN Sol.func68 follows Z2 c68 rfl ?_;obtain⟨f,n⟩:=l;have d:w.tmod 2=w%2:=Zec f;have j:w.tdiv 2=w / 2:=ZeY f;have k:=ZT (w / 2) Z0 Z0;by_cases a:w=0
 ·simp[Kd,adr,a]
 ·by_cases g:w%2=0
  ·simp[Kd,adr,a,d,g]
  ·by_cases h:w=1
   ·subst h;simp[Kd,adr]
   ·simp[Kd,adr,a,d,j,g,h,k]
def XJ(a:Int):Int×Int:=if a<1\/9223372036854775807<a then(0,1)else(2*a+1,0)
def Z5b{a:Int}(j:ZA a):VC Sol.prog 79 false [vu a] (.tup [vu (XJ a).1,vi (XJ a).2]):=by
 refine ZN Sol.func79 follows Z2 c79 rfl ?_;obtain⟨k,l⟩:=j;by_cases d:a<1
 ·simp[zT,XJ,d]
 ·by_cases f:9223372036854775807<a
  ·simp[zT,XJ,d,f]
  ·have g:=ZT (2*a) Z0 Z0;have h:=ZT (2*a+1) Z0 Z0;simp[zT,XJ,d,f,g,h]
def Z5I{a:Int}(j:ZA a):VC Sol.prog 84 false [vu a] (.tup [vu (XJ a).1,vi (XJ a).2]):=by
 refine ZN Sol.func84 follows Z2 c84 rfl ?_;obtain⟨k,l⟩:=j;by_cases d:a<1
 ·simp[zU,XJ,d]
 ·by_cases f:9223372036854775807<a
  ·simp[zU,XJ,d,f]
  ·have g:=ZT (2*a) Z0 Z0;have h:=ZT (2*a+1) Z0 Z0;simp[zU,XJ,d,f,g,h]
def VX(s p:Int):Int×Int:=if Ye s p then(2*(s+65536*p),0)else(0,1)
def M6{s p:Int}:VC Sol.prog 82 false [RS s p] (.tup [vu (VX s p).1,vi (VX s p).2]):=by
 refine ZN Sol.func82 follows Z2 c82 rfl ?_;simp[Ii];refine Zw M7 Z1 ?_;cases h:Ye s p
 ·simp[VX,h]
 ·obtain⟨k,l,n,o⟩:=Yf.1 h;have a:=ZT s Z0 Z0;have d:=ZT p Z0 Z0;have f:=ZT (65536*p) Z0 Z0;have g:=ZT (s+65536*p) Z0 Z0;have j:=ZT (2*(s+65536*p)) Z0 Z0;simp[VX,h,a,d,f,g,j]
def ZO(w:Int):Int×Int×Int:=if w%2=0/\Ye (w / 2%65536) (w / 131072)=true then(w / 2%65536,w / 131072,0)else(0,0,3)
def Nv{w:Int}(l:ZA w):VC Sol.prog 47 false [vu w] (.tup [RS (ZO w).1 (ZO w).2.1,vi (ZO w).2.2]):=by
 refine ZN Sol.func47 follows Z2 x3 rfl ?_;obtain⟨k,r⟩:=l
 have p:w.fdiv (2 ^ min 1 IntKind.u64.bits)=w / 2:=by
  rw[show(2:Int) ^ min 1 IntKind.u64.bits=2 by decide];exact ZgL _ Z0
 have q:w.fdiv (2 ^ min 17 IntKind.u64.bits)=w / 131072:=by
  rw[show(2:Int) ^ min 17 IntKind.u64.bits=131072 by decide];exact ZgL _ Z0
 have n:=ZT (w / 2) Z0 Z0;have o:=ZT (w / 131072) Z0 Z0;have f:w.tmod 2=w%2:=Zec k;have g:(w / 2).tmod 65536=w / 2%65536:=Zec Z0;have h:=Zy (w / 2%65536) Z0 Z0;have j:=Zy (w / 131072) Z0 Z0;simp[HY,Xk,p,q,f,g,h,j,n,o];by_cases a:w%2=0
 ·simp[a];refine Zw Mn Z1 ?_;cases d:Ye (w / 2%65536) (w / 131072)
  ·simp[ZO,a,d]
  ·simp[ZO,a,d]
 ·simp[a,ZO]
def Ma{w:Int}(t:ZA w):VC Sol.prog 107 false [vu w] (.tup [RS (ZO w).1 (ZO w).2.1,vi (ZO w).2.2]):=by
 refine ZN Sol.func107 follows Z2 Py rfl ?_;obtain⟨k,y⟩:=t;have u:w.tdiv 2=w / 2:=ZeY k;have x:w.tdiv 131072=w / 131072:=ZeY k;have l:=ZT (w / 2) Z0 Z0;have g:=ZT (w / 131072) Z0 Z0;have n:(w / 2).tmod 65536=w / 2%65536:=Zec Z0;have j:(w / 131072).tmod 65536=w / 131072%65536:=Zec Z0;have o:=Zy (w / 2%65536) Z0 Z0;have p:=Zy (w / 131072%65536) Z0 Z0;simp[Hi,u,x,l,g,n,j,o,p];refine Zw M6 Z1 ?_;unfold VX ZO;cases h:Ye (w / 2%65536) (w / 131072%65536)
 ·have:¬(w%2=0/\Ye (w / 2%65536) (w / 131072)=true):=by
   rintro⟨d,a⟩;have q:=Yf.1 a;have f:=Z6H.1 h;omega
  simp[this]
 ·have q:=Yf.1 h;by_cases d:2*(w / 2%65536+65536*(w / 131072%65536))=w
  ·have a:w%2=0/\Ye (w / 2%65536) (w / 131072)=true:=⟨Z0,Yf.2 Z0⟩;have f:w / 131072%65536=w / 131072:=Z0;rw[f]at d;simp[d,a,f]
  ·have a:¬(w%2=0/\Ye (w / 2%65536) (w / 131072)=true):=by
    rintro⟨f,r⟩;have z:=Yf.1 r;omega
   simp[d,a]
end Vm
end
section
namespace Vm
open Go
open Go.Proofs
def HQ:Fn:=⟨11,[0,1,2,3,4,5,6,12,7,8,28],
pQ [pR [(2,pS 0 7),(3,pS 1 2),pV 4 (pU 0),pV 5 (pI 0)],pC [pK 11 73 [.mm 2 0 7]] [pV 6 (.s 11)],pQ [pR [pV 7 (.un .not (.s 6))]] (.cond (.s 7) (pQ [pR [pV 4 (pU 0),pV 5 (pI 1)]] .ret) .skip),pC [pK 12 74 [.mm 2 0 7,.m 3 0]] [pV 8 (.ext (.s 12) 0),pV 9 (.ext (.s 12) 1)],pQ [.reg ⟨[.lt 13 [] (.bin .lss (.m 3 1) (pI 0))],[([(13,false)],.bin .geq (.m 3 1) (.s 9))],[pV 10 (.ite (.s 13) pT (.bin .geq (.m 3 1) (.s 9)))]⟩] (.cond (.s 10) (pQ [pR [pV 4 (pU 0),pV 5 (pI 6)]] .ret) .skip),pR [pV 4 (.bin .add (.s 8) (.conv .u64 (.m 3 1))),pV 5 (pI 0)]] .ret,[(4,.v),(5,.v)]⟩
def u5:ZH Sol.prog fresh sig [.fz,.fz] [] Tryz.f40=some HQ:=Z2
def HU:Fn:=⟨4,[0,1,2,25],
pQ [pR [(1,pS 0 7),pV 2 pF],pQ [.reg ⟨[.lt 4 [] (.bin .lss (.m 1 1) (pI 0)),.lt 5 [] (.ite (.s 4) pT (.bin .gtr (.m 1 1) (pI 4096))),.lt 6 [] (.ite (.s 5) pT (.bin .lss (.m 1 0) (pU 1)))],[([(4,false)],.bin .gtr (.m 1 1) (pI 4096)),([(5,false)],.bin .lss (.m 1 0) (pU 1)),([(6,false)],.bin .gtr (.m 1 0) (.bin .sub (pU 9223372036854775808) (.bin .mul (pU 2) (.conv .u64 (.m 1 1)))))],[pV 3 (.ite (.s 6) pT (.bin .gtr (.m 1 0) (.bin .sub (pU 9223372036854775808) (.bin .mul (pU 2) (.conv .u64 (.m 1 1))))))]⟩] (.cond (.s 3) (pQ [pR [pV 2 pF]] .ret) .skip),.reg ⟨[.lt 7 [] (.bin .eql (.m 1 2) (pI 0)),.lt 8 [] (.ite (.s 7) pT (.bin .eql (.m 1 2) (pI 1))),.call 9 [(8,true)] (.id 75) false false [.m 1 3,.m 1 4,.m 1 1],.lt 10 [] (.ite (.s 8) (.s 9) pF),.call 11 [(10,true)] (.id 75) false false [.m 1 5,.m 1 6,.m 1 1]],[([(7,false)],.bin .eql (.m 1 2) (pI 1))],[pV 2 (.ite (.s 10) (.s 11) pF)]⟩] .ret,[(2,.v)]⟩
def v9:ZH Sol.prog fresh sig [.fz] [] Tryz.f43=some HU:=Z2
def HW:Fn:=⟨12,[0,1,2,4,5,10,14,15,7,6,13,31],
pQ [pR [(2,pS 0 7),(3,.m [pI 0,pI 0]),pV 4 (pI 0)],pQ [pC [pK 12 43 [.mm 2 0 7]] [pV 5 (.un .not (.s 12))]] (.cond (.s 5) (pQ [pR [(3,pM (.ag [pI 0,pI 0]) 2),pV 4 (pI 1)]] .ret) .skip),pQ [pC [pK 10 77 [.mm 2 0 7]] [pV 6 (pI 0)]] (.block 0 (.loop [0,1,2,3,4,5,6,10] (pQ [pR [pV 7 (.bin .lss (.s 6) (pI 4))],.cond (.s 7) .skip (.exit 0),.block 1 (pQ [pR [(8,pM (.sz (.ai (.s 10) (.s 6) 4 2 true) 2) 2),pV 9 (.s 6)],.reg ⟨[.lt 13 [] (.bin .geq (.s 1) (.m 8 0))],[([(13,true)],.bin .lss (.bin .sub (.s 1) (.m 8 0)) (.conv .u64 (.m 8 1)))],[pV 11 (.ite (.s 13) (.bin .lss (.bin .sub (.s 1) (.m 8 0)) (.conv .u64 (.m 8 1))) pF)]⟩] (.cond (.s 11) (pQ [pR [(3,pM (.ag [.bin .add (.s 9) (pI 1),.conv .i64 (.bin .sub (.s 1) (.m 8 0))]) 2),pV 4 (pI 0)]] .ret) .skip))] (pR [pV 6 (.bin .add (.s 6) (pI 1))])))),pR [(3,pM (.ag [pI 0,pI 0]) 2),pV 4 (pI 6)]] .ret,[(3,(.ag 2)),(4,.v)]⟩
def x0:ZH Sol.prog fresh sig [.fz,.fz] [] Tryz.f45=some HW:=Z2
def HZ:Fn:=⟨4,[0,1,2,5],
pQ [pR [(1,pS 0 7),pV 2 (pI 0)],pQ [pC [pK 4 43 [.mm 1 0 7]] [pV 3 (.un .not (.s 4))]] (.cond (.s 3) (pQ [pR [pV 2 (pI 0)]] .ret) .skip),pR [pV 2 (.bin .sub (.bin .sub (.m 1 1) (.m 1 3)) (.m 1 4))]] .ret,[(2,.v)]⟩
def x5:ZH Sol.prog fresh sig [.fz] [] Tryz.f48=some HZ:=Z2
def I5:Fn:=⟨10,[0,1,2,3,4,5,9,17,6,33],
pQ [pR [(2,pS 0 7),(3,pS 1 2),pV 4 (pU 0),pV 5 (pI 0)],pQ [pC [pK 10 43 [.mm 2 0 7]] [pV 6 (.un .not (.s 10))]] (.cond (.s 6) (pQ [pR [pV 4 (pU 0),pV 5 (pI 1)]] .ret) .skip),pQ [.reg ⟨[.lt 11 [] (.bin .lss (.m 3 0) (pI 1))],[([(11,false)],.bin .gtr (.m 3 0) (pI 4))],[pV 7 (.ite (.s 11) pT (.bin .gtr (.m 3 0) (pI 4)))]⟩] (.cond (.s 7) (pQ [pR [pV 4 (pU 0),pV 5 (pI 6)]] .ret) .skip),pC [pK 12 77 [.mm 2 0 7]] [(8,pM (.sz (.ai (.s 12) (.bin .sub (.m 3 0) (pI 1)) 4 2 true) 2) 2)],pQ [.reg ⟨[.lt 13 [] (.bin .lss (.m 3 1) (pI 0))],[([(13,false)],.bin .geq (.m 3 1) (.m 8 1))],[pV 9 (.ite (.s 13) pT (.bin .geq (.m 3 1) (.m 8 1)))]⟩] (.cond (.s 9) (pQ [pR [pV 4 (pU 0),pV 5 (pI 6)]] .ret) .skip),pR [pV 4 (.bin .add (.m 8 0) (.conv .u64 (.m 3 1))),pV 5 (pI 0)]] .ret,[(4,.v),(5,.v)]⟩
def c57:ZH Sol.prog fresh sig [.fz,.fz] [] Tryz.f57=some I5:=Z2
def Ie:Fn:=⟨5,[0,1,2,35,53],
pQ [pR [(1,pS 0 7),pV 2 pF],pQ [.reg ⟨[.lt 5 [] (.bin .lss (.m 1 0) (pU 1)),.lt 6 [] (.ite (.s 5) pT (.bin .lss (.m 1 1) (pI 0))),.lt 7 [] (.ite (.s 6) pT (.bin .gtr (.m 1 1) (pI 4096))),.lt 8 [] (.ite (.s 7) pT (.bin .gtr (.m 1 0) (.bin .sub (pU 9223372036854775808) (.bin .mul (pU 2) (.conv .u64 (.m 1 1)))))),.lt 9 [] (.ite (.s 8) pT (.bin .lss (.m 1 2) (pI 0)))],[([(5,false)],.bin .lss (.m 1 1) (pI 0)),([(6,false)],.bin .gtr (.m 1 1) (pI 4096)),([(7,false)],.bin .gtr (.m 1 0) (.bin .sub (pU 9223372036854775808) (.bin .mul (pU 2) (.conv .u64 (.m 1 1))))),([(8,false)],.bin .lss (.m 1 2) (pI 0)),([(9,false)],.bin .gtr (.m 1 2) (pI 1))],[pV 3 (.ite (.s 9) pT (.bin .gtr (.m 1 2) (pI 1)))]⟩] (.cond (.s 3) (pQ [pR [pV 2 pF]] .ret) .skip),pQ [.reg ⟨[.lt 10 [] (.bin .lss (.m 1 3) (pI 0)),.lt 11 [] (.ite (.s 10) pT (.bin .lss (.m 1 4) (pI 0))),.lt 12 [] (.ite (.s 11) pT (.bin .lss (.m 1 5) (pI 0)))],[([(10,false)],.bin .lss (.m 1 4) (pI 0)),([(11,false)],.bin .lss (.m 1 5) (pI 0)),([(12,false)],.bin .lss (.m 1 6) (pI 0))],[pV 4 (.ite (.s 12) pT (.bin .lss (.m 1 6) (pI 0)))]⟩] (.cond (.s 4) (pQ [pR [pV 2 pF]] .ret) .skip),.reg ⟨[.lt 13 [] (.bin .leq (.m 1 3) (.m 1 1)),.lt 14 [] (.ite (.s 13) (.bin .leq (.m 1 4) (.bin .sub (.m 1 1) (.m 1 3))) pF),.lt 15 [] (.ite (.s 14) (.bin .leq (.m 1 5) (.m 1 1)) pF)],[([(13,true)],.bin .leq (.m 1 4) (.bin .sub (.m 1 1) (.m 1 3))),([(14,true)],.bin .leq (.m 1 5) (.m 1 1)),([(15,true)],.bin .leq (.m 1 6) (.bin .sub (.m 1 1) (.m 1 5)))],[pV 2 (.ite (.s 15) (.bin .leq (.m 1 6) (.bin .sub (.m 1 1) (.m 1 5))) pF)]⟩] .ret,[(2,.v)]⟩
def c73:ZH Sol.prog fresh sig [.fz] [] Tryz.f73=some Ie:=Z2
def AS:Fn:=⟨12,[0,1,2,4,5,6,7,28,27,33,45,50],
pQ [pR [(2,pS 0 7),pV 3 (pU 0),pV 4 (pI 0)],pR [pV 5 (.bin .add (.m 2 0) (.conv .u64 (.bin .mul (.m 2 2) (.m 2 1))))],pR [pV 6 (.bin .add (.m 2 0) (.conv .u64 (.bin .mul (.bin .sub (pI 1) (.m 2 2)) (.m 2 1))))],pQ [pR [pV 8 (.s 1)]] (.block 0 (pQ [pR [pV 7 (.bin .eql (.s 8) (pI 1))]] (.cond (.s 7) (pQ [pR [pV 3 (.s 5),pV 4 (.m 2 3)]] .ret) (pQ [pR [pV 9 (.bin .eql (.s 8) (pI 2))]] (.cond (.s 9) (pQ [pR [pV 3 (.bin .add (.s 5) (.conv .u64 (.bin .sub (.m 2 1) (.m 2 4)))),pV 4 (.m 2 4)]] .ret) (pQ [pR [pV 10 (.bin .eql (.s 8) (pI 3))]] (.cond (.s 10) (pQ [pR [pV 3 (.s 6),pV 4 (.m 2 5)]] .ret) (pQ [pR [pV 11 (.bin .eql (.s 8) (pI 4))]] (.cond (.s 11) (pQ [pR [pV 3 (.bin .add (.s 6) (.conv .u64 (.bin .sub (.m 2 1) (.m 2 6)))),pV 4 (.m 2 6)]] .ret) .skip))))))))),pR [pV 3 (pU 0),pV 4 (pI 0)]] .ret,[(3,.v),(4,.v)]⟩
def Dz:ZH Sol.prog fresh sig [.fz,.fz] [] Tryz.f74=some AS:=Z2
def zS:Fn:=⟨4,[0,1,2,6],
pQ [pR [pV 3 pF],.reg ⟨[.lt 4 [] (.bin .geq (.s 0) (pI 0)),.lt 5 [] (.ite (.s 4) (.bin .geq (.s 1) (pI 0)) pF),.lt 6 [] (.ite (.s 5) (.bin .leq (.s 0) (.s 2)) pF)],[([(4,true)],.bin .geq (.s 1) (pI 0)),([(5,true)],.bin .leq (.s 0) (.s 2)),([(6,true)],.bin .leq (.s 1) (.bin .sub (.s 2) (.s 0)))],[pV 3 (.ite (.s 6) (.bin .leq (.s 1) (.bin .sub (.s 2) (.s 0))) pF)]⟩] .ret,[(3,.v)]⟩
def c75:ZH Sol.prog fresh sig [.fz,.fz,.fz] [] Tryz.f75=some zS:=Z2
def If:Fn:=⟨3,[0,1,2],
pQ [pR [(1,pS 0 7),(2,.m [pU 0,pI 0,pU 0,pI 0,pU 0,pI 0,pU 0,pI 0])],pC [pK 3 95 [.mm 1 0 7,pI 1],pK 4 95 [.mm 1 0 7,pI 2],pK 5 95 [.mm 1 0 7,pI 3],pK 6 95 [.mm 1 0 7,pI 4]] [(2,pM (.ag [.fld (.ag [.one (.s 3),.m 1 3]) 0,.fld (.ag [.one (.s 3),.m 1 3]) 1,.fld (.ag [.one (.s 4),.m 1 4]) 0,.fld (.ag [.one (.s 4),.m 1 4]) 1,.fld (.ag [.one (.s 5),.m 1 5]) 0,.fld (.ag [.one (.s 5),.m 1 5]) 1,.fld (.ag [.one (.s 6),.m 1 6]) 0,.fld (.ag [.one (.s 6),.m 1 6]) 1]) 8)]] .ret,[(2,(.ag 8))]⟩
def c77:ZH Sol.prog fresh sig [.fz] [] Tryz.f77=some If:=Z2
def Kg:Fn:=⟨10,[0,1,2,4,5,9,8,11,13,15],
pQ [pR [(2,pS 0 7),pV 3 (pU 0)],pR [pV 4 (.m 2 0)],pQ [pR [pV 6 (.s 1)]] (.block 0 (pQ [.block 4 (pQ [.block 3 (pQ [.block 2 (pQ [.block 1 (pQ [pQ [pQ [pR [pV 5 (.bin .eql (.s 6) (pI 2))]] (.cond (.s 5) (.exit 1) .skip),pQ [pR [pV 7 (.bin .eql (.s 6) (pI 1))]] (.cond (.s 7) (.exit 2) .skip),pQ [pR [pV 8 (.bin .eql (.s 6) (pI 4))]] (.cond (.s 8) (.exit 3) .skip),pR [pV 9 (.bin .eql (.s 6) (pI 3))]] (.cond (.s 9) (.exit 4) .skip)] (.exit 0))] (pR [pV 4 (.bin .add (.s 4) (.conv .u64 (.bin .sub (.m 2 1) (.m 2 4))))])),pR [pV 4 (.bin .add (.s 4) (.conv .u64 (.bin .mul (.m 2 2) (.m 2 1))))]] (.exit 0))] (pR [pV 4 (.bin .add (.s 4) (.conv .u64 (.bin .sub (.m 2 1) (.m 2 6))))])),pR [pV 4 (.bin .add (.s 4) (.conv .u64 (.bin .mul (.bin .sub (pI 1) (.m 2 2)) (.m 2 1))))]] (.exit 0))),pR [pV 3 (.s 4)]] .ret,[(3,.v)]⟩
def c95:ZH Sol.prog fresh sig [.fz,.fz] [] Tryz.f95=some Kg:=Z2
end Vm
end
section
namespace Vm
open Go Go.Proofs
structure Ly where
 base:Int
 cap:Int
 to:Int
 low:Int
 high:Int
 old:Int
 far:Int
 deriving DecidableEq,Inhabited
def X3(l:Ly):V:=.agg [vu l.base,vi l.cap,vi l.to,vi l.low,vi l.high,vi l.old,vi l.far]
@[simp]theorem ZbR(l:Ly):Vk (X3 l) 7=some (X3 l):=rfl
@[simp]theorem ZaG(l:Ly):(X3 l).cells=[vu l.base,vi l.cap,vi l.to,vi l.low,vi l.high,vi l.old,vi l.far]:=rfl
@[simp]theorem Z9K(l:Ly):ZZ (X3 l) 0=some (vu l.base):=rfl
@[simp]theorem Z9L(l:Ly):ZZ (X3 l) 1=some (vi l.cap):=rfl
@[simp]theorem Z9M(l:Ly):ZZ (X3 l) 2=some (vi l.to):=rfl
@[simp]theorem Z9N(l:Ly):ZZ (X3 l) 3=some (vi l.low):=rfl
@[simp]theorem Z9O(l:Ly):ZZ (X3 l) 4=some (vi l.high):=rfl
@[simp]theorem Z9P(l:Ly):ZZ (X3 l) 5=some (vi l.old):=rfl
@[simp]theorem Z9Q(l:Ly):ZZ (X3 l) 6=some (vi l.far):=rfl
def Ly.fits(l:Ly):Prop:=ZA l.base/\Yv l.cap/\Yv l.to/\Yv l.low/\Yv l.high/\Yv l.old/\Yv l.far
def Tk(a b words:Int):Bool:=decide (0<=a)&&decide (0<=b)&&decide (a<=words)&&decide (b<=words-a)
def ZJ(l:Ly):Bool:=decide (0<=l.cap)&&decide (l.cap<=4096)&&decide (1<=l.base)&&decide (l.base<=9223372036854775808-2*l.cap)&&(decide (l.to=0)||decide (l.to=1))&&Tk l.low l.high l.cap&&Tk l.old l.far l.cap
theorem U0{l:Ly}:ZJ l=true↔0<=l.cap/\l.cap<=4096/\1<=l.base/\l.base<=9223372036854775808-2*l.cap/\(l.to=0\/l.to=1)/\(0<=l.low/\0<=l.high/\l.low<=l.cap/\l.high<=l.cap-l.low)/\(0<=l.old/\0<=l.far/\l.old<=l.cap/\l.far<=l.cap-l.old):=by
 simp[ZJ,Tk,and_assoc]
theorem V4{l:Ly}:ZJ l=false↔ ¬(0<=l.cap/\l.cap<=4096/\1<=l.base/\l.base<=9223372036854775808-2*l.cap/\(l.to=0\/l.to=1)/\(0<=l.low/\0<=l.high/\l.low<=l.cap/\l.high<=l.cap-l.low)/\(0<=l.old/\0<=l.far/\l.old<=l.cap/\l.far<=l.cap-l.old)):=by
 grind [U0]
def NM{a b w:Int}(h:Yv a)(n:Yv b)(j:Yv w):VC Sol.prog 75 false [vi a,vi b,vi w] (.bool (Tk a b w)):=by
 refine ZN Sol.func75 follows Z2 c75 rfl ?_;obtain⟨k,l⟩:=h;obtain⟨w1,w2⟩:=j;by_cases d:0<=a
 ·by_cases g:a<=w
  ·have e:=Zy (w-a) Z0 Z0;by_cases f:0<=b<;>simp[zS,Tk,d,g,f,e]
  ·by_cases f:0<=b<;>simp[zS,Tk,d,g,f]
 ·simp[zS,Tk,d]
def Kz{l:Ly}(y:l.fits):VC Sol.prog 43 false [X3 l] (.bool (ZJ l)):=by
 refine ZN Sol.func43 follows Z2 v9 rfl ?_;obtain⟨⟨u,w⟩,x,B,p,q,r,t⟩:=y;obtain⟨d,c2⟩:=x;simp[HU];by_cases g1:l.cap<0
 ·grind [ZJ,V4]
 by_cases g2:4096<l.cap
 ·grind [ZJ,V4]
 by_cases k:l.base<1
 ·grind [ZJ,V4]
 have f:=ZT l.cap Z0 Z0;have g:=ZT (2*l.cap) Z0 Z0;have j:=ZT (9223372036854775808-2*l.cap) Z0 Z0;by_cases n:9223372036854775808-2*l.cap<l.base
 ·grind [ZJ,V4]
 by_cases a:l.to=0\/l.to=1
 ·have k1:=NM p q ⟨d,c2⟩;have A:=NM r t ⟨d,c2⟩
  have z:ZJ l=(Tk l.low l.high l.cap&&Tk l.old l.far l.cap):=by
   obtain h|h:=a<;>simp[ZJ,show 0<=l.cap by omega,show l.cap<=4096 by omega,show 1<=l.base by omega,show l.base<=9223372036854775808-2*l.cap by omega,h]
  rw[z];obtain a|a:=a
  all_goals
   cases o:Tk l.low l.high l.cap
   ·rw[o]at k1;simp[g1,g2,k,f,g,j,n,a];refine Zw k1 Z1 ?_;simp
   ·rw[o]at k1;simp[g1,g2,k,f,g,j,n,a];refine Zw k1 Z1 ?_;simp;refine Zw A Z1 ?_;simp
 simp_all[ZJ,V4]
def M8{l:Ly}(j:l.fits):VC Sol.prog 73 false [X3 l] (.bool (ZJ l)):=by
 refine ZN Sol.func73 follows Z2 c73 rfl ?_;obtain⟨⟨f,g⟩,h,y,a,w,d,x⟩:=j;obtain⟨k,c2⟩:=h;simp[Ie];by_cases q:l.base<1
 ·grind [ZJ,V4]
 by_cases g1:l.cap<0
 ·grind [ZJ,V4]
 by_cases g2:4096<l.cap
 ·grind [ZJ,V4]
 have n:=ZT l.cap Z0 Z0;have o:=ZT (2*l.cap) Z0 Z0;have p:=ZT (9223372036854775808-2*l.cap) Z0 Z0;by_cases r:9223372036854775808-2*l.cap<l.base
 ·grind [ZJ,V4]
 by_cases t:l.to<0
 ·grind [ZJ,V4]
 by_cases u:1<l.to
 ·grind [ZJ,V4]
 by_cases D:l.low<0
 ·grind [ZJ,V4]
 by_cases F:l.high<0
 ·grind [ZJ,V4]
 by_cases G:l.old<0
 ·grind [ZJ,V4]
 by_cases H:l.far<0
 ·grind [ZJ,V4]
 obtain⟨z,A⟩:=a;obtain⟨B,C⟩:=d;have w1:=Zy (l.cap-l.low) Z0 Z0;have w2:=Zy (l.cap-l.old) Z0 Z0
 grind [ZJ,U0,V4]
def Xu(l:Ly):Int:=if ZJ l then l.cap-l.low-l.high else 0
def Z60{l:Ly}(a:l.fits):VC Sol.prog 48 false [X3 l] (vi (Xu l)):=by
 refine ZN Sol.func48 follows Z2 x5 rfl ?_;simp[HZ];refine Zw (Kz a) Z1 ?_;cases h:ZJ l
 ·simp[Xu,h]
 ·have g:=U0.1 h;have d:=Zy (l.cap-l.low) Z0 Z0;have f:=Zy (l.cap-l.low-l.high) Z0 Z0;simp_all[Xu]
def fstL(l:Ly)(part:Int):Int:=
 if part=1 then l.base+l.to*l.cap else if part=2 then l.base+l.to*l.cap+(l.cap-l.high)else if part=3 then l.base+(1-l.to)*l.cap else l.base+(1-l.to)*l.cap+(l.cap-l.far)
def YX(l:Ly)(part:Int):Int:=if part=1 then l.low else if part=2 then l.high else if part=3 then l.old else l.far
def q8{l:Ly}(a:ZJ l=true):(l.to*l.cap=0/\(1-l.to)*l.cap=l.cap)\/(l.to*l.cap=l.cap/\(1-l.to)*l.cap=0):=by
 grind [U0]
theorem WB{l:Ly}(a:ZJ l=true)(k:Int):1<=fstL l k/\fstL l k+YX l k<=9223372036854775808/\0<=YX l k/\YX l k<=4096:=by
 have h:=U0.1 a;have d:=q8 a;unfold fstL YX;omega
def Lz{l:Ly}(d:ZJ l=true){k:Int}(t:1<=k/\k<=4):VC Sol.prog 95 false [X3 l,vi k] (vu (fstL l k)):=by
 refine ZN Sol.func95 follows Z2 c95 rfl ?_;have h:=U0.1 d;have u:=q8 d;have w1:=Zy (l.to*l.cap) Z0 Z0;have w2:=Zy (1-l.to) Z0 Z0;have w3:=Zy ((1-l.to)*l.cap) Z0 Z0;have w4:=Zy (l.cap-l.high) Z0 Z0;have r:=Zy (l.cap-l.far) Z0 Z0;have f:=ZT (l.to*l.cap) Z0 Z0;have g:=ZT ((1-l.to)*l.cap) Z0 Z0;have j:=ZT (l.cap-l.high) Z0 Z0;have n:=ZT (l.cap-l.far) Z0 Z0;have v1:=ZT (l.base+l.to*l.cap) Z0 Z0;have o:=ZT (l.base+(l.cap-l.high)) Z0 Z0;have p:=ZT (l.base+(l.cap-l.high)+l.to*l.cap) Z0 Z0;have v4:=ZT (l.base+(1-l.to)*l.cap) Z0 Z0;have q:=ZT (l.base+(l.cap-l.far)) Z0 Z0;have v6:=ZT (l.base+(l.cap-l.far)+(1-l.to)*l.cap) Z0 Z0;have a:k=1\/k=2\/k=3\/k=4:=Z0;obtain rfl|rfl|rfl|rfl:=a
 ·simp[Kg,Ja,fstL,w1,f,v1]
 ·simp[Kg,Ja,fstL,w1,f,w4,j,o,p];omega
 ·simp[Kg,Ja,fstL,w2,w3,g,v4]
 ·simp[Kg,Ja,fstL,w2,w3,g,r,n,q,v6];omega
def WJ(l:Ly):V:=.agg [vu (fstL l 1),vi l.low,vu (fstL l 2),vi l.high,vu (fstL l 3),vi l.old,vu (fstL l 4),vi l.far]
def N6{l:Ly}(a:ZJ l=true):VC Sol.prog 77 false [X3 l] (WJ l):=by
 refine ZN Sol.func77 follows Z2 c77 rfl ?_;simp[If];refine Zw (Lz a (k:=1) Z0) (by simp[X3]) ?_;simp;refine Zw (Lz a (k:=2) Z0) (by simp[X3]) ?_;simp;refine Zw (Lz a (k:=3) Z0) (by simp[X3]) ?_;simp;refine Zw (Lz a (k:=4) Z0) (by simp[X3]) ?_;simp[WJ]
@[simp]theorem KH(l:Ly):YX l 1=l.low:=rfl
@[simp]theorem KI(l:Ly):YX l 2=l.high:=rfl
@[simp]theorem KJ(l:Ly):YX l 3=l.old:=rfl
@[simp]theorem KK(l:Ly):YX l 4=l.far:=rfl
def ZW(l:Ly)(part at_:Int):Int×Int:=
 if ZJ l=false then(0,1)else if part<1\/4<part then(0,6)else if at_<0\/YX l part<=at_ then(0,6)else(fstL l part+at_,0)
def D6{l:Ly}(p:l.fits){part at_:Int}:VC Sol.prog 57 false [X3 l,.agg [vi part,vi at_]] (.tup [vu (ZW l part at_).1,vi (ZW l part at_).2]):=by
 refine ZN Sol.func57 follows Z2 c57 rfl ?_;simp[I5];refine Zw (Kz p) Z1 ?_;cases d:ZJ l
 ·simp[ZW,d]
 ·simp;by_cases k:part<1
  ·grind [ZW]
  by_cases n:4<part
  ·simp_all[ZW]
  have o:part=1\/part=2\/part=3\/part=4:=Z0;simp[k,n];refine Zw (N6 d) Z1 ?_;obtain rfl|rfl|rfl|rfl:=o
  ·have a:=WB d 1;simp only[KH]at a;simp[WJ,Y6,Zy];by_cases f:at_<0
   ·grind [ZW]
   by_cases g:l.low<=at_
   ·simp_all[ZW]
   ·have h:=ZT at_ Z0 Z0;have j:=ZT (fstL l 1+at_) Z0 Z0;simp_all[ZW]
  ·have a:=WB d 2;simp only[KI]at a;simp[WJ,Y6,Zy];by_cases f:at_<0
   ·grind [ZW]
   by_cases g:l.high<=at_
   ·simp_all[ZW]
   ·have h:=ZT at_ Z0 Z0;have j:=ZT (fstL l 2+at_) Z0 Z0;simp_all[ZW]
  ·have a:=WB d 3;simp only[KJ]at a;simp[WJ,Y6,Zy];by_cases f:at_<0
   ·grind [ZW]
   by_cases g:l.old<=at_
   ·simp_all[ZW]
   ·have h:=ZT at_ Z0 Z0;have j:=ZT (fstL l 3+at_) Z0 Z0;simp_all[ZW]
  ·have a:=WB d 4;simp only[KK]at a;simp[WJ,Y6,Zy];by_cases f:at_<0
   ·grind [ZW]
   by_cases g:l.far<=at_
   ·simp_all[ZW]
   ·have h:=ZT at_ Z0 Z0;have j:=ZT (fstL l 4+at_) Z0 Z0;simp_all[ZW]
def yn{l:Ly}(d:ZJ l=true){k:Int}(r:1<=k/\k<=4):VC Sol.prog 74 false [X3 l,vi k] (.tup [vu (fstL l k),vi (YX l k)]):=by
 refine ZN Sol.func74 follows Z2 Dz rfl ?_;have h:=U0.1 d;have t:=q8 d;have w1:=Zy (l.to*l.cap) Z0 Z0;have w2:=Zy (1-l.to) Z0 Z0;have w3:=Zy ((1-l.to)*l.cap) Z0 Z0;have w4:=Zy (l.cap-l.high) Z0 Z0;have q:=Zy (l.cap-l.far) Z0 Z0;have f:=ZT (l.to*l.cap) Z0 Z0;have g:=ZT ((1-l.to)*l.cap) Z0 Z0;have j:=ZT (l.cap-l.high) Z0 Z0;have n:=ZT (l.cap-l.far) Z0 Z0;have v1:=ZT (l.base+l.to*l.cap) Z0 Z0;have o:=ZT (l.base+l.to*l.cap+(l.cap-l.high)) Z0 Z0;have v4:=ZT (l.base+(1-l.to)*l.cap) Z0 Z0;have p:=ZT (l.base+(1-l.to)*l.cap+(l.cap-l.far)) Z0 Z0;have a:k=1\/k=2\/k=3\/k=4:=Z0;obtain rfl|rfl|rfl|rfl:=a
 all_goals simp[AS,Ja,fstL,w1,f,w2,w3,g,w4,j,q,n,v1,o,v4,p]
def Z5F{l:Ly}(d:ZJ l=true){k:Int}(a:k<1\/4<k):VC Sol.prog 74 false [X3 l,vi k] (.tup [vu 0,vi 0]):=by
 refine ZN Sol.func74 follows Z2 Dz rfl ?_;simp[AS,Ja,show k≠1 by omega,show k≠2 by omega,show k≠3 by omega,show k≠4 by omega]
def Bv{l:Ly}(p:l.fits){part at_:Int}:VC Sol.prog 40 false [X3 l,.agg [vi part,vi at_]] (.tup [vu (ZW l part at_).1,vi (ZW l part at_).2]):=by
 refine ZN Sol.func40 follows Z2 u5 rfl ?_;simp[HQ];refine Zw (M8 p) Z1 ?_;cases a:ZJ l
 ·simp[ZW,a]
 ·simp;by_cases n:part<1\/4<part
  ·refine Zw (Z5F a n) Z1 ?_;by_cases d:at_<0
   ·simp[ZW,a,n,d]
   ·simp[ZW,a,n,d,show 0<=at_ by omega]
  have o:part=1\/part=2\/part=3\/part=4:=Z0;obtain rfl|rfl|rfl|rfl:=o
  ·have g:=WB a 1;simp only[KH]at g;refine Zw (yn a (k:=1) Z0) Z1 ?_;by_cases d:at_<0
   ·simp[ZW,a,d]
   by_cases f:l.low<=at_
   ·simp[ZW,a,d,f]
   ·have h:=ZT at_ Z0 Z0;have j:=ZT (fstL l 1+at_) Z0 Z0;simp[ZW,a,d,f,h,j]
  ·have g:=WB a 2;simp only[KI]at g;refine Zw (yn a (k:=2) Z0) Z1 ?_;by_cases d:at_<0
   ·simp[ZW,a,d]
   by_cases f:l.high<=at_
   ·simp[ZW,a,d,f]
   ·have h:=ZT at_ Z0 Z0;have j:=ZT (fstL l 2+at_) Z0 Z0;simp[ZW,a,d,f,h,j]
  ·have g:=WB a 3;simp only[KJ]at g;refine Zw (yn a (k:=3) Z0) Z1 ?_;by_cases d:at_<0
   ·simp[ZW,a,d]
   by_cases f:l.old<=at_
   ·simp[ZW,a,d,f]
   ·have h:=ZT at_ Z0 Z0;have j:=ZT (fstL l 3+at_) Z0 Z0;simp[ZW,a,d,f,h,j]
  ·have g:=WB a 4;simp only[KK]at g;refine Zw (yn a (k:=4) Z0) Z1 ?_;by_cases d:at_<0
   ·simp[ZW,a,d]
   by_cases f:l.far<=at_
   ·simp[ZW,a,d,f]
   ·have h:=ZT at_ Z0 Z0;have j:=ZT (fstL l 4+at_) Z0 Z0;simp[ZW,a,d,f,h,j]
def X2(l:Ly)(a k:Int):Bool:=decide (fstL l k<=a)&&decide (a<fstL l k+YX l k)
theorem TB{l:Ly}{a k:Int}:X2 l a k=true↔fstL l k<=a/\a<fstL l k+YX l k:=by simp[X2]
def LY{l:Ly}{a k:Int}:X2 l a k=false↔ ¬(fstL l k<=a/\a<fstL l k+YX l k):=by grind [TB]
def Yc(l:Ly)(a:Int):Int×Int×Int:=
 if ZJ l=false then(0,0,1)else if X2 l a 1 then(1,a-fstL l 1,0)else if X2 l a 2 then(2,a-fstL l 2,0)else if X2 l a 3 then(3,a-fstL l 3,0)else if X2 l a 4 then(4,a-fstL l 4,0)else(0,0,6)
def Z0M{l:Ly}(x:l.fits){a:Int}(w:ZA a):VC Sol.prog 45 false [X3 l,vu a] (.tup [.agg [vi (Yc l a).1,vi (Yc l a).2.1],vi (Yc l a).2.2]):=by
 refine ZN Sol.func45 follows Z2 x0 rfl ?_;simp[HW];refine Zw (Kz x) Z1 ?_;cases o:ZJ l
 ·simp[Yc,o]
 ·obtain⟨z,A⟩:=w;simp;refine Zw (N6 o) (by simp[X3]) ?_;simp;have r:∀k,1<=fstL l k/\fstL l k+YX l k<=9223372036854775808/\0<=YX l k/\YX l k<=4096:=λk=>WB o k;have w1:=r 1;have w2:=r 2;have w3:=r 3;have w4:=r 4;simp only[KH,KI,KJ,KK]at w1 w2 w3 w4;refine Tl 6 4 (λi=>(0<i->X2 l a 1=false)/\(1<i->X2 l a 2=false)/\(2<i->X2 l a 3=false)/\(3<i->X2 l a 4=false)) Z1 Z1 Z1 ?_;rintro i B ⟨n,p,t,y⟩;have u:i=0\/i=1\/i=2\/i=3\/i=4:=Z0;obtain rfl|rfl|rfl|rfl|rfl:=u
  ·have h:=ZT l.low Z0 Z0;by_cases f:fstL l 1<=a
   ·have j:=ZT (a-fstL l 1) Z0 Z0;by_cases g:a-fstL l 1<l.low
    ·have q:=Zy (a-fstL l 1) Z0 Z0;have d:X2 l a 1=true:=TB.2 ⟨f,by rw[KH];omega⟩;simp[WJ,Y6,Zy,f,h,j,g,q,Yc,o,d]
    ·have d:X2 l a 1=false:=LY.2 (by rw[KH];omega);simp[WJ,Y6,Zy,f,h,j,g,d]
   ·have d:X2 l a 1=false:=by simp[X2,f]
    simp[WJ,Y6,Zy,f,d]
  ·have h:=ZT l.high Z0 Z0;by_cases f:fstL l 2<=a
   ·have j:=ZT (a-fstL l 2) Z0 Z0;by_cases g:a-fstL l 2<l.high
    ·have q:=Zy (a-fstL l 2) Z0 Z0;have d:X2 l a 2=true:=TB.2 ⟨f,by rw[KI];omega⟩;simp[WJ,Y6,Zy,f,h,j,g,q,Yc,o,d,n Z0]
    ·have d:X2 l a 2=false:=LY.2 (by rw[KI];omega);simp[WJ,Y6,Zy,f,h,j,g,d,n Z0]
   ·have d:X2 l a 2=false:=by simp[X2,f]
    simp[WJ,Y6,Zy,f,d,n Z0]
  ·have h:=ZT l.old Z0 Z0;by_cases f:fstL l 3<=a
   ·have j:=ZT (a-fstL l 3) Z0 Z0;by_cases g:a-fstL l 3<l.old
    ·have q:=Zy (a-fstL l 3) Z0 Z0;have d:X2 l a 3=true:=TB.2 ⟨f,by rw[KJ];omega⟩;simp[WJ,Y6,Zy,f,h,j,g,q,Yc,o,d,n Z0,p Z0]
    ·have d:X2 l a 3=false:=LY.2 (by rw[KJ];omega);simp[WJ,Y6,Zy,f,h,j,g,d,n Z0,p Z0]
   ·have d:X2 l a 3=false:=by simp[X2,f]
    simp[WJ,Y6,Zy,f,d,n Z0,p Z0]
  ·have h:=ZT l.far Z0 Z0;by_cases f:fstL l 4<=a
   ·have j:=ZT (a-fstL l 4) Z0 Z0;by_cases g:a-fstL l 4<l.far
    ·have q:=Zy (a-fstL l 4) Z0 Z0;have d:X2 l a 4=true:=TB.2 ⟨f,by rw[KK];omega⟩;simp[WJ,Y6,Zy,f,h,j,g,q,Yc,o,d,n Z0,p Z0,t Z0]
    ·have d:X2 l a 4=false:=LY.2 (by rw[KK];omega);simp[WJ,Y6,Zy,f,h,j,g,d,n Z0,p Z0,t Z0]
   ·have d:X2 l a 4=false:=by simp[X2,f]
    simp[WJ,Y6,Zy,f,d,n Z0,p Z0,t Z0]
  ·simp[Yc,o,n Z0,p Z0,t Z0,y Z0]
end Vm
end
section
namespace Vm
open Go
open Go.Proofs
def p6:Fn:=⟨9,[0,1,2,3,6,10,7,14,18],
pQ [pR [(3,pS 0 10),(4,pZ)],pQ [pR [pV 6 (.s 1)]] (.block 0 (pQ [pR [pV 5 (.bin .eql (.s 6) (pI 1))]] (.cond (.s 5) (pR [(3,.m [.m 3 0,.m 3 1,.m 3 2,.m 3 3,.m 3 4,.one (.s 2),.m 3 6,.m 3 7,.m 3 8,.m 3 9])]) (pQ [pR [pV 7 (.bin .eql (.s 6) (pI 2))]] (.cond (.s 7) (pR [(3,.m [.m 3 0,.m 3 1,.m 3 2,.m 3 3,.m 3 4,.m 3 5,.one (.s 2),.m 3 7,.m 3 8,.m 3 9])]) (pQ [pR [pV 8 (.bin .eql (.s 6) (pI 3))]] (.cond (.s 8) (pR [(3,.m [.m 3 0,.m 3 1,.m 3 2,.m 3 3,.m 3 4,.m 3 5,.m 3 6,.one (.s 2),.m 3 8,.m 3 9])]) (pR [(3,.m [.m 3 0,.m 3 1,.m 3 2,.m 3 3,.m 3 4,.m 3 5,.m 3 6,.m 3 7,.one (.s 2),.m 3 9])])))))))),pR [(4,pM (.mm 3 0 10) 10)]] .ret,[(4,(.ag 10))]⟩
def c6:ZH Sol.prog fresh sig [.fz,.fz,.fz] [] Tryz.f6=some p6:=Z2
def p7:Fn:=⟨8,[0,1,2,4,6,5,10,14],
pQ [pR [(2,pS 0 10),pV 3 pN],pQ [pR [pV 5 (.s 1)]] (.block 0 (pQ [pR [pV 4 (.bin .eql (.s 5) (pI 1))]] (.cond (.s 4) (pQ [pR [pV 3 (.m 2 5)]] .ret) (pQ [pR [pV 6 (.bin .eql (.s 5) (pI 2))]] (.cond (.s 6) (pQ [pR [pV 3 (.m 2 6)]] .ret) (pQ [pR [pV 7 (.bin .eql (.s 5) (pI 3))]] (.cond (.s 7) (pQ [pR [pV 3 (.m 2 7)]] .ret) .skip))))))),pR [pV 3 (.m 2 8)]] .ret,[(3,.v)]⟩
def c7:ZH Sol.prog fresh sig [.fz,.fz] [] Tryz.f7=some p7:=Z2
def AK:Fn:=⟨4,[0,1,4,6],
pQ [pR [pV 2 (pI 0)],pQ [pR [pV 3 (.bin .lss (.s 0) (pI 0))]] (.cond (.s 3) (pR [pV 0 (.un .neg (.bin .add (.s 0) (pI 1)))]) .skip),pR [pV 2 (.bin .rem (.s 0) (.s 1))]] .ret,[(2,.v)]⟩
def PP:ZH Sol.prog fresh sig [.fz,.fz] [] Tryz.f17=some AK:=Z2
def AL:Fn:=⟨7,[0,1,4,10,5,14,25],
pQ [pR [pV 2 pF],pQ [pR [pV 3 (.bin .neq (.len (.s 0)) (.len (.s 1)))]] (.cond (.s 3) (pQ [pR [pV 2 pF]] .ret) .skip),pQ [pR [pV 4 (pI 0)]] (.block 0 (.loop [0,1,2,3,4] (pQ [pQ [pR [pV 5 (.bin .lss (.s 4) (.len (.s 0)))]] (.cond (.s 5) .skip (.exit 0)),.block 1 (pQ [pR [pV 6 (.bin .neq (.fld (.idx (.s 0) (.s 4) 1) 0) (.fld (.idx (.s 1) (.s 4) 1) 0))]] (.cond (.s 6) (pQ [pR [pV 2 pF]] .ret) .skip))] (pR [pV 4 (.bin .add (.s 4) (pI 1))])))),pR [pV 2 pT]] .ret,[(2,.v)]⟩
def PT:ZH Sol.prog fresh sig [.fz,.fz] [] Tryz.f22=some AL:=Z2
def AM:Fn:=⟨4,[0,1,4,6],
pQ [pR [pV 2 (pI 0)],pQ [pR [pV 3 (.bin .lss (.s 0) (pI 0))]] (.cond (.s 3) (pR [pV 0 (.un .neg (.bin .add (.s 0) (pI 1)))]) .skip),pR [pV 2 (.bin .rem (.s 0) (.s 1))]] .ret,[(2,.v)]⟩
def PX:ZH Sol.prog fresh sig [.fz,.fz] [] Tryz.f26=some AM:=Z2
def HM:Fn:=⟨10,[0,1,2,3,4,39,5,41,6,52],
pQ [pR [(2,pS 0 10),(3,pS 1 10),pV 4 pF],pQ [.reg ⟨[.lt 10 [] (.bin .neq (.m 2 0) (.m 3 0)),.lt 11 [] (.ite (.s 10) pT (.bin .neq (.m 2 1) (.m 3 1))),.lt 12 [] (.ite (.s 11) pT (.bin .neq (.m 2 2) (.m 3 2))),.lt 13 [] (.ite (.s 12) pT (.eqv true (.m 2 3) (.m 3 3)))],[([(10,false)],.bin .neq (.m 2 1) (.m 3 1)),([(11,false)],.bin .neq (.m 2 2) (.m 3 2)),([(12,false)],.eqv true (.m 2 3) (.m 3 3)),([(13,false)],.bin .neq (.m 2 4) (.m 3 4))],[pV 5 (.ite (.s 13) pT (.bin .neq (.m 2 4) (.m 3 4)))]⟩] (.cond (.s 5) (pQ [pR [pV 4 pF]] .ret) .skip),pQ [pR [pV 6 (pI 1)]] (.block 0 (.loop [0,1,2,3,4,5,6] (pQ [pQ [pR [pV 7 (.bin .leq (.s 6) (pI 4))]] (.cond (.s 7) .skip (.exit 0)),.block 1 (pQ [pC [pK 14 7 [.mm 2 0 10,.s 6],pK 15 7 [.mm 3 0 10,.s 6],pK 16 22 [.s 14,.s 15]] [pV 8 (.s 16)],pR [pV 9 (.un .not (.s 8))]] (.cond (.s 9) (pQ [pR [pV 4 pF]] .ret) .skip))] (pR [pV 6 (.bin .add (.s 6) (pI 1))])))),pC [pK 17 22 [.m 2 9,.m 3 9]] [pV 4 (.s 17)]] .ret,[(4,.v)]⟩
def t8:ZH Sol.prog fresh sig [.fz,.fz] [] Tryz.f38=some HM:=Z2
def HR:Fn:=⟨3,[0,1,2],
pQ [pR [(1,pS 0 10),(2,.m [pU 0,pI 0,pI 0,pI 0,pI 0,pI 0,pI 0])],pR [(2,pM (.ag [.m 1 0,.m 1 1,.m 1 2,.len (.m 1 5),.len (.m 1 6),.len (.m 1 7),.len (.m 1 8)]) 7)]] .ret,[(2,(.ag 7))]⟩
def u9:ZH Sol.prog fresh sig [.fz] [] Tryz.f41=some HR:=Z2
def HT:Fn:=⟨3,[0,1,2],
pQ [pR [(1,pS 0 10),(2,.m [pU 0,pI 0,pI 0,pI 0,pI 0,pI 0,pI 0])],pR [(2,pM (.ag [.m 1 0,.m 1 1,.m 1 2,.len (.m 1 5),.len (.m 1 6),.len (.m 1 7),.len (.m 1 8)]) 7)]] .ret,[(2,(.ag 7))]⟩
def v5:ZH Sol.prog fresh sig [.fz] [] Tryz.f42=some HT:=Z2
def AT:Fn:=⟨4,[0,1,4,6],
pQ [pR [pV 2 (pI 0)],pQ [pR [pV 3 (.bin .lss (.s 0) (pI 0))]] (.cond (.s 3) (pR [pV 0 (.un .neg (.bin .add (.s 0) (pI 1)))]) .skip),pR [pV 2 (.bin .rem (.s 0) (.s 1))]] .ret,[(2,.v)]⟩
def c81:ZH Sol.prog fresh sig [.fz,.fz] [] Tryz.f81=some AT:=Z2
end Vm
end
section
namespace Vm
open Go Go.Proofs
structure Hp where
 base:Int
 cap:Int
 to:Int
 cycle:Bool
 scan:Int
 low:List Int
 high:List Int
 old:List Int
 far:List Int
 roots:List Int
 deriving DecidableEq,Inhabited
def ZD(h:Hp):V:=.agg [vu h.base,vi h.cap,vi h.to,.bool h.cycle,vi h.scan,.sl (h.low.map vu),.sl (h.high.map vu),.sl (h.old.map vu),.sl (h.far.map vu),.sl (h.roots.map vu)]
@[simp]theorem ZbQ(h:Hp):Vk (ZD h) 10=some (ZD h):=rfl
@[simp]theorem Zap(h:Hp):(ZD h).cells=[vu h.base,vi h.cap,vi h.to,.bool h.cycle,vi h.scan,.sl (h.low.map vu),.sl (h.high.map vu),.sl (h.old.map vu),.sl (h.far.map vu),.sl (h.roots.map vu)]:=rfl
@[simp]theorem Z9z(h:Hp):ZZ (ZD h) 0=some (vu h.base):=rfl
@[simp]theorem Z9A(h:Hp):ZZ (ZD h) 1=some (vi h.cap):=rfl
@[simp]theorem Z9B(h:Hp):ZZ (ZD h) 2=some (vi h.to):=rfl
@[simp]theorem Z9C(h:Hp):ZZ (ZD h) 3=some (.bool h.cycle):=rfl
@[simp]theorem Z9D(h:Hp):ZZ (ZD h) 4=some (vi h.scan):=rfl
@[simp]theorem Z9E(h:Hp):ZZ (ZD h) 5=some (.sl (h.low.map vu)):=rfl
@[simp]theorem Z9F(h:Hp):ZZ (ZD h) 6=some (.sl (h.high.map vu)):=rfl
@[simp]theorem Z9G(h:Hp):ZZ (ZD h) 7=some (.sl (h.old.map vu)):=rfl
@[simp]theorem Z9H(h:Hp):ZZ (ZD h) 8=some (.sl (h.far.map vu)):=rfl
@[simp]theorem Z9I(h:Hp):ZZ (ZD h) 9=some (.sl (h.roots.map vu)):=rfl
def Zv(h:Hp):Ly:=⟨h.base,h.cap,h.to,h.low.length,h.high.length,h.old.length,h.far.length⟩
structure Hp.ok (h:Hp):Prop where
 base:ZA h.base
 cap:Yv h.cap
 to:Yv h.to
 scan:Yv h.scan
 low:h.low.length<=1000000
 high:h.high.length<=1000000
 old:h.old.length<=1000000
 far:h.far.length<=1000000
 roots:h.roots.length<=1000000
 lowW:∀w∈h.low,ZA w
 highW:∀w∈h.high,ZA w
 oldW:∀w∈h.old,ZA w
 farW:∀w∈h.far,ZA w
 rootsW:∀w∈h.roots,ZA w
def LA{α:Type}{l:List α}(h:l.length<=1000000):Yv (l.length:Int):=⟨Z0,Z0⟩
def Hp.ok.lay{h:Hp}(a:h.ok):(Zv h).fits:=⟨a.base,a.cap,a.to,LA a.low,LA a.high,LA a.old,LA a.far⟩
def CQ{h:Hp}:VC Sol.prog 42 false [ZD h] (X3 (Zv h)):=by
 refine ZN Sol.func42 follows Z2 v5 rfl ?_;simp[HT,X3,Zv]
def yp{h:Hp}:VC Sol.prog 41 false [ZD h] (X3 (Zv h)):=by
 refine ZN Sol.func41 follows Z2 u9 rfl ?_;simp[HR,X3,Zv]
def Zz(h:Hp)(n:Int):List Int:=if n=1 then h.low else if n=2 then h.high else if n=3 then h.old else h.far
@[simp]theorem QS(h:Hp):Zz h 1=h.low:=rfl
@[simp]theorem zW(h:Hp):Zz h 2=h.high:=rfl
@[simp]theorem zX(h:Hp):Zz h 3=h.old:=rfl
@[simp]theorem zY(h:Hp):Zz h 4=h.far:=rfl
def Um{h:Hp}{n:Int}:VC Sol.prog 7 false [ZD h,vi n] (.sl ((Zz h n).map vu)):=by
 refine ZN Sol.func7 follows Z2 c7 rfl ?_;simp_all[p7,Zz]
def Xq(h:Hp)(n:Int)(l:Ze):Hp:=if n=1 then {h with low:=l}else if n=2 then {h with high:=l}else if n=3 then {h with old:=l}else {h with far:=l}
@[simp]theorem Zc1(h:Hp)(l:Ze):Xq h 1 l= {h with low:=l}:=rfl
@[simp]theorem Zc2(h:Hp)(l:Ze):Xq h 2 l= {h with high:=l}:=rfl
@[simp]theorem Z7R(h:Hp)(l:Ze):Xq h 3 l= {h with old:=l}:=rfl
@[simp]theorem Z7S(h:Hp)(l:Ze):Xq h 4 l= {h with far:=l}:=rfl
def D4{h:Hp}{n:Int}{l:Ze}:VC Sol.prog 6 false [ZD h,vi n,.sl (l.map vu)] (ZD (Xq h n l)):=by
 refine ZN Sol.func6 follows Z2 c6 rfl ?_;by_cases a:n=1
 ·simp[p6,Xq,a,ZD]
 by_cases d:n=2
 ·simp[p6,Xq,d,ZD]
 by_cases f:n=3<;>simp[p6,Xq,a,d,f,ZD]
theorem Cf{α:Type}{a b:List α}{i:Nat}(h:a.take i=b.take i)(hx:a[i]?=b[i]?):a.take (i+1)=b.take (i+1):=by
 simp_all[Zee]
def ZaP{α:Type}{a b:List α}{i:Nat}(h:a[i]? ≠b[i]?):a≠b:=λe=>h (by rw[e])
def RD{a b:Ze}(k:a.length<=1000000):VC Sol.prog 22 false [.sl (a.map vu),.sl (b.map vu)] (.bool (decide (a=b))):=by
 refine ZN Sol.func22 follows Z2 PT rfl ?_;by_cases g:a.length=b.length
 ·simp[AL,g];refine Tl 4 b.length (λi=>a.take i=b.take i) Z1 Z1 Z1 ?_;intro i l heq;have j:=Zy ((i:Int)+1) Z0 Z0;by_cases h:i<b.length
  ·have d:i<a.length:=Z0;by_cases f:a[i]=b[i]
   ·simp[h,d,f,j]
    grind [Cf]
   ·simp[h,d,f]
    grind
  simp_all[Zem,Zek]
 ·simp[AL,show ¬((a.length:Int)=(b.length:Int))by omega]
  grind
def Z6u{a b:Hp}(f:a.ok):VC Sol.prog 38 false [ZD a,ZD b] (.bool (decide (a=b))):=by
 refine ZN Sol.func38 follows Z2 t8 rfl ?_;simp[HM]
 have g:∀k,(Zz a k).length<=1000000:=λk=>by
  unfold Zz;split
  ·exact f.low
  split
  ·exact f.high
  split
  ·exact f.old
  ·exact f.far
 by_cases g1:a.base=b.base
 case neg=>
  grind
 by_cases g2:a.cap=b.cap
 case neg=>
  grind
 by_cases j:a.to=b.to
 case neg=>
  grind
 by_cases l:a.cycle=b.cycle
 case neg=>
  grind
 by_cases o:a.scan=b.scan
 case neg=>
  grind
 simp[g1,g2,j,l,o];refine Vp (λ(i:Nat)=>[(6,.v (vi ((i+1:Nat):Int)))]) (λi=>i<=4/\(0<i->a.low=b.low)/\(1<i->a.high=b.high)/\(2<i->a.old=b.old)/\(3<i->a.far=b.far)) (ZY 6 5) 0 Z1 Z1 ?_;rintro i ⟨A,w,x,y,z⟩;have p:i=0\/i=1\/i=2\/i=3\/i=4:=Z0;obtain rfl|rfl|rfl|rfl|rfl:=p
 ·simp;refine Zw (Um (h:=⟨b.base,b.cap,b.to,b.cycle,b.scan,a.low,a.high,a.old,a.far,a.roots⟩) (n:=1)) ZcH ?_;simp;refine Zw (Um (h:=b) (n:=1)) ZcH ?_;simp;refine Zw (RD (b:=b.low) (g 1)) Z1 ?_;by_cases d:a.low=b.low
  ·simp[d,Zy];exact⟨1,by simp[d],Z1,ZcX⟩
  ·have:a≠b:=λe=>d (by rw[e]);simp_all
 ·simp;refine Zw (Um (h:=⟨b.base,b.cap,b.to,b.cycle,b.scan,a.low,a.high,a.old,a.far,a.roots⟩) (n:=2)) ZcH ?_;simp;refine Zw (Um (h:=b) (n:=2)) ZcH ?_;simp;refine Zw (RD (b:=b.high) (g 2)) Z1 ?_;by_cases d:a.high=b.high
  ·simp[d,Zy];exact⟨2,Zcq,Z1,ZcX⟩
  ·have:a≠b:=λe=>d (by rw[e]);simp_all
 ·simp;refine Zw (Um (h:=⟨b.base,b.cap,b.to,b.cycle,b.scan,a.low,a.high,a.old,a.far,a.roots⟩) (n:=3)) ZcH ?_;simp;refine Zw (Um (h:=b) (n:=3)) ZcH ?_;simp;refine Zw (RD (b:=b.old) (g 3)) Z1 ?_;by_cases d:a.old=b.old
  ·simp[d,Zy];exact⟨3,Zcq,Z1,ZcX⟩
  ·have:a≠b:=λe=>d (by rw[e]);simp_all
 ·simp;refine Zw (Um (h:=⟨b.base,b.cap,b.to,b.cycle,b.scan,a.low,a.high,a.old,a.far,a.roots⟩) (n:=4)) ZcH ?_;simp;refine Zw (Um (h:=b) (n:=4)) ZcH ?_;simp;refine Zw (RD (b:=b.far) (g 4)) Z1 ?_;by_cases d:a.far=b.far
  ·simp[d,Zy];exact⟨4,Zcq,Z1,ZcX⟩
  ·have:a≠b:=λe=>d (by rw[e]);simp_all
 ·simp;refine Zw (RD (b:=b.roots) f.roots) Z1 ?_;by_cases d:a.roots=b.roots
  ·have:a=b:=by
    have q:=w Z0;have r:=x Z0;have t:=y Z0;have u:=z Z0;obtain⟨_,_,_,_,_,_,_,_,_,_⟩:=a;obtain⟨_,_,_,_,_,_,_,_,_,_⟩:=b;simp only at g1 g2 j l o q r t u d;subst g1 g2 j l o q r t u d;rfl
   simp_all
  ·have:a≠b:=λe=>d (by rw[e]);simp_all
def pick(c n:Int):Int:=(if c<0 then-(c+1)else c) %n
def VY{c n:Int}(a:0<n):0<=pick c n/\pick c n<n:=⟨Zhm _ Z0,ZgQ _ a⟩
def Ki{c n:Int}(hc:Yv c)(f:0<n):VC Sol.prog 26 false [vi c,vi n] (vi (pick c n)):=by
 refine ZN Sol.func26 follows Z2 PX rfl ?_;obtain⟨a,d⟩:=hc;by_cases h:c<0
 ·simp[AM,h];simp(disch:=omega) only[Zy];refine⟨Z0,?_⟩;unfold pick
  grind
 ·simp[AM,h];refine⟨Z0,?_⟩;simp_all[pick,if_neg,Zec]
def Iy{c n:Int}(hc:Yv c)(f:0<n):VC Sol.prog 17 false [vi c,vi n] (vi (pick c n)):=by
 refine ZN Sol.func17 follows Z2 PP rfl ?_;obtain⟨a,d⟩:=hc;by_cases h:c<0
 ·simp[AK,h];simp(disch:=omega) only[Zy];refine⟨Z0,?_⟩;unfold pick
  grind
 ·simp[AK,h];refine⟨Z0,?_⟩;simp_all[pick,if_neg,Zec]
def Ix{c n:Int}(hc:Yv c)(f:0<n):VC Sol.prog 81 false [vi c,vi n] (vi (pick c n)):=by
 refine ZN Sol.func81 follows Z2 c81 rfl ?_;obtain⟨a,d⟩:=hc;by_cases h:c<0
 ·simp[AT,h];simp(disch:=omega) only[Zy];refine⟨Z0,?_⟩;unfold pick
  grind
 ·simp[AT,h];refine⟨Z0,?_⟩;simp_all[pick,if_neg,Zec]
end Vm
end
section
namespace Vm
open Go
open Go.Proofs
def I2:Fn:=⟨13,[0,1,4,5,6,7,16,8,9,30,10,78,97],
pQ [pR [(2,.m [pN,pN])],pR [pV 3 (.mn (.len (.s 0)) (pI 10))],pR [(4,.m [pN,pN])],pQ [pR [pV 5 (pI 0)]] (.block 0 (.loop [0,1,2,3,4,5] (pQ [pQ [pR [pV 6 (.bin .lss (.s 5) (.s 3))]] (.cond (.s 6) .skip (.exit 0)),.block 1 (pQ [pR [(7,.m [pN,pN])],pQ [pR [pV 8 (pI 0)]] (.block 2 (.loop [0,1,2,3,4,5,6,7,8] (pQ [pQ [.reg ⟨[.lt 13 [] (.bin .lss (.s 8) (.len (.fld (.idx (.s 0) (.s 5) 2) 0)))],[([(13,true)],.bin .lss (.s 8) (pI 4))],[pV 9 (.ite (.s 13) (.bin .lss (.s 8) (pI 4)) pF)]⟩] (.cond (.s 9) .skip (.exit 2)),.block 3 (pC [pK 14 81 [.fld (.idx (.fld (.idx (.s 0) (.s 5) 2) 0) (.s 8) 1) 0,.bin .add (.s 3) (pI 1)]] [(7,.m [.app (.m 7 0) (.lit [.bin .sub (.s 14) (pI 1)]) 1,.m 7 1])])] (pR [pV 8 (.bin .add (.s 8) (pI 1))])))),pR [(7,.m [.m 7 0,.app pN (.slc (.fld (.idx (.s 0) (.s 5) 2) 1) (pI 0) (.mn (.len (.fld (.idx (.s 0) (.s 5) 2) 1)) (pI 4)) 1) 1])]] (pR [(4,.m [.app (.m 4 0) (.lit [.mm 7 0 2]) 2,.m 4 1])]))] (pR [pV 5 (.bin .add (.s 5) (pI 1))])))),pQ [pR [pV 10 (pI 0)]] (.block 4 (.loop [0,1,2,3,4,5,6,10] (pQ [pQ [.reg ⟨[.lt 15 [] (.bin .lss (.s 10) (.len (.s 1)))],[([(15,true)],.bin .lss (.s 10) (pI 5))],[pV 11 (.ite (.s 15) (.bin .lss (.s 10) (pI 5)) pF)]⟩] (.cond (.s 11) .skip (.exit 4)),.block 5 (pC [pK 16 81 [.fld (.idx (.s 1) (.s 10) 1) 0,.bin .add (.s 3) (pI 1)]] [(4,.m [.m 4 0,.app (.m 4 1) (.lit [.bin .sub (.s 16) (pI 1)]) 1])])] (pR [pV 10 (.bin .add (.s 10) (pI 1))])))),pQ [pR [pV 12 (.bin .eql (.len (.m 4 1)) (pI 0))]] (.cond (.s 12) (pR [(4,.m [.m 4 0,.app (.m 4 1) (.lit [.bin .sub (.s 3) (pI 1)]) 1])]) .skip),pR [(2,pM (.mm 4 0 2) 2)]] .ret,[(2,(.ag 2))]⟩
def c52:ZH Sol.prog fresh sig [.fz,.fz] [] Tryz.f52=some I2:=Z2
def AO:Fn:=⟨10,[0,1,2,3,6,7,8,14,9,31],
pQ [pR [(3,pS 0 7),pV 4 (pI 0),pV 5 pF],pR [pV 6 (.s 1)],pQ [pR [pV 7 (.bin .gtr (.len (.m 3 2)) (pI 0))]] (.cond (.s 7) (pR [pV 6 (.fld (.idx (.m 3 2) (.bin .rem (.s 1) (.len (.m 3 2))) 1) 0)]) .skip),pC [pK 10 26 [.s 6,pI 3]] [pV 8 (.s 10)],pQ [.reg ⟨[.lt 11 [] (.bin .eql (.s 8) (pI 2))],[([(11,true)],.un .not (.s 2))],[pV 9 (.ite (.s 11) (.un .not (.s 2)) pF)]⟩] (.cond (.s 9) (pR [pV 8 (pI 1)]) .skip),pC [pK 12 26 [.bin .quo (.s 6) (pI 3),pI 2]] [pV 4 (.s 8),pV 5 (.bin .eql (.s 12) (pI 1))]] .ret,[(4,.v),(5,.v)]⟩
def c53:ZH Sol.prog fresh sig [.fz,.fz,.fz] [] Tryz.f53=some AO:=Z2
def I3:Fn:=⟨15,[0,1,2,3,4,5,6,8,9,10,11,12,44,13,76],
pQ [pR [(4,pS 0 14),(5,pS 1 2),(6,pS 2 2),(7,.m [pU 0,pI 0,pI 0,pF,pI 0,pN,pN,pN,pN,pN,pN,pN,pN,pN])],pC [pK 15 7 [.mm 4 0 10,.m 5 0]] [pV 8 (.app pN (.s 15) 1)],pC [pK 16 82 [.ag [.bin .add (.len (.m 6 0)) (.len (.m 6 1)),.len (.m 6 0)]]] [pV 9 (.ext (.s 16) 0),pV 10 (.ext (.s 16) 1)],.reg ⟨[],[([],.idx (.s 8) (.m 5 1) 1)],[pV 8 (.upd (.s 8) (.m 5 1) 0 (.one (.s 9)))]⟩,pQ [pR [pV 11 (pI 0)]] (.block 0 (.loop [0,1,2,3,4,5,6,7,8,9,10,11] (pQ [pQ [pR [pV 12 (.bin .lss (.s 11) (.len (.m 6 0)))]] (.cond (.s 12) .skip (.exit 0)),.block 1 (.reg ⟨[pK 17 83 [.mm 4 0 14,.ag [.m 5 0,.bin .add (.bin .add (.m 5 1) (pI 1)) (.s 11)],.fld (.idx (.m 6 0) (.s 11) 1) 0,.bin .add (.s 3) (.s 11)]],[([],.idx (.s 8) (.bin .add (.bin .add (.m 5 1) (pI 1)) (.s 11)) 1)],[pV 8 (.upd (.s 8) (.bin .add (.bin .add (.m 5 1) (pI 1)) (.s 11)) 0 (.one (.s 17)))]⟩)] (pR [pV 11 (.bin .add (.s 11) (pI 1))])))),pQ [pR [pV 13 (pI 0)]] (.block 2 (.loop [0,1,2,3,4,5,6,7,8,9,10,11,12,13] (pQ [pQ [pR [pV 14 (.bin .lss (.s 13) (.len (.m 6 1)))]] (.cond (.s 14) .skip (.exit 2)),.block 3 (.reg ⟨[],[([],.idx (.s 8) (.bin .add (.bin .add (.bin .add (.m 5 1) (pI 1)) (.len (.m 6 0))) (.s 13)) 1)],[pV 8 (.upd (.s 8) (.bin .add (.bin .add (.bin .add (.m 5 1) (pI 1)) (.len (.m 6 0))) (.s 13)) 0 (.fld (.idx (.m 6 1) (.s 13) 1) 0))]⟩)] (pR [pV 13 (.bin .add (.s 13) (pI 1))])))),pC [pK 18 6 [.mm 4 0 10,.m 5 0,.s 8]] [(4,.m [.fld (.sz (.s 18) 10) 0,.fld (.sz (.s 18) 10) 1,.fld (.sz (.s 18) 10) 2,.fld (.sz (.s 18) 10) 3,.fld (.sz (.s 18) 10) 4,.fld (.sz (.s 18) 10) 5,.fld (.sz (.s 18) 10) 6,.fld (.sz (.s 18) 10) 7,.fld (.sz (.s 18) 10) 8,.fld (.sz (.s 18) 10) 9,.m 4 10,.m 4 11,.m 4 12,.m 4 13])],pR [(7,pM (.mm 4 0 14) 14)]] .ret,[(7,(.ag 14))]⟩
def c54:ZH Sol.prog fresh sig [.fz,.fz,.fz,.fz] [] Tryz.f54=some I3:=Z2
def AQ:Fn:=⟨10,[0,1,2,3,4,11,5,6,7,8],
pQ [pR [(2,pS 0 14),(3,pS 1 2),pV 4 (pU 0)],pQ [pR [pV 5 (.bin .eql (.m 3 0) (pI 0))]] (.cond (.s 5) (pQ [pR [pV 4 (pU 0)]] .ret) .skip),pC [pK 10 41 [.mm 2 0 10],pK 11 40 [.s 10,.mm 3 0 2]] [pV 6 (.ext (.s 11) 0),pV 7 (.ext (.s 11) 1)],pC [pK 12 84 [.s 6]] [pV 8 (.ext (.s 12) 0),pV 9 (.ext (.s 12) 1)],pR [pV 4 (.s 8)]] .ret,[(4,.v)]⟩
def c55:ZH Sol.prog fresh sig [.fz,.fz] [] Tryz.f55=some AQ:=Z2
def TP:Fn:=⟨10,[0,1,2,3,4,5,8,10,13,54],
pQ [pR [(4,pS 0 14),(5,pS 1 2),pV 6 (pU 0)],pQ [pR [pV 7 (.bin .lss (.s 2) (pI 0))]] (.cond (.s 7) (pQ [pR [pV 6 (pU 0)]] .ret) .skip),pQ [pR [pV 8 (.bin .gtr (.m 5 0) (pI 2))]] (.cond (.s 8) (pQ [pC [pK 10 55 [.mm 4 0 14,.flds (.idx (.m 4 13) (.s 2) 2) 0 2]] [pV 6 (.s 10)]] .ret) .skip),pQ [.reg ⟨[.lt 11 [] (.bin .eql (.m 5 0) (pI 1)),.lt 12 [] (.ite (.s 11) (.bin .geq (.m 5 1) (.m 4 4)) pF),.lt 13 [(12,true)] (.bin .eql (.fld (.idx (.m 4 12) (.s 2) 2) 0) (pI 0)),.lt 14 [(12,true),(13,false)] (.bin .gtr (.fld (.idx (.m 4 13) (.s 2) 2) 0) (pI 0))],[([(11,true)],.bin .geq (.m 5 1) (.m 4 4)),([(12,true),(13,false),(14,true)],.bin .eql (.bin .rem (.s 3) (pI 2)) (pI 0)),([(12,true),(13,false)],.ite (.s 14) (.bin .eql (.bin .rem (.s 3) (pI 2)) (pI 0)) pF),([(12,true)],.ite (.s 13) pT (.ite (.s 14) (.bin .eql (.bin .rem (.s 3) (pI 2)) (pI 0)) pF))],[pV 9 (.ite (.s 12) (.ite (.s 13) pT (.ite (.s 14) (.bin .eql (.bin .rem (.s 3) (pI 2)) (pI 0)) pF)) pF)]⟩] (.cond (.s 9) (pQ [pC [pK 15 55 [.mm 4 0 14,.flds (.idx (.m 4 13) (.s 2) 2) 0 2]] [pV 6 (.s 15)]] .ret) .skip),pC [pK 16 55 [.mm 4 0 14,.flds (.idx (.m 4 12) (.s 2) 2) 0 2]] [pV 6 (.s 16)]] .ret,[(6,.v)]⟩
def c83:ZH Sol.prog fresh sig [.fz,.fz,.fz,.fz] [] Tryz.f83=some TP:=Z2
end Vm
end
section
namespace Vm
open Go Go.Proofs
structure Nd where
 ptrs:List Int
 data:List Int
 deriving DecidableEq,Inhabited
structure Gr where
 nodes:List Nd
 roots:List Int
 deriving DecidableEq,Inhabited
def Yi(n:Nd):V:=.agg [.sl (n.ptrs.map vi),.sl (n.data.map vu)]
def Ym(g:Gr):V:=.agg [.sl (g.nodes.map Yi),.sl (g.roots.map vi)]
@[simp]theorem ZaO(n:Nd):(Yi n).cells=[.sl (n.ptrs.map vi),.sl (n.data.map vu)]:=rfl
@[simp]theorem ZbD(l:List Nd):Xj 2 (l.map Yi)=true:=RT λ_=>rfl
@[simp]theorem Zaf(n:Nd):VS (Yi n) 0 2=some (Yi n):=rfl
@[simp]theorem Z9R(n:Nd):ZZ (Yi n) 0=some (.sl (n.ptrs.map vi)):=rfl
@[simp]theorem Z9S(n:Nd):ZZ (Yi n) 1=some (.sl (n.data.map vu)):=rfl
@[simp]theorem ZbS(n:Nd):Vk (Yi n) 2=some (Yi n):=rfl
@[simp]theorem Zad(g:Gr):VS (Ym g) 0 2=some (Ym g):=rfl
@[simp]theorem Z9x(g:Gr):ZZ (Ym g) 0=some (.sl (g.nodes.map Yi)):=rfl
@[simp]theorem Z9y(g:Gr):ZZ (Ym g) 1=some (.sl (g.roots.map vi)):=rfl
@[simp]theorem ZbP(g:Gr):Vk (Ym g) 2=some (Ym g):=rfl
@[simp]theorem Zan(g:Gr):(Ym g).cells=[.sl (g.nodes.map Yi),.sl (g.roots.map vi)]:=rfl
@[simp]theorem ZbI{k:Zl}{l:Zp}(j n:Nat):SN n (.sl l) (.int k 0) (.int k (j:Int))=if j<=l.length/\Xj n l=true then some (.sl (l.take j))else none:=by
 have:=Z6T (k:=k) (l:=l) 0 j n;simpa using this
def rp(n:Nat)(p:Int):Int:=pick p (n+1) -1
def Ux(n:Nat)(x:Nd):Nd:=⟨(x.ptrs.take 4).map (rp n),x.data.take 4⟩
def Vh(l:List Nd):Nat:=min l.length 10
def ZV(l:List Nd)(a:Ze):Gr:=⟨(l.take (Vh l)).map (Ux (Vh l)),if a.take 5=[]then [(Vh l:Int) -1]else(a.take 5).map (rp (Vh l))⟩
def On{l:List Nd}{a:Ze}(Y:∀x∈l,∀p∈x.ptrs,Yv p)(hr:∀p∈a,Yv p):VC Sol.prog 52 false [.sl (l.map Yi),.sl (a.map vi)] (Ym (ZV l a)):=by
 refine ZN Sol.func52 follows Z2 c52 rfl ?_;have Q:Vh l<=10:=by grind [Vh]
 have a0:Vh l<=l.length:=by grind [Vh]
 have z:(if(10:Int)< (l.length:Int)then(10:Int)else(l.length:Int))=(Vh l:Int):=by
  unfold Vh;split<;>omega
 simp[I2,z];generalize Z:Vh l=n at*;have C:=Zy ((n:Int)+1) Z0 Z0;refine UK (λt=>∃i:Nat,i<=n/\t=[.v (.sl (l.map Yi)),.v (.sl (a.map vi)),.m [.sl [],.sl []],.v (vi n),.m [.sl (((l.take i).map (Ux n)).map Yi),.sl []],.v (vi i)]) (λt=>match get t 5 with|.v (.int _ i)=>n-i.toNat|_=>0) ?_ ?_
 ·exact⟨0,Z1,Z1⟩
 ·rintro t ⟨i,hi,rfl⟩;have hw:=Zy ((i:Int)+1) Z0 Z0;by_cases h:i<n
  ·have r:i<l.length:=Z0;have N:l[i]?=some l[i]:=Zdk r;simp[h];generalize A:l[i]=x at N;have O:∀p∈x.ptrs,Yv p:=Y x (Zdr N);have F:(if(4:Int)< (x.data.length:Int)then(4:Int)else(x.data.length:Int))=((min x.data.length 4:Nat):Int):=by split<;>omega
   refine UK (λt=>∃k:Nat,k<=x.ptrs.length/\k<=4/\t=[.v (.sl (l.map Yi)),.v (.sl (a.map vi)),.m [.sl [],.sl []],.v (vi n),.m [.sl (((l.take i).map (Ux n)).map Yi),.sl []],.v (vi i),.v (.bool true),.m [.sl (((x.ptrs.take k).map (rp n)).map vi),.sl []],.v (vi k)]) (λt=>match get t 8 with|.v (.int _ i)=>4-i.toNat|_=>0) ?_ ?_
   ·exact⟨0,Z1,Z1,Z1⟩
   ·rintro t ⟨k,G,W,rfl⟩;have w:=Zy ((k:Int)+1) Z0 Z0;by_cases S:k<x.ptrs.length/\k<4
    ·obtain⟨f,U⟩:=S;have K:x.ptrs[k]?=some x.ptrs[k]:=Zdk f;have g:(k:Int)<4:=Z0;simp[r,A,f,g,C];refine Zw (Ix (O _ (ZdA f)) Z0) Z1 ?_;have L:=VY (c:=x.ptrs[k]) (n:=(n:Int)+1) Z0;have y:=Zy (pick x.ptrs[k] ((n:Int)+1) -1) Z0 Z0;simp[w,y];refine⟨by grind [Y2],⟨k+1,Z0,Z0,?_,Z1⟩,Z0⟩;rw[Zee,ZdJ,K];rfl
    ·have d:(x.ptrs.take k)=x.ptrs.take 4:=by
      by_cases f:k<x.ptrs.length
      ·grind
      ·grind
     have o:(l.take (i+1)).map (Yi∘Ux n)=(l.take i).map (Yi∘Ux n)++[V.agg [.sl ((x.ptrs.take k).map (vi∘rp n)),.sl ((x.data.take (min x.data.length 4)).map vu)]]:=by
      rw[Zee,N,ZeL,d]
      have J:x.data.take (min x.data.length 4)=x.data.take 4:=by
       by_cases hd:x.data.length<=4
       ·grind
       ·grind
      rw[J];simp[Yi,Ux]
     have B:Xj 1 ((x.data.take (min x.data.length 4)).map vu)=true:=KM _;have u:min x.data.length 4<=Y2:=by grind [Y2]
     have H:min i l.length+1<=Y2:=by grind [Y2]
     have I:min x.data.length 4<=x.data.length:=Z0;simp only[Zg5]at o B;have g:k<x.ptrs.length->¬(k:Int)<4:=Z0;by_cases f:k<x.ptrs.length
     all_goals (
      simp[r,A,f,g,F,u,H,B,hw,I];exact⟨⟨i+1,Z0,o.symm,Z1⟩,Z0⟩)
  ·have:i=n:=Z0;subst this;simp;have D:=Zy ((i:Int) -1) Z0 Z0;refine UK (λt=>∃k:Nat,k<=a.length/\k<=5/\t=[.v (.sl (l.map Yi)),.v (.sl (a.map vi)),.m [.sl [],.sl []],.v (vi i),.m [.sl ((l.take i).map (Yi∘Ux i)),.sl ((a.take k).map (vi∘rp i))],.v (vi i),.v (.bool false),.no,.no,.no,.v (vi k)]) (λt=>match get t 10 with|.v (.int _ i)=>5-i.toNat|_=>0) ?_ ?_
   ·exact⟨0,Z1,Z1,Z1⟩
   ·rintro t ⟨k,G,X,rfl⟩;have w:=Zy ((k:Int)+1) Z0 Z0;by_cases T:k<a.length/\k<5
    ·obtain⟨f,U⟩:=T;have K:a[k]?=some a[k]:=Zdk f;have g:(k:Int)<5:=Z0;simp[f,g,C];refine Zw (Ix (hr _ (ZdA f)) Z0) Z1 ?_;have L:=VY (c:=a[k]) (n:=(i:Int)+1) Z0;have y:=Zy (pick a[k] ((i:Int)+1) -1) Z0 Z0;simp[w,y];refine⟨by grind [Y2],⟨k+1,Z0,Z0,?_,Z1⟩,Z0⟩;rw[Zee,ZdJ,K];rfl
    ·have d:(a.take k)=a.take 5:=by
      by_cases f:k<a.length
      ·grind
      ·grind
     have g:k<a.length->¬(k:Int)<5:=Z0
     have P:ZV l a=⟨(l.take i).map (Ux i),if a.take 5=[]then [(i:Int) -1]else(a.take 5).map (rp i)⟩:=by
      unfold ZV;rw[Z]
     have q:(a.take k).length=k:=by rw[ZeD];omega
     by_cases R:k=0
     ·subst R;have j:a.take 5=[]:=by rw[<-d];rfl
      rw[P,if_pos j];have f:¬0<a.length:=Z0;have u:1<=Y2:=by simp[Y2]
      simp[f,Ym,D,u]
     ·have j:a.take 5≠[]:=by
       rw[<-d];intro h;rw[h]at q;simp at q;omega
      rw[P,if_neg j,<-d];have M:¬a=[]:=by intro h;rw[h]at G;simp at G;omega
      by_cases f:k<a.length
      all_goals simp[f,g,Ym,R,M]
def Ms{n:Nat}{p:Int}: -1<=rp n p/\rp n p<n:=by
 have:=VY (c:=p) (n:=(n:Int)+1) Z0
 grind [rp]
def zp(l:List Nd)(a:Ze):(ZV l a).nodes.length=Vh l:=by
 simp[ZV,Vh]
def Ad(l:List Nd)(a:Ze):Vh l<=10/\(ZV l a).roots.length<=5/\∀x∈(ZV l a).nodes,x.ptrs.length<=4/\x.data.length<=4:=by
 refine⟨by grind [Vh],?_,λx d=> ?_⟩
 ·grind [ZV]
 ·simp only[ZV,ZdB]at d;obtain⟨y,_,rfl⟩:=d
  grind [Ux,List.length_map,List.length_take]
end Vm
end
section
namespace Vm
open Go
open Go.Proofs
def p8:Fn:=⟨5,[0,1,2,3,10],
pQ [pR [(1,pS 0 7),(2,pZ)],pC [pK 5 23 [.mm 1 0 7,pT]] [(3,pS 5 14)],pQ [pR [pV 4 (.bin .eql (.len (.m 3 5)) (pI 0))]] (.cond (.s 4) (pQ [pC [pK 6 24 [.mm 1 0 7]] [(2,pS 6 10)]] .ret) .skip),pC [pK 7 25 [.mm 3 0 14,.mm 1 0 7]] [(2,pS 7 10)]] .ret,[(2,(.ag 10))]⟩
def c8:ZH Sol.prog fresh sig [.fz] [] Tryz.f8=some p8:=Z2
def Hy:Fn:=⟨19,[0,1,2,4,5,6,7,8,26,9,10,11,12,13,57,81,14,82,165],
pQ [pR [(2,pS 0 7),(3,.m [pU 0,pI 0,pI 0,pF,pI 0,pN,pN,pN,pN,pN,pN,pN,pN,pN])],.reg ⟨[pK 19 52 [.m 2 0,.m 2 1]],[([],.ag [pU 0,pI 0,pI 0,pF,pI 0,pN,pN,pN,pN,pN,.fld (.sz (.s 19) 2) 0,.fld (.sz (.s 19) 2) 1,pN,pN])],[(4,.m [pU 0,pI 0,pI 0,pF,pI 0,pN,pN,pN,pN,pN,.fld (.sz (.s 19) 2) 0,.fld (.sz (.s 19) 2) 1,pN,pN])]⟩,pR [(5,.m [pI 0,pI 0,pI 0,pI 0,pI 0])],pR [pV 6 (pI 0)],pQ [pR [pV 7 (pI 0)]] (.block 0 (.loop [0,1,2,3,4,5,6,7] (pQ [pQ [pR [pV 8 (.bin .lss (.s 7) (.len (.m 4 10)))]] (.cond (.s 8) .skip (.exit 0)),.block 1 (pQ [pC [pK 20 53 [.mm 2 0 7,.s 7,.s 1]] [pV 9 (.ext (.s 20) 0),pV 10 (.ext (.s 20) 1)],pR [pV 11 (.bin .add (.bin .add (pI 1) (.len (.fld (.idx (.m 4 10) (.s 7) 2) 0))) (.len (.fld (.idx (.m 4 10) (.s 7) 2) 1)))],pR [(12,pM (.ag [pI 0,pI 0]) 2)],pR [(13,pM (.ag [pI 0,pI 0]) 2)],pQ [pR [pV 14 (.bin .lss (.s 9) (pI 2))]] (.cond (.s 14) (pQ [.reg ⟨[],[([],.ai (.c (.agg [(.bool true),(.bool true),(.bool true),(.bool true),(.bool true)])) (.bin .sub (pI 2) (.s 9)) 5 1 false)],[(12,pM (.ag [.bin .sub (pI 2) (.s 9),.one (.ai (.mm 5 0 5) (.bin .sub (pI 2) (.s 9)) 5 1 false)]) 2)]⟩] (.reg ⟨[],[([],.ai (.c (.agg [(.bool true),(.bool true),(.bool true),(.bool true),(.bool true)])) (.bin .sub (pI 2) (.s 9)) 5 1 false)],[(5,pM (.aput (.mm 5 0 5) (.bin .sub (pI 2) (.s 9)) 5 1 (.bin .add (.ai (.mm 5 0 5) (.bin .sub (pI 2) (.s 9)) 5 1 false) (.s 11))) 5)]⟩)) (pR [pV 6 (.bin .add (.s 6) (.s 11))])),pQ [pC [.lt 21 [] (.bin .gtr (.s 9) (pI 0))] [pV 15 (.ite (.s 21) (.s 1) pF)]] (.cond (.s 15) (pQ [pR [pV 16 (pI 3)],pQ [pR [pV 17 (.s 10)]] (.cond (.s 17) (pR [pV 16 (pI 4)]) .skip),.reg ⟨[],[([],.ai (.c (.agg [(.bool true),(.bool true),(.bool true),(.bool true),(.bool true)])) (.s 16) 5 1 false)],[(13,pM (.ag [.one (.s 16),.one (.ai (.mm 5 0 5) (.s 16) 5 1 false)]) 2)]⟩] (.reg ⟨[],[([],.ai (.c (.agg [(.bool true),(.bool true),(.bool true),(.bool true),(.bool true)])) (.s 16) 5 1 false)],[(5,pM (.aput (.mm 5 0 5) (.s 16) 5 1 (.bin .add (.ai (.mm 5 0 5) (.s 16) 5 1 false) (.s 11))) 5)]⟩)) .skip),pR [(4,.m [.m 4 0,.m 4 1,.m 4 2,.m 4 3,.m 4 4,.m 4 5,.m 4 6,.m 4 7,.m 4 8,.m 4 9,.m 4 10,.m 4 11,.app (.m 4 12) (.lit [.mm 12 0 2]) 2,.m 4 13])]] (pR [(4,.m [.m 4 0,.m 4 1,.m 4 2,.m 4 3,.m 4 4,.m 4 5,.m 4 6,.m 4 7,.m 4 8,.m 4 9,.m 4 10,.m 4 11,.m 4 12,.app (.m 4 13) (.lit [.mm 13 0 2]) 2])]))] (pR [pV 7 (.bin .add (.s 7) (pI 1))])))),.reg ⟨[pK 22 26 [.m 2 6,pI 2]],[([],.ai (.c (.agg [(.bool true),(.bool true),(.bool true),(.bool true),(.bool true)])) (pI 1) 5 1 false),([],.ai (.c (.agg [(.bool true),(.bool true),(.bool true),(.bool true),(.bool true)])) (pI 2) 5 1 false),([],.ai (.c (.agg [(.bool true),(.bool true),(.bool true),(.bool true),(.bool true)])) (pI 3) 5 1 false),([],.ai (.c (.agg [(.bool true),(.bool true),(.bool true),(.bool true),(.bool true)])) (pI 4) 5 1 false),([],.ag [pU 0,pI 0,.one (.s 22),.one (.s 1),pI 0,.mk (.int .u64 0) (.ai (.mm 5 0 5) (pI 1) 5 1 false),.mk (.int .u64 0) (.ai (.mm 5 0 5) (pI 2) 5 1 false),.mk (.int .u64 0) (.ai (.mm 5 0 5) (pI 3) 5 1 false),.mk (.int .u64 0) (.ai (.mm 5 0 5) (pI 4) 5 1 false),pN])],[(4,.m [pU 0,pI 0,.one (.s 22),.one (.s 1),pI 0,.mk (.int .u64 0) (.ai (.mm 5 0 5) (pI 1) 5 1 false),.mk (.int .u64 0) (.ai (.mm 5 0 5) (pI 2) 5 1 false),.mk (.int .u64 0) (.ai (.mm 5 0 5) (pI 3) 5 1 false),.mk (.int .u64 0) (.ai (.mm 5 0 5) (pI 4) 5 1 false),pN,.m 4 10,.m 4 11,.m 4 12,.m 4 13])]⟩,.reg ⟨[pK 23 26 [.m 2 4,pI 12]],[([],.ai (.c (.agg [(.bool true),(.bool true),(.bool true),(.bool true),(.bool true)])) (pI 1) 5 1 false),([],.ai (.c (.agg [(.bool true),(.bool true),(.bool true),(.bool true),(.bool true)])) (pI 2) 5 1 false),([],.ai (.c (.agg [(.bool true),(.bool true),(.bool true),(.bool true),(.bool true)])) (pI 3) 5 1 false),([],.ai (.c (.agg [(.bool true),(.bool true),(.bool true),(.bool true),(.bool true)])) (pI 4) 5 1 false)],[(4,.m [.m 4 0,.bin .add (.mx (.bin .add (.bin .add (.ai (.mm 5 0 5) (pI 1) 5 1 false) (.ai (.mm 5 0 5) (pI 2) 5 1 false)) (.s 6)) (.bin .add (.ai (.mm 5 0 5) (pI 3) 5 1 false) (.ai (.mm 5 0 5) (pI 4) 5 1 false))) (.s 23),.m 4 2,.m 4 3,.m 4 4,.m 4 5,.m 4 6,.m 4 7,.m 4 8,.m 4 9,.m 4 10,.m 4 11,.m 4 12,.m 4 13])]⟩,pR [(4,.m [.bin .add (pU 1) (.bin .rem (.m 2 3) (.bin .sub (pU 9223372036854775808) (.bin .mul (pU 2) (.conv .u64 (.m 4 1))))),.m 4 1,.m 4 2,.m 4 3,.m 4 4,.m 4 5,.m 4 6,.m 4 7,.m 4 8,.m 4 9,.m 4 10,.m 4 11,.m 4 12,.m 4 13])],.reg ⟨[],[([],.ai (.c (.agg [(.bool true),(.bool true),(.bool true),(.bool true),(.bool true)])) (pI 1) 5 1 false)],[(4,.m [.m 4 0,.m 4 1,.m 4 2,.m 4 3,.one (.ai (.mm 5 0 5) (pI 1) 5 1 false),.m 4 5,.m 4 6,.m 4 7,.m 4 8,.m 4 9,.m 4 10,.m 4 11,.m 4 12,.m 4 13])]⟩,pQ [.reg ⟨[.lt 24 [] (.s 1)],[([(24,true)],.ai (.c (.agg [(.bool true),(.bool true),(.bool true),(.bool true),(.bool true)])) (pI 1) 5 1 false),([(24,true)],.bin .gtr (.ai (.mm 5 0 5) (pI 1) 5 1 false) (pI 0))],[pV 18 (.ite (.s 24) (.bin .gtr (.ai (.mm 5 0 5) (pI 1) 5 1 false) (pI 0)) pF)]⟩] (.cond (.s 18) (.reg ⟨[pK 25 26 [.m 2 5,.ai (.mm 5 0 5) (pI 1) 5 1 false]],[([],.ai (.c (.agg [(.bool true),(.bool true),(.bool true),(.bool true),(.bool true)])) (pI 1) 5 1 false)],[(4,.m [.m 4 0,.m 4 1,.m 4 2,.m 4 3,.one (.s 25),.m 4 5,.m 4 6,.m 4 7,.m 4 8,.m 4 9,.m 4 10,.m 4 11,.m 4 12,.m 4 13])]⟩) .skip),pR [(3,pM (.mm 4 0 14) 14)]] .ret,[(3,(.ag 14))]⟩
def PU:ZH Sol.prog fresh sig [.fz,.fz] [] Tryz.f23=some Hy:=Z2
def Hz:Fn:=⟨3,[0,1,2],
pQ [pR [(1,pS 0 7),(2,pZ)],pC [pK 3 23 [.mm 1 0 7,pF],pK 4 25 [.s 3,.mm 1 0 7]] [(2,pS 4 10)]] .ret,[(2,(.ag 10))]⟩
def PV:ZH Sol.prog fresh sig [.fz] [] Tryz.f24=some Hz:=Z2
def HD:Fn:=⟨17,[0,1,2,3,4,5,16,6,31,59,83,7,8,9,125,10,134],
pQ [pR [(2,pS 0 14),(3,pS 1 7),(4,pZ)],pQ [pR [pV 5 (pI 0)]] (.block 0 (.loop [0,1,2,3,4,5] (pQ [pQ [pR [pV 6 (.bin .lss (.s 5) (.len (.m 2 10)))]] (.cond (.s 6) .skip (.exit 0)),.block 1 (pQ [pR [(7,pM (.flds (.idx (.m 2 10) (.s 5) 2) 0 2) 2)],pQ [pR [pV 8 (.bin .gtr (.fld (.idx (.m 2 12) (.s 5) 2) 0) (pI 0))]] (.cond (.s 8) (pC [pK 17 54 [.mm 2 0 14,.flds (.idx (.m 2 12) (.s 5) 2) 0 2,.mm 7 0 2,.bin .add (.m 3 4) (.s 5)]] [(2,pS 17 14)]) .skip),pQ [.reg ⟨[.lt 18 [] (.bin .gtr (.fld (.idx (.m 2 13) (.s 5) 2) 0) (pI 0))],[([(18,true)],.bin .eql (.fld (.idx (.m 2 12) (.s 5) 2) 0) (pI 0))],[pV 9 (.ite (.s 18) (.bin .eql (.fld (.idx (.m 2 12) (.s 5) 2) 0) (pI 0)) pF)]⟩] (.cond (.s 9) (pC [pK 19 54 [.mm 2 0 14,.flds (.idx (.m 2 13) (.s 5) 2) 0 2,.mm 7 0 2,pI 0]] [(2,pS 19 14)]) .skip),.reg ⟨[.lt 20 [] (.bin .gtr (.fld (.idx (.m 2 13) (.s 5) 2) 0) (pI 0))],[([(20,true)],.bin .gtr (.fld (.idx (.m 2 12) (.s 5) 2) 0) (pI 0))],[pV 10 (.ite (.s 20) (.bin .gtr (.fld (.idx (.m 2 12) (.s 5) 2) 0) (pI 0)) pF)]⟩] (.cond (.s 10) (pQ [pC [pK 21 7 [.mm 2 0 10,.fld (.idx (.m 2 13) (.s 5) 2) 0]] [pV 11 (.app pN (.s 21) 1)],.reg ⟨[pK 22 55 [.mm 2 0 14,.flds (.idx (.m 2 12) (.s 5) 2) 0 2]],[([],.idx (.s 11) (.fld (.idx (.m 2 13) (.s 5) 2) 1) 1)],[pV 11 (.upd (.s 11) (.fld (.idx (.m 2 13) (.s 5) 2) 1) 0 (.one (.s 22)))]⟩] (pC [pK 23 6 [.mm 2 0 10,.fld (.idx (.m 2 13) (.s 5) 2) 0,.s 11]] [(2,.m [.fld (.sz (.s 23) 10) 0,.fld (.sz (.s 23) 10) 1,.fld (.sz (.s 23) 10) 2,.fld (.sz (.s 23) 10) 3,.fld (.sz (.s 23) 10) 4,.fld (.sz (.s 23) 10) 5,.fld (.sz (.s 23) 10) 6,.fld (.sz (.s 23) 10) 7,.fld (.sz (.s 23) 10) 8,.fld (.sz (.s 23) 10) 9,.m 2 10,.m 2 11,.m 2 12,.m 2 13])])) .skip))] (pR [pV 5 (.bin .add (.s 5) (pI 1))])))),pR [pV 12 pN],pQ [pR [pV 13 (pI 0)]] (.block 2 (.loop [0,1,2,3,4,5,6,12,13] (pQ [pQ [pR [pV 14 (.bin .lss (.s 13) (.len (.m 2 11)))]] (.cond (.s 14) .skip (.exit 2)),.block 3 (pQ [pR [pV 15 (pU 0)],pQ [pR [pV 16 (.bin .geq (.fld (.idx (.m 2 11) (.s 13) 1) 0) (pI 0))]] (.cond (.s 16) (pC [pK 24 55 [.mm 2 0 14,.flds (.idx (.m 2 12) (.fld (.idx (.m 2 11) (.s 13) 1) 0) 2) 0 2]] [pV 15 (.s 24)]) .skip)] (pR [pV 12 (.app (.s 12) (.lit [.one (.s 15)]) 1)]))] (pR [pV 13 (.bin .add (.s 13) (pI 1))])))),pR [(2,.m [.m 2 0,.m 2 1,.m 2 2,.m 2 3,.m 2 4,.m 2 5,.m 2 6,.m 2 7,.m 2 8,.one (.s 12),.m 2 10,.m 2 11,.m 2 12,.m 2 13])],pR [(4,pM (.mm 2 0 10) 10)]] .ret,[(4,(.ag 10))]⟩
def PW:ZH Sol.prog fresh sig [.fz,.fz] [] Tryz.f25=some HD:=Z2
end Vm
end
section
namespace Vm
open Go Go.Proofs
structure Pl where
 part:Int
 at_:Int
 deriving DecidableEq,Inhabited
def XW(p:Pl):V:=.agg [vi p.part,vi p.at_]
@[simp]theorem Zbn(p:Pl):(XW p).cells=[vi p.part,vi p.at_]:=rfl
@[simp]theorem Zai(p:Pl):VS (XW p) 0 2=some (XW p):=rfl
@[simp]theorem Z9Y(p:Pl):ZZ (XW p) 0=some (vi p.part):=rfl
@[simp]theorem Z9Z(p:Pl):ZZ (XW p) 1=some (vi p.at_):=rfl
@[simp]theorem ZbU(p:Pl):Vk (XW p) 2=some (XW p):=rfl
@[simp]theorem ZbG(l:List Pl):Xj 2 (l.map XW)=true:=RT λ_=>rfl
structure Rw where
 nodes:List Nd
 roots:List Int
 cls:List Int
 base:Int
 slack:Int
 scan:Int
 to:Int
 deriving Inhabited
def Wd(x:Rw):V:=.agg [.sl (x.nodes.map Yi),.sl (x.roots.map vi),.sl (x.cls.map vi),vu x.base,vi x.slack,vi x.scan,vi x.to]
@[simp]theorem ZbV(x:Rw):Vk (Wd x) 7=some (Wd x):=rfl
@[simp]theorem Zby(x:Rw):(Wd x).cells=[.sl (x.nodes.map Yi),.sl (x.roots.map vi),.sl (x.cls.map vi),vu x.base,vi x.slack,vi x.scan,vi x.to]:=rfl
@[simp]theorem Za0(x:Rw):ZZ (Wd x) 0=some (.sl (x.nodes.map Yi)):=rfl
@[simp]theorem Za1(x:Rw):ZZ (Wd x) 1=some (.sl (x.roots.map vi)):=rfl
@[simp]theorem Za2(x:Rw):ZZ (Wd x) 2=some (.sl (x.cls.map vi)):=rfl
@[simp]theorem Za3(x:Rw):ZZ (Wd x) 3=some (vu x.base):=rfl
@[simp]theorem Za4(x:Rw):ZZ (Wd x) 4=some (vi x.slack):=rfl
@[simp]theorem Za5(x:Rw):ZZ (Wd x) 5=some (vi x.scan):=rfl
@[simp]theorem Za6(x:Rw):ZZ (Wd x) 6=some (vi x.to):=rfl
structure Rw.ok (x:Rw):Prop where
 ptrs:∀n∈x.nodes,∀p∈n.ptrs,Yv p
 data:∀n∈x.nodes,∀p∈n.data,ZA p
 roots:∀p∈x.roots,Yv p
 cls:∀p∈x.cls,Yv p
 base:ZA x.base
 slack:Yv x.slack
 scan:Yv x.scan
 to:Yv x.to
def VE(x:Rw)(i:Nat):Int:=if x.cls.length=0 then i else(x.cls[i%x.cls.length]?).getD 0
def WN(x:Rw)(i:Nat)(cycle:Bool):Int:=if pick (VE x i) 3=2/\cycle=false then 1 else pick (VE x i) 3
def Wp(x:Rw)(i:Nat):Bool:=decide (pick ((VE x i).tdiv 3) 2=1)
def Sh(x:Rw)(i:Nat)(cycle:Bool):WN x i cycle=0\/WN x i cycle=1\/(WN x i cycle=2/\cycle=true):=by
 have:=VY (c:=VE x i) (n:=3) Z0;unfold WN
 grind
def Z0n{x:Rw}(hx:x.ok){i:Nat}(C:i<=1000){cycle:Bool}:VC Sol.prog 53 false [Wd x,vi i,.bool cycle] (.tup [vi (WN x i cycle),.bool (Wp x i)]):=by
 refine ZN Sol.func53 follows Z2 c53 rfl ?_
 have t:Yv (VE x i):=by
  unfold VE;split
  ·exact⟨Z0,Z0⟩
  ·rename_i h;have:i%x.cls.length<x.cls.length:=Zgw _ Z0;rw[Zdk this];exact hx.cls _ (ZdA this)
 have g:=Ki (c:=VE x i) (n:=3) t Z0
 have p:Yv ((VE x i).tdiv 3):=by
  obtain⟨B,f⟩:=t;unfold Yv;rw[Int.tdiv_eq_ediv];have:Int.sign 3=1:=rfl;split<;>omega
 have d:=Zy _ p.1 p.2;have a:=Ki (c:=(VE x i).tdiv 3) (n:=2) p Z0;have fin:∀(b:Bool),(decide (pick ((VE x i).tdiv 3) 2=1)=b)->Wp x i=b:=λb h=>h;by_cases q:x.cls.length=0
 ·have k:VE x i=i:=by simp[VE,q]
  rw[k]at g a d;rw[ZeY Z0]at a d;simp[AO,q];refine Zw g Z1 ?_;by_cases f:pick (i:Int) 3=2
  ·cases cycle
   ·simp[f,d];refine Zw a Z1 ?_;simp[WN,Wp,k,f]
   ·simp[f,d];refine Zw a Z1 ?_;simp[WN,Wp,k,f]
  ·simp[f,d];refine Zw a Z1 ?_;simp[WN,Wp,k,f]
 ·have l:i%x.cls.length<x.cls.length:=Zgw _ Z0;have w:x.cls[i%x.cls.length]?=some x.cls[i%x.cls.length]:=Zdk l;have k:VE x i=x.cls[i%x.cls.length]:=by simp[VE,q,w]
  have z:(i:Int).tmod (x.cls.length:Int)=((i%x.cls.length:Nat):Int):=by
   rw[Zec Z0];rfl
  rw[k]at g a d;have u:0<x.cls.length:=Z0;have r:x.cls≠[]:=λe=>Zcq;have A:((i:Int) % (x.cls.length:Int))=((i%x.cls.length:Nat):Int):=rfl;generalize o:x.cls[i%x.cls.length]=c at*;generalize y:i%x.cls.length=j at*;simp[AO,u,r,z,l,o];refine Zw g Z1 ?_;by_cases f:pick c 3=2
  ·cases cycle
   ·simp[f,d];refine Zw a Z1 ?_;simp[WN,Wp,k,f]
   ·simp[f,d];refine Zw a Z1 ?_;simp[WN,Wp,k,f]
  ·simp[f,d];refine Zw a Z1 ?_;simp[WN,Wp,k,f]
def ZM(n:Nd):Nat:=1+n.ptrs.length+n.data.length
structure St8 where
 n1:Nat
 n2:Nat
 n3:Nat
 n4:Nat
 wt:Nat
 here:List Pl
 old:List Pl
def X6(x:Rw)(cycle:Bool)(sz:Nat)(i:Nat)(s:St8):St8:=
 let k:=WN x i cycle
 let a:=Wp x i
 let o:Bool:=decide (0<k)&&cycle
 {n1:=if k=1 then s.n1+sz else s.n1
  n2:=if k=0 then s.n2+sz else s.n2
  n3:=if o&& !a then s.n3+sz else s.n3
  n4:=if o&&a then s.n4+sz else s.n4
  wt:=if k=2 then s.wt+sz else s.wt
  here:=s.here++[if k=0 then⟨2,s.n2⟩else if k=1 then⟨1,s.n1⟩else⟨0,0⟩]
  old:=s.old++[if o then(if a then⟨4,s.n4⟩else⟨3,s.n3⟩)else⟨0,0⟩]}
def Y3(x:Rw)(cycle:Bool)(g:Gr):Nat->St8
 |0=>⟨0,0,0,0,0,[],[]⟩
 |i+1=>X6 x cycle (ZM ((g.nodes[i]?).getD default)) i (Y3 x cycle g i)
def Z78{x:Rw}{cycle:Bool}{sz i:Nat}(h:sz<=9)(s:St8)(d:s.n1+s.n2+s.wt<=9*i)(h2:s.n3+s.n4<=9*i)(f:s.here.length=i)(g:s.old.length=i):
  (X6 x cycle sz i s).n1+(X6 x cycle sz i s).n2+(X6 x cycle sz i s).wt<=9*(i+1)/\(X6 x cycle sz i s).n3+(X6 x cycle sz i s).n4<=9*(i+1)/\(X6 x cycle sz i s).here.length=i+1/\(X6 x cycle sz i s).old.length=i+1:=by
 obtain a|a|⟨a,rfl⟩:=Sh x i cycle
 ·grind [X6]
 ·grind [Wp,X6]
 grind [Wp,X6]
def KP{x:Rw}{cycle:Bool}{g:Gr}(a:∀n∈g.nodes,ZM n<=9):∀i,i<=g.nodes.length->(Y3 x cycle g i).n1+(Y3 x cycle g i).n2+(Y3 x cycle g i).wt<=9*i/\(Y3 x cycle g i).n3+(Y3 x cycle g i).n4<=9*i/\(Y3 x cycle g i).here.length=i/\(Y3 x cycle g i).old.length=i
 |0,_=>by simp[Y3]
 |i+1,k=>by
  obtain⟨d,f,h,j⟩:=KP (x:=x) (cycle:=cycle) a i Z0;have l:=a _ (ZdA (Z0:i<g.nodes.length));simp only[Y3,Zdk (Z0:i<g.nodes.length),ZdN];simp_all[Z78]
structure Bt where
 h:Hp
 g:Gr
 here:List Pl
 old:List Pl
def Xw(b:Bt):List V:=[vu b.h.base,vi b.h.cap,vi b.h.to,.bool b.h.cycle,vi b.h.scan,.sl (b.h.low.map vu),.sl (b.h.high.map vu),.sl (b.h.old.map vu),.sl (b.h.far.map vu),.sl (b.h.roots.map vu),.sl (b.g.nodes.map Yi),.sl (b.g.roots.map vi),.sl (b.here.map XW),.sl (b.old.map XW)]
def Xl(b:Bt):V:=.agg [vu b.h.base,vi b.h.cap,vi b.h.to,.bool b.h.cycle,vi b.h.scan,.sl (b.h.low.map vu),.sl (b.h.high.map vu),.sl (b.h.old.map vu),.sl (b.h.far.map vu),.sl (b.h.roots.map vu),.sl (b.g.nodes.map Yi),.sl (b.g.roots.map vi),.sl (b.here.map XW),.sl (b.old.map XW)]
def Yx(x:Rw)(cycle:Bool):Bt:=
 let g:=ZV x.nodes x.roots
 let s:=Y3 x cycle g g.nodes.length
 let cap:Int:=max ((s.n1:Int)+s.n2+s.wt) ((s.n3:Int)+s.n4)+pick x.slack 12
 ⟨⟨1+x.base% (9223372036854775808-2*cap),cap,pick x.to 2,cycle,if cycle=true/\0<s.n1 then pick x.scan s.n1 else s.n1,List.replicate s.n1 0,List.replicate s.n2 0,List.replicate s.n3 0,List.replicate s.n4 0,[]⟩,g,s.here,s.old⟩
def N9{x:Rw}(hx:x.ok){cycle:Bool}:VC Sol.prog 23 false [Wd x,.bool cycle] (Xl (Yx x cycle)):=by
 refine ZN Sol.func23 follows Z2 PU rfl ?_;simp[Hy];refine Zw (On hx.ptrs hx.roots) Z1 ?_;obtain⟨K,L,B⟩:=Ad x.nodes x.roots;have M:=zp x.nodes x.roots;unfold Yx;generalize ZV x.nodes x.roots=g at*;have l:∀n∈g.nodes,ZM n<=9:=λn d=>by have:=B n d;unfold ZM;omega
 simp
 refine WM 7 g.nodes.length (λi=>[(4,.m [.int .u64 0,.int .i64 0,.int .i64 0,.bool false,.int .i64 0,.sl [],.sl [],.sl [],.sl [],.sl [],.sl (g.nodes.map Yi),.sl (g.roots.map vi),.sl ((Y3 x cycle g i).here.map XW),.sl ((Y3 x cycle g i).old.map XW)]),
  (5,.m [vi 0,vi (Y3 x cycle g i).n1,vi (Y3 x cycle g i).n2,vi (Y3 x cycle g i).n3,vi (Y3 x cycle g i).n4]),(6,.v (vi (Y3 x cycle g i).wt)),(7,.v (vi i))]) (λ_=>True) (by simp[Y3]) (λi=>Z1) trivial ?_
 rintro i P-;have o:=Zy ((i:Int)+1) Z0 Z0;obtain⟨s1,s2,s3,s4⟩:=KP (x:=x) (cycle:=cycle) l i P;by_cases h:i<g.nodes.length
 ·have d:g.nodes[i]?=some g.nodes[i]:=Zdk h;have p:=l _ (ZdA h);simp only[Y3,d,ZdN];generalize Y3 x cycle g i=s at*;generalize g.nodes[i]=n at*;have N:=Z0n hx (i:=i) Z0 (cycle:=cycle);have C:=Sh x i cycle;have w1:=Zy (1+(n.ptrs.length:Int)) (by unfold ZM at p;omega) (by unfold ZM at p;omega);have w2:=Zy (1+(n.ptrs.length:Int)+n.data.length) (by unfold ZM at p;omega) (by unfold ZM at p;omega);have f:(1+(n.ptrs.length:Int)+n.data.length)=(ZM n:Nat):=by unfold ZM;omega
  rw[f]at w2;simp[h];refine Zw N Z1 ?_;generalize I:ZM n=sz at*;unfold X6;generalize Wp x i=H at*;generalize WN x i cycle=k at*;have t:=Zy ((s.n1:Int)+sz) Z0 Z0;have u:=Zy ((s.n2:Int)+sz) Z0 Z0;have w:=Zy ((s.n3:Int)+sz) Z0 Z0;have y:=Zy ((s.n4:Int)+sz) Z0 Z0;have z:=Zy ((s.wt:Int)+sz) Z0 Z0;have q:s.here.length+1<=Y2:=ZcK;have r:s.old.length+1<=Y2:=ZcK;obtain rfl|rfl|⟨rfl,rfl⟩:=C
  ·cases cycle<;>simp[d,ZU d,w1,f,w2,Y6,Up,setCells,Zy,t,u,w,y,z,q,r,XW,o]
  ·cases cycle
   ·simp[d,ZU d,w1,f,w2,Y6,Up,setCells,Zy,t,u,w,y,z,q,r,XW,o]
   ·cases H<;>simp[d,ZU d,w1,f,w2,Y6,Up,setCells,Zy,t,u,w,y,z,q,r,XW,o]
  ·cases H<;>simp[d,ZU d,w1,f,w2,Y6,Up,setCells,Zy,t,u,w,y,z,q,r,XW,o]
 ·have:i=g.nodes.length:=Z0;subst this;generalize R:Y3 x cycle g g.nodes.length=s at*;have G:=Ki (c:=x.to) (n:=2) hx.to Z0;have F:=Ki (c:=x.slack) (n:=12) hx.slack Z0;have S:=VY (c:=x.slack) (n:=12) Z0;simp;refine Zw G Z1 ?_;have T:s.n1<=Y2:=ZcK;have U:s.n2<=Y2:=ZcK;have W:s.n3<=Y2:=ZcK;have X:s.n4<=Y2:=ZcK;simp[Y6,T,U,W,X];refine Zw F Z1 ?_;have w1:=Zy ((s.n1:Int)+s.n2) Z0 Z0;have w2:=Zy ((s.n1:Int)+s.n2+s.wt) Z0 Z0;have w3:=Zy ((s.n3:Int)+s.n4) Z0 Z0;have j:(if(s.n1:Int)+s.n2+s.wt< (s.n3:Int)+s.n4 then(s.n3:Int)+s.n4 else(s.n1:Int)+s.n2+s.wt)=max ((s.n1:Int)+s.n2+s.wt) ((s.n3:Int)+s.n4):=by split<;>omega
  obtain⟨cap,a⟩:∃cap:Int,max ((s.n1:Int)+s.n2+s.wt) ((s.n3:Int)+s.n4)+pick x.slack 12=cap:=⟨_,rfl⟩;have O:0<=cap/\cap<=200:=Z0;have w4:=Zy cap Z0 Z0;have Y:=ZT cap Z0 Z0;have Z:=ZT (2*cap) Z0 Z0;have w7:=ZT (9223372036854775808-2*cap) Z0 Z0;obtain⟨J,b2⟩:=hx.base;have w8:x.base.tmod (9223372036854775808-2*cap)=x.base% (9223372036854775808-2*cap):=Zec J;have h1:=Zhm x.base (Z0:(9223372036854775808-2*cap)≠0);have h2:=ZgQ x.base (Z0:0< (9223372036854775808-2*cap));have w9:=ZT (1+x.base% (9223372036854775808-2*cap)) Z0 Z0;have D:¬((9223372036854775808-2*cap)=0):=Z0;simp[Y6,w1,w2,w3,j,a,w4,Y,Z,w7,w8,w9,D];cases cycle
  ·simp[Xl,a]
  ·by_cases A:0<s.n1
   ·have Q:=Ki (c:=x.scan) (n:=(s.n1:Int)) hx.scan Z0;simp[A];refine Zw Q Z1 ?_;simp[Xl,a,A,Y6]
   ·simp[Xl,a,A]
end Vm
namespace Vm
open Go Go.Proofs
@[simp]theorem ZbN(b:Bt):Vk (Xl b) 14=some (Xl b):=rfl
@[simp]theorem Z8D(b:Bt):(Xl b).cells=Xw b:=rfl
@[simp]theorem Z9p(b:Bt)(i:Nat):ZZ (Xl b) i=(Xw b)[i]?.bind YR:=rfl
def Z4u(s p:Int):0<=(VX s p).1/\(VX s p).1<100000000:=by
 grind [VX,Yf]
def OH(l:Ly)(g:l.fits)(p a:Int):0<=(ZW l p a).1/\(ZW l p a).1<=9223372036854775807:=by
 unfold ZW;split
 ·simp
 ·rename_i f;have d:ZJ l=true:=ZcL;split
  ·simp
  ·split
   ·simp
   ·have:=WB d p;omega
def Z5a{a:Int}:0<=(XJ a).1/\(XJ a).1<18446744073709551616:=by
 unfold XJ;split
 ·simp
 ·omega
def YH(h:Hp)(p:Pl):Int:=if p.part=0 then 0 else(XJ (ZW (Zv h) p.part p.at_).1).1
theorem Bx(h:Hp)(p:Pl):ZA (YH h p):=by
 unfold YH;split
 ·exact⟨Z0,Z0⟩
 ·exact Z5a
def Ku{b:Bt}(f:(Zv b.h).fits){p:Pl}:VC Sol.prog 55 false [Xl b,XW p] (vu (YH b.h p)):=by
 refine ZN Sol.func55 follows Z2 c55 rfl ?_;by_cases d:p.part=0
 ·simp[AQ,Xw,YH,d]
 ·have g:=OH (Zv b.h) f p.part p.at_;simp[AQ,Xw,d];refine Zw (yp (h:=b.h)) ZcH ?_;simp;refine Zw (Bv f (part:=p.part) (at_:=p.at_)) Z1 ?_;simp;refine Zw (Z5I (a:=(ZW (Zv b.h) p.part p.at_).1) ⟨g.1,Z0⟩) Z1 ?_;simp[YH,d]
def V5(b:Bt)(p:Pl)(to tw:Int):Int:=
 if to<0 then 0 else if 2<p.part then YH b.h ((b.old[to.toNat]?).getD ⟨0,0⟩)
 else if p.part=1/\b.h.scan<=p.at_/\(((b.here[to.toNat]?).getD ⟨0,0⟩).part=0\/0< ((b.old[to.toNat]?).getD ⟨0,0⟩).part/\tw%2=0)then YH b.h ((b.old[to.toNat]?).getD ⟨0,0⟩)
 else YH b.h ((b.here[to.toNat]?).getD ⟨0,0⟩)
theorem Z6X(b:Bt)(p:Pl)(to tw:Int):ZA (V5 b p to tw):=by
 unfold V5;split
 ·exact⟨Z0,Z0⟩
 grind [Bx]
def No(t:Int):t.tmod 2=0↔t%2=0:=by
 grind
def Z6Y{b:Bt}(l:(Zv b.h).fits){p:Pl}{to tw:Int}(r:to<b.here.length)(h2:to<b.old.length):VC Sol.prog 83 false [Xl b,XW p,vi to,vi tw] (vu (V5 b p to tw)):=by
 refine ZN Sol.func83 follows Z2 c83 rfl ?_;by_cases o:to<0
 ·simp[TP,Xw,V5,o]
 obtain⟨t,rfl⟩:=Zdz (Z0:0<=to);have g1:b.here[t]?=some (b.here[t]'Z0):=Zdk Z0;have g2:b.old[t]?=some (b.old[t]'Z0):=Zdk Z0;generalize b.here[t]'Z0=x at*;generalize b.old[t]'Z0=y at*;unfold V5;simp only[ZdF,g1,g2,ZdN,if_neg o];by_cases a:2<p.part
 ·simp[TP,Xw,a,g2];refine Zw (Ku l (p:=y)) (by simp[Xl]) ?_;simp
 have k1:=Ku l (p:=x);have q:=Ku l (p:=y);by_cases f:p.part=1
 ·by_cases g:b.h.scan<=p.at_
  ·by_cases j:x.part=0
   ·simp[TP,Xw,a,f,g,j,g1,g2];refine Zw q (by simp[Xl]) ?_;simp
   ·by_cases n:0<y.part
    ·by_cases k:tw%2=0
     ·have d:=(No tw).2 k;simp[TP,Xw,a,f,g,j,n,k,d,g1,g2];refine Zw q (by simp[Xl]) ?_;simp
     ·have d:=mt (No tw).1 k;simp[TP,Xw,a,f,g,j,n,k,d,g1,g2];refine Zw k1 (by simp[Xl]) ?_;simp
    ·simp[TP,Xw,a,f,g,j,n,g1,g2];refine Zw k1 (by simp[Xl]) ?_;simp
  ·simp[TP,Xw,a,f,g,g1,g2];refine Zw k1 (by simp[Xl]) ?_;simp
 ·simp[TP,Xw,a,f,g1,g2];refine Zw k1 (by simp[Xl]) ?_;simp
@[simp]theorem Z5k(x y:Int):V.put (vu x) 0 [vu y]=vu y:=rfl
def BR{l pre:List Int}{m:Nat}(h:pre.length=m)(a:m<l.length)(z:Int):(pre++l.drop m).set m z=pre++[z]++l.drop (m+1):=by
 subst h;rw[Zhp _ _ (Zdp _),Zf9,Zef a,List.set_cons_zero,Zei];rfl
def XL(b:Bt)(p:Pl)(a:Nat)(d:List Int)(tw:Int):List Int:=(List.range d.length).map λi=>V5 b ⟨p.part,((a+1+i:Nat):Int)⟩ ((d[i]?).getD 0) (IntKind.i64.wrap (tw+i))
def TE(b:Bt)(p:Pl)(a:Nat)(n:Nd)(tw:Int):List Int:=
 let l:=Zz b.h p.part
 l.take a++[(VX ((n.ptrs.length:Int)+n.data.length) n.ptrs.length).1]++XL b p a n.ptrs tw++n.data++l.drop (a+ZM n)
def W9(b:Bt)(p:Pl)(n:Nd)(tw:Int):Bt:= {b with h:=Xq b.h p.part (TE b p p.at_.toNat n tw)}
def FJ{b:Bt}(hb:(Zv b.h).fits){p:Pl}{n:Nd}{tw:Int}{a:Nat}(ha:p.at_=a)(a1:(Zz b.h p.part).length<=1000000)(d:a+ZM n<=(Zz b.h p.part).length)
  (h1:∀q∈n.ptrs,q<b.here.length/\q<b.old.length):VC Sol.prog 54 false [Xl b,XW p,Yi n,vi tw] (Xl (W9 b p n tw)):=by
 refine ZN Sol.func54 follows Z2 c54 rfl ?_;have M:(Zz b.h p.part).length<=Y2:=ZcK;have w1:=Zy ((n.ptrs.length:Int)+n.data.length) ZcU ZcU;unfold W9;rw[show p.at_.toNat=a by omega];simp[I3,Xw];refine Zw (Um (h:=b.h) (n:=p.part)) ZcH ?_;simp[M,w1];refine Zw (M6 (s:=(n.ptrs.length:Int)+n.data.length) (p:=n.ptrs.length)) Z1 ?_;have O:a< (Zz b.h p.part).length:=ZcU;simp[ha,O];generalize U:Zz b.h p.part=l at*;generalize T:(VX ((n.ptrs.length:Int)+n.data.length) n.ptrs.length).1=A at*
 have D:(l.map vu).set a (vu A)=((l.take a++[A])++l.drop (a+1)).map vu:=by
  rw[<-Zg0];congr 1;have:=BR (l:=l) (pre:=l.take a) (m:=a) Zcr O A;rw[Zf5]at this;exact this
 simp only[Z5k,D];have H:=Zy ((a:Int)+1) Z0 Z0;have a2:n.ptrs.length<=l.length:=ZcU;have P:(XL b p a n.ptrs tw).length=n.ptrs.length:=by simp[XL]
 refine WM 11 n.ptrs.length (λk=>[(8,.v (.sl (((l.take a++[A]++(XL b p a n.ptrs tw).take k)++l.drop (a+1+k)).map vu))),(11,.v (vi k))]) (λ_=>True) Z1 (λi=>Z1) trivial ?_;rintro k hk-;have J:=Zy ((k:Int)+1) Z0 Z0;have X:=Zy ((a:Int)+1+k) Z0 Z0;by_cases o:k<n.ptrs.length
 ·have K:n.ptrs[k]?=some n.ptrs[k]:=Zdk o;obtain⟨q1,q2⟩:=h1 _ (ZdA o);have t:=Z6Y hb (p:=⟨p.part,((a+1+k:Nat):Int)⟩) (to:=n.ptrs[k]) (tw:=IntKind.i64.wrap (tw+k)) q1 q2
  have W:(XL b p a n.ptrs tw)[k]?=some (V5 b ⟨p.part,((a+1+k:Nat):Int)⟩ n.ptrs[k] (IntKind.i64.wrap (tw+k))):=by
   simp[XL,o]
  generalize n.ptrs[k]=q at*;generalize V5 b ⟨p.part,((a+1+k:Nat):Int)⟩ q (IntKind.i64.wrap (tw+k))=z at*;have G:(XL b p a n.ptrs tw).take (k+1)=(XL b p a n.ptrs tw).take k++[z]:=by rw[Zee,W];rfl
  have r:(l.take a++[A]++(XL b p a n.ptrs tw).take k).length=a+1+k:=by simp[P];omega
  have N:a+1+k<l.length:=ZcU;have F:=BR (l:=l) r N z;generalize C:l.take a++[A]++(XL b p a n.ptrs tw).take k=pre at*
  have g:∃x,((pre++l.drop (a+1+k)).map vu)[a+1+k]?=some (vu x):=by
   refine⟨l[a+1+k],?_⟩;rw[ZdJ,ZdI Z0,r,Zf9,Zef N];rfl
  have f:((pre++l.drop (a+1+k)).map vu).set (a+1+k) (vu z)=(pre++[z]++l.drop (a+1+(k+1))).map vu:=by
   rw[<-Zg0,F];rfl
  obtain⟨m,B⟩:∃m:Nat,a+1+k=m:=⟨_,rfl⟩;have u:(a:Int)+1+k=m:=Z0;have w:=Zy (m:Int) Z0 Z0;rw[show a+1+(k+1)=a+1+k+1 by omega]at f⊢;rw[B]at g f t⊢;generalize S:(pre++l.drop m).map vu=LL at g f⊢;rw[G];obtain⟨y,hy⟩:=g;simp[o,K,ZU K,H,X,u,w];refine Zw t (by simp[Xl]) ?_;simp[hy,f,J,o,H,u,w];rw[<-C];simp
 ·have:k=n.ptrs.length:=Z0;subst this;rw[show(XL b p a n.ptrs tw).take n.ptrs.length=XL b p a n.ptrs tw from Zek Z0];have Y:=Zy ((a:Int)+1+n.ptrs.length) Z0 Z0;have Z:∀j:Nat,j<=1000+n.data.length->IntKind.i64.wrap ((a:Int)+1+n.ptrs.length+j)=(a:Int)+1+n.ptrs.length+j:=λj hj=>Zy _ Z0 ZcU;generalize Q:l.take a++[A]++XL b p a n.ptrs tw=sp at*;have R:sp.length=a+1+n.ptrs.length:=by rw[<-Q];simp[P];omega
  simp;refine WM 13 n.data.length (λk=>[(8,.v (.sl (((sp++n.data.take k)++l.drop (a+1+n.ptrs.length+k)).map vu))),(13,.v (vi k))]) (λ_=>True) Z1 (λi=>Z1) trivial ?_;rintro k hk-;have J:=Zy ((k:Int)+1) Z0 ZcU;by_cases o:k<n.data.length
  ·have K:n.data[k]?=some n.data[k]:=Zdk o;generalize n.data[k]=z at*;have G:n.data.take (k+1)=n.data.take k++[z]:=by rw[Zee,K];rfl
   have r:(sp++n.data.take k).length=a+1+n.ptrs.length+k:=by simp[R];omega
   have N:a+1+n.ptrs.length+k<l.length:=ZcU;have F:=BR (l:=l) r N z;generalize C:sp++n.data.take k=pre at*
   have g:∃x,((pre++l.drop (a+1+n.ptrs.length+k)).map vu)[a+1+n.ptrs.length+k]?=some (vu x):=by
    refine⟨l[a+1+n.ptrs.length+k],?_⟩;rw[ZdJ,ZdI Z0,r,Zf9,Zef N];rfl
   have f:((pre++l.drop (a+1+n.ptrs.length+k)).map vu).set (a+1+n.ptrs.length+k) (vu z)=(pre++[z]++l.drop (a+1+n.ptrs.length+k+1)).map vu:=by
    rw[<-Zg0,F]
   rw[show a+1+n.ptrs.length+(k+1)=a+1+n.ptrs.length+k+1 by omega];have a0:=Z k Z0;obtain⟨m,B⟩:∃m:Nat,a+1+n.ptrs.length+k=m:=⟨_,rfl⟩;have u:(a:Int)+1+n.ptrs.length+k=m:=Z0;have w:=Zy (m:Int) Z0 Z0;rw[B]at g f⊢;generalize S:(pre++l.drop m).map vu=LL at g f⊢;rw[G];obtain⟨y,hy⟩:=g;simp[o,K,ZU K,H,Y,a0,u,w,hy,f,J];rw[<-C];simp
  ·have:k=n.data.length:=Z0;subst this;rw[show n.data.take n.data.length=n.data from Zem];have I:=D4 (h:=b.h) (n:=p.part) (l:=sp++n.data++l.drop (a+1+n.ptrs.length+n.data.length))
   have L:TE b p a n tw=sp++n.data++l.drop (a+1+n.ptrs.length+n.data.length):=by
    unfold TE;rw[U,T];dsimp only;rw[Q,show a+ZM n=a+1+n.ptrs.length+n.data.length by unfold ZM;omega]
   rw[L];generalize sp++n.data++l.drop (a+1+n.ptrs.length+n.data.length)=fin at*;simp;refine Zw I ZcH ?_;simp[Xl]
end Vm
namespace Vm
open Go Go.Proofs
def RY(h:Hp):Prop:=(∀k,∀w∈Zz h k,ZA w)/\∀w∈h.roots,ZA w
structure BOk (b:Bt):Prop where
 lay:(Zv b.h).fits
 hl:b.here.length=b.g.nodes.length
 ol:b.old.length=b.g.nodes.length
 nn:b.g.nodes.length<=10
 ptr:∀n∈b.g.nodes,∀q∈n.ptrs,q< (b.g.nodes.length:Int)
 dat:∀n∈b.g.nodes,∀q∈n.data,ZA q
 rts:∀q∈b.g.roots,q< (b.g.nodes.length:Int)
 rl:b.g.roots.length<=5
 here:∀(i:Nat) (p:Pl) (n:Nd),b.here[i]?=some p->b.g.nodes[i]?=some n->p=⟨0,0⟩\/∃a:Nat,p.at_=a/\(p.part=1\/p.part=2)/\a+ZM n<=(Zz b.h p.part).length
 old:∀(i:Nat) (p:Pl) (n:Nd),b.old[i]?=some p->b.g.nodes[i]?=some n->p=⟨0,0⟩\/∃a:Nat,p.at_=a/\(p.part=3\/p.part=4)/\a+ZM n<=(Zz b.h p.part).length
 len:∀k,(Zz b.h k).length<=1000
 words:RY b.h
theorem zZ{h h':Hp}(a:Zv h'=Zv h)(k:Int):(Zz h' k).length=(Zz h k).length:=by
 grind [Zv,Ly.mk.injEq,Zz]
def BOk.keep{b:Bt}(hb:BOk b){h':Hp}(hl:Zv h'=Zv b.h)(hw:RY h'):BOk {b with h:=h'} where
 lay:=by show(Zv h').fits;rw[hl];exact hb.lay
 hl:=hb.hl
 ol:=hb.ol
 nn:=hb.nn
 ptr:=hb.ptr
 dat:=hb.dat
 rts:=hb.rts
 rl:=hb.rl
 here:=λi p n hp hn=>by
  obtain h|⟨a,h1,h2,h3⟩:=hb.here i p n hp hn
  ·grind
  grind [Zz,zZ,hl]
 old:=λi p n hp hn=>by
  obtain h|⟨a,h1,h2,h3⟩:=hb.old i p n hp hn
  ·grind
  grind [Zz,zZ,hl]
 len:=λk=>by show(Zz h' k).length<=1000;rw[zZ hl];exact hb.len k
 words:=hw
def Cz{h:Hp}{p:Int}{l:List Int}(a:l.length=(Zz h p).length):Zv (Xq h p l)=Zv h:=by
 unfold Xq Zz at*;split
 ·simp_all[if_pos,Zv]
 rename_i d;rw[if_neg d]at a;split
 ·simp_all[if_pos,Zv]
 rename_i f;rw[if_neg f]at a;split
 ·simp_all[if_pos,Zv]
 simp_all[if_neg,Zv]
def Z7U{h:Hp}{p:Int}{l:List Int}(a:RY h)(k:∀w∈l,ZA w):RY (Xq h p l):=by
 have d:=a.1 1;have f:=a.1 2;have g:=a.1 3;have j:=a.1 4
 grind [QS,zW,zX,zY,ZA,RY,Zz,Xq]
def Z2J{b:Bt}{p:Pl}{a:Nat}{n:Nd}{tw:Int}(d:a+ZM n<=(Zz b.h p.part).length):(TE b p a n tw).length=(Zz b.h p.part).length:=by
 grind [TE,ZM,XL]
def Z2K{b:Bt}{p:Pl}{a:Nat}{n:Nd}{tw:Int}(f:RY b.h)(g:∀q∈n.data,ZA q):∀w∈TE b p a n tw,ZA w:=by
 intro w d;unfold TE at d;simp only[ZdL,Zes]at d;obtain(((d|d)|d)|d)|d:=d
 ·exact f.1 _ w (Ze4 d)
 ·subst d;have:=Z4u ((n.ptrs.length:Int)+n.data.length) n.ptrs.length;exact⟨this.1,Z0⟩
 ·simp only[XL,ZdB]at d;obtain⟨i,_,rfl⟩:=d
  grind [Z6X]
 ·grind
 ·exact f.1 _ w (ZeA d)
def U6(x:Rw)(b:Bt)(i:Nat)(n:Nd)(p:Pl):Bt:=if 0<p.part then W9 b p n (IntKind.i64.wrap (x.slack+i))else b
def U7(b:Bt)(n:Nd)(p o:Pl):Bt:=if 0<o.part/\p.part=0 then W9 b o n 0 else b
def VP(b:Bt)(p o:Pl):Bt:=if 0<o.part/\0<p.part then {b with h:=Xq b.h o.part ((Zz b.h o.part).set o.at_.toNat (YH b.h p))}else b
def Qn(x:Rw)(b:Bt)(i:Nat):Bt:=
 let n:=(b.g.nodes[i]?).getD default
 let p:=(b.here[i]?).getD ⟨0,0⟩
 let o:=(b.old[i]?).getD ⟨0,0⟩
 VP (U7 (U6 x b i n p) n p o) p o
structure Like (b b':Bt):Prop where
 g:b'.g=b.g
 here:b'.here=b.here
 old:b'.old=b.old
 lay:Zv b'.h=Zv b.h
 words:RY b'.h
 scan:b'.h.scan=b.h.scan
 cycle:b'.h.cycle=b.h.cycle
def Like.ok{b a:Bt}(o:Like b a)(n:BOk b):BOk a:=by
 obtain⟨q,p,d,l⟩:=a;obtain⟨f,g,h,j,k,_⟩:=o;simp only at f g h j k;subst f g h;exact n.keep j k
theorem Like.trans{a b c:Bt}(h:Like a b)(k:Like b c):Like a c:=⟨k.g.trans h.g,k.here.trans h.here,k.old.trans h.old,k.lay.trans h.lay,k.words,k.scan.trans h.scan,k.cycle.trans h.cycle⟩
def NL(h:Hp)(p:Int)(l:List Int):(Xq h p l).scan=h.scan/\(Xq h p l).cycle=h.cycle:=by
 unfold Xq
 grind
def FT{b:Bt}(a:BOk b){p:Int}{l:List Int}(d:l.length=(Zz b.h p).length)(f:∀w∈l,ZA w):Like b {b with h:=Xq b.h p l}:=
 ⟨rfl,rfl,rfl,Cz d,Z7U a.words f,(NL _ _ _).1,(NL _ _ _).2⟩
def zf{b:Bt}(a:BOk b):Like b b:=⟨rfl,rfl,rfl,rfl,a.words,rfl,rfl⟩
def FS{b:Bt}(d:BOk b){p:Pl}{n:Nd}{tw:Int}{a:Nat}(f:p.at_=a)(g:a+ZM n<=(Zz b.h p.part).length)(j:∀q∈n.data,ZA q):Like b (W9 b p n tw):=by
 unfold W9;rw[f,ZdF];exact FT d (Z2J g) (Z2K d.words j)
def jV{x:Rw}{b:Bt}(d:BOk b){i:Nat}{n:Nd}{p:Pl}(f:b.g.nodes[i]?=some n)(l:b.here[i]?=some p):Like b (U6 x b i n p):=by
 unfold U6;split
 ·rename_i h;obtain rfl|⟨a,j,o,k⟩:=d.here i p n l f
  ·simp at h
  ·exact FS d j k (d.dat n (Zdr f))
 ·exact zf d
def jW{b:Bt}(d:BOk b){i:Nat}{n:Nd}{p o:Pl}(f:b.g.nodes[i]?=some n)(l:b.old[i]?=some o):Like b (U7 b n p o):=by
 unfold U7;split
 ·rename_i h;obtain rfl|⟨a,j,q,k⟩:=d.old i o n l f
  ·simp at h
  ·exact FS d j k (d.dat n (Zdr f))
 ·exact zf d
def Z2O{b:Bt}(a:BOk b){p o:Pl}:Like b (VP b p o):=by
 unfold VP;split
 ·refine FT a Z1 λw d=> ?_;obtain h|rfl:=Zf3 d
  ·exact a.words.1 _ w h
  ·exact Bx _ _
 ·exact zf a
def Z2P{x:Rw}{b:Bt}(a:BOk b){i:Nat}(f:i<b.g.nodes.length):Like b (Qn x b i):=by
 have h:b.g.nodes[i]?=some b.g.nodes[i]:=Zdk f;have l:b.here[i]?=some (b.here[i]'(by rw[a.hl];exact f)):=Zdk _;have k:b.old[i]?=some (b.old[i]'(by rw[a.ol];exact f)):=Zdk _;unfold Qn;simp only[h,l,k,ZdN];have d:=jV (x:=x) a h l;have j:=jW (p:=b.here[i]'(by rw[a.hl];exact f)) (d.ok a) (by rw[d.g];exact h) (by rw[d.old];exact k);exact(d.trans j).trans (Z2O (j.ok (d.ok a)))
def VQ(x:Rw)(b:Bt):Nat->Bt
 |0=>b
 |i+1=>Qn x (VQ x b i) i
def JT{x:Rw}{b:Bt}(a:BOk b):∀i,i<=b.g.nodes.length->Like b (VQ x b i)
 |0,_=>zf a
 |i+1,d=>by
  have h:=JT (x:=x) a i Z0;exact h.trans (Z2P (h.ok a) (by rw[h.g];omega))
def Yw(x:Rw)(b:Bt):Hp:=
 let a:=VQ x b b.g.nodes.length
 {a.h with roots:=b.g.roots.map λr=>if 0<=r then YH a.h ((b.here[r.toNat]?).getD ⟨0,0⟩)else 0}
def Ei{x:Rw}(hx:x.ok){b:Bt}(H:BOk b):VC Sol.prog 25 false [Xl b,Wd x] (ZD (Yw x b)):=by
 refine ZN Sol.func25 follows Z2 PW rfl ?_;simp[HD,Xw];refine WM 5 b.g.nodes.length (λi=>[(2,.m (Xw (VQ x b i))),(5,.v (vi i))]) (λ_=>True) (by simp[VQ,Xw]) (λi=>Z1) trivial ?_;rintro i hi-;have F:=JT (x:=x) H i hi;have J:=Zy ((i:Int)+1) (by have:=H.nn;omega) (by have:=H.nn;omega);by_cases h:i<b.g.nodes.length
 ·have f:=F.ok H;simp only[VQ];have z:i< (VQ x b i).g.nodes.length:=by rw[F.g];exact h
  generalize a3:VQ x b i=c at*;have t:c.g.nodes[i]?=some c.g.nodes[i]:=Zdk z;have y:c.here[i]?=some (c.here[i]'(by rw[f.hl];exact z)):=Zdk _;have w:c.old[i]?=some (c.old[i]'(by rw[f.ol];exact z)):=Zdk _;unfold Qn;simp only[t,y,w,ZdN];generalize c.g.nodes[i]=n at*;generalize c.here[i]'(by rw[f.hl];exact z)=p at*;generalize c.old[i]'(by rw[f.ol];exact z)=o at*
  have S:∀q∈n.ptrs,q< (c.here.length:Int)/\q< (c.old.length:Int):=λq T=>by
   have:=f.ptr n (Zdr t) q T;rw[f.hl,f.ol];exact⟨this,this⟩
  have kA:=jV (x:=x) f t y;have bA:=kA.ok f;have kO:=jW (p:=p) bA (by rw[kA.g];exact t) (by rw[kA.old];exact w);have bO:=kO.ok bA;have I:c.g.nodes.length=b.g.nodes.length:=by rw[F.g]
  have a5:c.g=b.g:=F.g
  have Q:0<p.part->VC Sol.prog 54 false [Xl c,XW p,Yi n,vi (IntKind.i64.wrap (x.slack+i))] (Xl (W9 c p n (IntKind.i64.wrap (x.slack+i)))):=λN=>by
   obtain rfl|⟨a,K,X,L⟩:=f.here i p n y t
   ·simp at N
   ·exact FJ f.lay K (by have:=f.len p.part;omega) L S
  have M:0<o.part->VC Sol.prog 54 false [Xl c,XW o,Yi n,vi 0] (Xl (W9 c o n 0)):=λN=>by
   obtain rfl|⟨a,K,X,L⟩:=f.old i o n w t
   ·simp at N
   ·exact FJ f.lay K (by have:=f.len o.part;omega) L S
  have a1:p.part=0\/0<p.part:=by
   obtain rfl|⟨a,K,X,L⟩:=f.here i p n y t
   ·exact .inl rfl
   ·exact .inr Z0
  have R:o.part=0\/0<o.part:=by
   obtain rfl|⟨a,K,X,L⟩:=f.old i o n w t
   ·exact .inl rfl
   ·exact .inr Z0
  obtain u|u:=a1
  ·obtain j|j:=R
   ·simp[Xw,h,z,I,t,y,w,ZU t,ZU y,ZU w,U6,U7,VP,u,j,J]
   ·have a6:¬0<p.part:=Z0
    have A:Like c (W9 c o n 0):=by
     have:=jW (p:=p) f t w;unfold U7 at this;rwa[if_pos ⟨j,u⟩]at this
    have a0:=M j;simp[Xw,h,z,I,t,y,w,ZU t,ZU y,ZU w,U6,U7,VP,u,j,J];generalize W9 c o n 0=d at*;obtain⟨d1,d2,d3,d4,Y,_,_⟩:=A;refine Zw a0 (by simp[Xl]) ?_;simp[Xw,d1,d2,d3,t,y,w,ZU t,ZU y,ZU w,u,j,J,h]
  ·have C:¬p.part=0:=Z0
   have A:Like c (W9 c p n (IntKind.i64.wrap (x.slack+i))):=by
    have:=jV (x:=x) f t y;unfold U6 at this;rwa[if_pos u]at this
   have P:=Q u;have W:=A.ok f;obtain j|j:=R
   ·simp[Xw,h,z,I,t,y,w,ZU t,ZU y,ZU w,U6,U7,VP,u,j,C,J];generalize W9 c p n (IntKind.i64.wrap (x.slack+i))=d at*;obtain⟨d1,d2,d3,d4,Y,_,_⟩:=A;refine Zw P (by simp[Xl]) ?_;simp[Xw,d1,d2,d3,t,y,w,ZU t,ZU y,ZU w,u,j,C,J,h]
   ·simp[Xw,h,z,I,t,y,w,ZU t,ZU y,ZU w,U6,U7,VP,u,j,C,J];generalize W9 c p n (IntKind.i64.wrap (x.slack+i))=d at*;obtain⟨d1,d2,d3,d4,Y,_,_⟩:=A;refine Zw P (by simp[Xl]) ?_;simp[Xw,d1,d2,d3,t,y,w,ZU t,ZU y,ZU w,u,j,C,J,h];obtain rfl|⟨a,K,X,L⟩:=f.old i o n w t
    ·simp at j
    have a4:=W.len o.part;have B:(Zz d.h o.part).length<=Y2:=ZcK
    have Z:a< (Zz d.h o.part).length:=by
     have:=zZ d4 o.part;unfold ZM at L;omega
    refine Zw (Um (h:=d.h) (n:=o.part)) ZcH ?_;simp[B,y];refine Zw (Ku (b:=⟨d.h,c.g,c.here,c.old⟩) W.lay (p:=p)) Z1 ?_;simp[K,Z,w,ZU w];have G:=D4 (h:=d.h) (n:=o.part) (l:=(Zz d.h o.part).set a (YH d.h p));rw[Zg0]at G;refine Zw G ZcH ?_;simp[J,h,d1,d2,d3]
 ·have:i=b.g.nodes.length:=Z0;subst this;have W:=F.ok H;unfold Yw;generalize VQ x b b.g.nodes.length=d at*;obtain⟨d1,d2,d3,d4,Y,_,_⟩:=F;simp[Xw,d1,d2,d3];refine WM 13 b.g.roots.length (λk=>[(12,.v (.sl ((b.g.roots.take k).map λr=>vu (if 0<=r then YH d.h ((b.here[r.toNat]?).getD ⟨0,0⟩)else 0)))),(13,.v (vi k))]) (λ_=>True) Z1 (λi=>Z1) trivial ?_;rintro k hk-;have a7:=H.rl;have U:=Zy ((k:Int)+1) Z0 Z0;by_cases D:k<b.g.roots.length
  ·have O:b.g.roots[k]?=some b.g.roots[k]:=Zdk D;have a8:=H.rts _ (ZdA D);generalize b.g.roots[k]=r at*;have a2:b.g.roots.take (k+1)=b.g.roots.take k++[r]:=by rw[Zee,O];rfl
   have B:min k b.g.roots.length+1<=Y2:=ZcK;by_cases N:0<=r
   ·obtain⟨q,rfl⟩:=Zdz N;have T:b.here[q]?=some (b.here[q]'(by rw[H.hl];omega)):=Zdk _;generalize b.here[q]'(by rw[H.hl];omega)=p at*;simp[D,O,ZU O,T,ZU T];refine Zw (Ku (b:=⟨d.h,b.g,b.here,b.old⟩) W.lay (p:=p)) Z1 ?_;simp[U,B,D];rw[Zee,ZdJ,O];simp[T]
   ·simp[D,O,ZU O,N,U,B,a2,D]
  ·have:k=b.g.roots.length:=Z0;subst this;simp[ZD]
end Vm
namespace Vm
open Go Go.Proofs
def PIn(s:St8)(p:Pl)(sz:Nat):Prop:=p=⟨0,0⟩\/∃a:Nat,p.at_=a/\((p.part=1/\a+sz<=s.n1)\/(p.part=2/\a+sz<=s.n2))
def POl(s:St8)(p:Pl)(sz:Nat):Prop:=p=⟨0,0⟩\/∃a:Nat,p.at_=a/\((p.part=3/\a+sz<=s.n3)\/(p.part=4/\a+sz<=s.n4))
def Z79{x:Rw}{cycle:Bool}{sz i:Nat}{s:St8}:s.n1<=(X6 x cycle sz i s).n1/\s.n2<=(X6 x cycle sz i s).n2/\s.n3<=(X6 x cycle sz i s).n3/\s.n4<=(X6 x cycle sz i s).n4:=by
 grind [X6]
def PIn.mono{s t:St8}{p:Pl}{sz:Nat}(h:PIn s p sz)(g:s.n1<=t.n1)(h2:s.n2<=t.n2):PIn t p sz:=by
 obtain h|⟨a,f,⟨d,h⟩|⟨d,h⟩⟩:=h
 ·exact .inl h
 ·exact .inr ⟨a,f,.inl ⟨d,Z0⟩⟩
 ·exact .inr ⟨a,f,.inr ⟨d,Z0⟩⟩
def POl.mono{s t:St8}{p:Pl}{sz:Nat}(h:POl s p sz)(g:s.n3<=t.n3)(h2:s.n4<=t.n4):POl t p sz:=by
 obtain h|⟨a,f,⟨d,h⟩|⟨d,h⟩⟩:=h
 ·exact .inl h
 ·exact .inr ⟨a,f,.inl ⟨d,Z0⟩⟩
 ·exact .inr ⟨a,f,.inr ⟨d,Z0⟩⟩
def N7{x:Rw}{cycle:Bool}{g:Gr}(k:∀n∈g.nodes,ZM n<=9):∀i,i<=g.nodes.length->∀(j:Nat) (n:Nd),g.nodes[j]?=some n->
  (∀p,(Y3 x cycle g i).here[j]?=some p->PIn (Y3 x cycle g i) p (ZM n))/\(∀p,(Y3 x cycle g i).old[j]?=some p->POl (Y3 x cycle g i) p (ZM n))
 |0,_,j,n,h=>⟨λp a=>by simp[Y3]at a,λp a=>by simp[Y3]at a⟩
 |i+1,C,j,n,h=>by
  obtain⟨o,q⟩:=N7 (x:=x) (cycle:=cycle) k i Z0 j n h;obtain⟨_,_,u,w⟩:=KP (x:=x) (cycle:=cycle) k i Z0;have d:g.nodes[i]?=some g.nodes[i]:=Zdk Z0;simp only[Y3,d,ZdN];generalize Y3 x cycle g i=s at*;obtain⟨y,z,A,B⟩:=Z79 (x:=x) (cycle:=cycle) (sz:=ZM g.nodes[i]) (i:=i) (s:=s);have t:j<g.nodes.length:=(Zdl.1 h).1;constructor
  ·intro p a;by_cases r:j<i
   ·have:s.here[j]?=some p:=by
     simp only[X6]at a;rwa[ZdT Z0]at a
    exact(o p this).mono y z
   ·by_cases f:j=i
    ·subst f;rw[d]at h;cases h;simp only[X6]at a;rw[ZdI Z0,u,Zf9]at a;simp only[ZfB,Zdj]at a;subst a;unfold PIn;obtain l|l|⟨l,rfl⟩:=Sh x j cycle
     ·grind [X6]
     ·grind [X6]
     simp_all
    grind [X6,List.getElem?_eq_some_iff]
  ·intro p a;by_cases r:j<i
   ·have:s.old[j]?=some p:=by
     simp only[X6]at a;rwa[ZdT Z0]at a
    exact(q p this).mono A B
   ·by_cases f:j=i
    ·subst f;rw[d]at h;cases h;simp only[X6]at a;rw[ZdI Z0,w,Zf9]at a
     grind [List.getElem?_cons_zero,Option.some.injEq,POl,decide,WN,Wp,X6]
    grind [X6,List.getElem?_eq_some_iff]
def Gi(l:List Nd)(a:List Int):∀n∈(ZV l a).nodes,∀q∈n.ptrs,-1<=q/\q< ((ZV l a).nodes.length:Int):=by
 intro n d q f;rw[zp];simp only[ZV,ZdB]at d;obtain⟨y,_,rfl⟩:=d;simp only[Ux,ZdB]at f;obtain⟨p,_,rfl⟩:=f;exact Ms
def Z3n(l:List Nd)(a:List Int):∀q∈(ZV l a).roots,-1<=q/\q< ((ZV l a).nodes.length:Int):=by
 intro q d;rw[zp];simp only[ZV]at d;split at d
 ·grind
 ·simp only[ZdB]at d;obtain⟨p,_,rfl⟩:=d;exact Ms
def Z3l(l:List Nd)(a:List Int)(f:∀n∈l,∀q∈n.data,ZA q):∀n∈(ZV l a).nodes,∀q∈n.data,ZA q:=by
 intro n d q g;simp only[ZV,ZdB]at d;obtain⟨y,h,rfl⟩:=d
 grind [Ux,List.mem_of_mem_take]
def KQ{x:Rw}(hx:x.ok)(cycle:Bool):BOk (Yx x cycle)/\Yv (Yx x cycle).h.scan/\ZJ (Zv (Yx x cycle).h)=true:=by
 obtain⟨w,u,y⟩:=Ad x.nodes x.roots;have z:=zp x.nodes x.roots;have K:=Gi x.nodes x.roots;have L:=Z3n x.nodes x.roots;have B:=Z3l x.nodes x.roots hx.data;unfold Yx;generalize ZV x.nodes x.roots=g at*;have t:∀n∈g.nodes,ZM n<=9:=λn J=>by grind [ZM]
 obtain⟨M,N,F,G⟩:=KP (x:=x) (cycle:=cycle) t g.nodes.length (Zdp _);have r:=N7 (x:=x) (cycle:=cycle) t g.nodes.length (Zdp _);dsimp only;generalize Y3 x cycle g g.nodes.length=s at*;have C:=VY (c:=x.slack) (n:=12) Z0;have D:=VY (c:=x.to) (n:=2) Z0;obtain⟨cap,q⟩:∃cap:Int,max ((s.n1:Int)+s.n2+s.wt) ((s.n3:Int)+s.n4)+pick x.slack 12=cap:=⟨_,rfl⟩;rw[q];have A:0<=cap/\cap<=200:=Z0;have H:=Zhm x.base (Z0:(9223372036854775808-2*cap)≠0);have I:=ZgQ x.base (Z0:0< (9223372036854775808-2*cap));generalize x.base% (9223372036854775808-2*cap)=base at*
 have l:Yv (if cycle=true/\0<s.n1 then pick x.scan s.n1 else s.n1):=by
  split
  ·rename_i h;have:=VY (c:=x.scan) (n:=s.n1) Z0;exact⟨Z0,Z0⟩
  ·exact⟨Z0,Z0⟩
 refine⟨⟨?_,?_,?_,?_,?_,?_,?_,?_,?_,?_,?_,?_⟩,l,?_⟩
 ·refine⟨⟨?_,?_⟩,⟨?_,?_⟩,⟨?_,?_⟩,⟨?_,?_⟩,⟨?_,?_⟩,⟨?_,?_⟩,⟨?_,?_⟩⟩<;>simp[Zv]<;>omega
 ·exact F
 ·exact G
 ·simp_all
 ·grind
 ·exact B
 ·simp_all
 ·exact u
 ·intro i p n j f;rcases(r i n f).1 p j with h|⟨a,o,⟨d,h⟩|⟨d,h⟩⟩
  ·grind
  ·exact .inr ⟨a,o,.inl d,Zcq⟩
  ·exact .inr ⟨a,o,.inr d,Zcq⟩
 ·intro i p n j f;rcases(r i n f).2 p j with h|⟨a,o,⟨d,h⟩|⟨d,h⟩⟩
  ·grind
  ·exact .inr ⟨a,o,.inl d,Zcq⟩
  ·exact .inr ⟨a,o,.inr d,Zcq⟩
 ·grind [Zz]
 ·refine⟨λk=> ?_,Z1⟩
  grind [List.replicate,ZA,Zz]
 ·refine U0.2 ?_;simp only[Zv,Zho];omega
def Cc(x:Rw):Hp:=Yw x (Yx x false)
def Uu(x:Rw):Hp:=if(Yx x true).h.low.length=0 then Cc x else Yw x (Yx x true)
def OG{x:Rw}(hx:x.ok):VC Sol.prog 24 false [Wd x] (ZD (Cc x)):=by
 refine ZN Sol.func24 follows Z2 PV rfl ?_;simp[Hz];refine Zw (N9 hx (cycle:=false)) (by simp[Wd]) ?_;simp;refine Zw (Ei hx (KQ hx false).1) Z1 ?_;simp;rfl
def Ot{x:Rw}(hx:x.ok):VC Sol.prog 8 false [Wd x] (ZD (Uu x)):=by
 refine ZN Sol.func8 follows Z2 c8 rfl ?_;simp[p8];refine Zw (N9 hx (cycle:=true)) (by simp[Wd]) ?_;unfold Uu;by_cases a:(Yx x true).h.low.length=0
 ·simp[Xw,a];refine Zw (OG hx) Z1 ?_;simp;rfl
 ·simp[Xw,a];refine Zw (Ei hx (KQ hx true).1) Z1 ?_;simp;rfl
def Ef{x:Rw}{b:Bt}(l:BOk b)(t:Yv b.h.scan):(Yw x b).ok/\Zv (Yw x b)=Zv b.h/\(Yw x b).scan=b.h.scan/\(Yw x b).cycle=b.h.cycle:=by
 have j:=JT (x:=x) l b.g.nodes.length (Zdp _);have o:=j.ok l;unfold Yw;generalize VQ x b b.g.nodes.length=d at*;obtain⟨k,B,C,D,F,G,H,I,J,p,a,f⟩:=o;have u:=a 1;have y:=a 2;have z:=a 3;have A:=a 4;have w1:=f.1 1;have w2:=f.1 2;have w3:=f.1 3;have w4:=f.1 4;simp only[QS,zW,zX,zY]at u y z A w1 w2 w3 w4;have q:=l.rl;refine⟨⟨k.1,k.2.1,k.2.2.1,by rw[j.scan];exact t,?_,?_,?_,?_,?_,w1,w2,w3,w4,?_⟩,j.lay,j.scan,j.cycle⟩
 ·grind
 ·grind
 ·grind
 ·grind
 ·simp;omega
 ·intro w n;simp only[ZdB]at n;obtain⟨r,_,rfl⟩:=n;split
  ·exact Bx _ _
  ·exact⟨Z0,Z0⟩
end Vm
end
section
namespace Vm
open Go
open Go.Proofs
def I9:Fn:=⟨18,[0,1,2,3,4,5,6,7,33,8,9,10,11,12,13,14,15,77],
pQ [pR [(1,pS 0 10),pV 2 pN,pV 3 pF],pC [pK 18 88 [.m 1 5]] [pV 4 (.ext (.s 18) 0),pV 5 (.ext (.s 18) 1)],pC [pK 19 88 [.m 1 6]] [pV 6 (.ext (.s 19) 0),pV 7 (.ext (.s 19) 1)],pQ [.reg ⟨[.lt 20 [] (.bin .neq (.s 5) (pI 0))],[([(20,false)],.bin .neq (.s 7) (pI 0))],[pV 8 (.ite (.s 20) pT (.bin .neq (.s 7) (pI 0)))]⟩] (.cond (.s 8) (pQ [pR [pV 3 pF]] .ret) .skip),pC [pK 21 89 [.mm 1 0 10,.m 1 7,.s 4]] [pV 9 (.ext (.s 21) 0),pV 10 (.ext (.s 21) 1)],pC [pK 22 89 [.mm 1 0 10,.m 1 8,.s 4]] [pV 11 (.ext (.s 22) 0),pV 12 (.ext (.s 22) 1)],pC [pK 23 90 [.m 1 7,.s 9]] [pV 13 (.ext (.s 23) 0),pV 14 (.ext (.s 23) 1)],pC [pK 24 90 [.m 1 8,.s 11]] [pV 15 (.ext (.s 24) 0),pV 16 (.ext (.s 24) 1)],pQ [.reg ⟨[.lt 25 [] (.un .not (.s 10)),.lt 26 [] (.ite (.s 25) pT (.un .not (.s 12))),.lt 27 [] (.ite (.s 26) pT (.bin .neq (.s 14) (pI 0)))],[([(25,false)],.un .not (.s 12)),([(26,false)],.bin .neq (.s 14) (pI 0)),([(27,false)],.bin .neq (.s 16) (pI 0))],[pV 17 (.ite (.s 27) pT (.bin .neq (.s 16) (pI 0)))]⟩] (.cond (.s 17) (pQ [pR [pV 3 pF]] .ret) .skip),pR [pV 2 (.lit [pN,.one (.s 4),.one (.s 6),.one (.s 13),.one (.s 15)]),pV 3 pT]] .ret,[(2,.v),(3,.v)]⟩
def c61:ZH Sol.prog fresh sig [.fz] [] Tryz.f61=some I9:=Z2
def Ib:Fn:=⟨7,[0,1,2,3,6,7,8],
pQ [pR [(3,pS 0 10),pV 4 (pU 0)],pC [pK 7 41 [.mm 3 0 10],pK 8 40 [.s 7,.ag [.one (.s 1),.one (.s 2)]]] [pV 5 (.ext (.s 8) 0),pV 6 (.ext (.s 8) 1)],pR [pV 4 (.s 5)]] .ret,[(4,.v)]⟩
def c63:ZH Sol.prog fresh sig [.fz,.fz,.fz] [] Tryz.f63=some Ib:=Z2
def Il:Fn:=⟨3,[0,2,3],
pQ [pR [pV 1 pN,pV 2 (pI 0)],pC [pK 3 106 [.s 0,pN,pF]] [pV 1 (.ext (.s 3) 0),pV 2 (.ext (.s 3) 1)]] .ret,[(1,.v),(2,.v)]⟩
def c88:ZH Sol.prog fresh sig [.fz] [] Tryz.f88=some Il:=Z2
def Im:Fn:=⟨18,[0,1,2,3,6,7,8,9,19,10,11,12,13,37,14,15,46,54],
pQ [pR [(3,pS 0 10),pV 4 pN,pV 5 pF],pR [pV 6 pN],pQ [pR [pV 7 (pI 0)]] (.block 0 (.loop [0,1,2,3,4,5,6,7] (pQ [pQ [pR [pV 8 (.bin .lss (.s 7) (.len (.s 1)))]] (.cond (.s 8) .skip (.exit 0))] (.block 1 (pQ [pC [pK 18 107 [.fld (.idx (.s 1) (.s 7) 1) 0]] [(9,pM (.sz (.ext (.s 18) 0) 2) 2),pV 10 (.ext (.s 18) 1)],pC [pK 19 68 [.fld (.idx (.s 1) (.s 7) 1) 0]] [pV 11 (.ext (.s 19) 0),pV 12 (.ext (.s 19) 1)],pQ [pR [pV 13 (.bin .eql (.s 12) (pI 0))]] (.cond (.s 13) (pQ [pC [pK 20 91 [.mm 3 0 10,pI 1,.s 2,.s 11]] [(14,pM (.sz (.ext (.s 20) 0) 5) 5),pV 15 (.ext (.s 20) 1)],pQ [pR [pV 16 (.un .not (.s 15))]] (.cond (.s 16) (pQ [pR [pV 5 pF]] .ret) .skip),pR [(9,pM (.mm 14 1 2) 2)],pR [pV 10 (pI 0)]] (pR [pV 6 (.app (.s 6) (.lit [.mm 9 0 2]) 2)])) .skip),pQ [pR [pV 17 (.bin .neq (.s 10) (pI 0))]] (.cond (.s 17) (pQ [pR [pV 5 pF]] .ret) .skip)] (pR [pV 7 (.bin .add (.bin .add (.s 7) (pI 1)) (.m 9 0))])))))),pR [pV 4 (.s 6),pV 5 pT,(6,.no)]] .ret,[(4,.v),(5,.v)]⟩
def c89:ZH Sol.prog fresh sig [.fz,.fz,.fz] [] Tryz.f89=some Im:=Z2
def In:Fn:=⟨4,[0,1,4,5],
pQ [pR [pV 2 pN,pV 3 (pI 0)],pC [pK 4 106 [.s 0,.s 1,pT]] [pV 2 (.ext (.s 4) 0),pV 3 (.ext (.s 4) 1)]] .ret,[(2,.v),(3,.v)]⟩
def c90:ZH Sol.prog fresh sig [.fz,.fz] [] Tryz.f90=some In:=Z2
def Io:Fn:=⟨10,[0,1,2,3,4,8,9,10,14,26],
pQ [pR [(4,pS 0 10),(5,.m [pI 0,pI 0,pI 0,pF,pU 0]),pV 6 pF],pQ [pR [pV 7 (pI 0)]] (.block 0 (.loop [0,1,2,3,4,5,6,7] (pQ [pQ [pR [pV 8 (.bin .lss (.s 7) (.len (.s 2)))]] (.cond (.s 8) .skip (.exit 0)),.block 1 (pQ [pC [pK 10 63 [.mm 4 0 10,.s 1,.fld (.idx (.s 2) (.s 7) 5) 0]] [pV 9 (.bin .eql (.s 10) (.s 3))]] (.cond (.s 9) (pQ [pR [(5,pM (.flds (.idx (.s 2) (.s 7) 5) 0 5) 5),pV 6 pT]] .ret) .skip))] (pR [pV 7 (.bin .add (.s 7) (pI 1))])))),pR [(5,pM (.ag [pI 0,pI 0,pI 0,pF,pU 0]) 5),pV 6 pF]] .ret,[(5,(.ag 5)),(6,.v)]⟩
def c91:ZH Sol.prog fresh sig [.fz,.fz,.fz,.fz] [] Tryz.f91=some Io:=Z2
def Hh:Fn:=⟨21,[0,1,2,6,7,8,9,10,20,11,12,13,35,47,14,15,67,79,16,93,108],
pQ [pR [pV 3 pN,pV 4 (pI 0)],pR [pV 5 pN],pR [pV 6 (pI 0)],pQ [pR [pV 7 (pI 0)]] (.block 0 (.loop [0,1,2,3,4,5,6,7] (pQ [pQ [pR [pV 8 (.bin .lss (.s 7) (.len (.s 0)))]] (.cond (.s 8) .skip (.exit 0))] (.block 1 (pQ [pR [(9,pM (.ag [.one (.s 7),pI 0,pI 0,pF,pU 0]) 5)],pC [pK 21 68 [.fld (.idx (.s 0) (.s 7) 1) 0]] [pV 10 (.ext (.s 21) 0),pV 11 (.ext (.s 21) 1)],pQ [.reg ⟨[.lt 22 [] (.s 2)],[([(22,true)],.bin .eql (.s 11) (pI 0))],[pV 12 (.ite (.s 22) (.bin .eql (.s 11) (pI 0)) pF)]⟩] (.cond (.s 12) (pQ [pQ [.reg ⟨[.lt 23 [] (.bin .eql (.s 6) (.len (.s 1))),.call 24 [(23,false)] (.id 104) false false [.flds (.idx (.s 1) (.s 6) 2) 0 2]],[([(23,false)],.un .not (.s 24))],[pV 13 (.ite (.s 23) pT (.un .not (.s 24)))]⟩] (.cond (.s 13) (pQ [pR [pV 4 (pI 3)]] .ret) .skip),pR [(9,.m [.m 9 0,.m 9 1,.m 9 2,pT,.m 9 4])],pR [(9,.m [.m 9 0,.m 9 1,.m 9 2,.m 9 3,.one (.s 10)])],pR [(9,.m [.m 9 0,.fld (.flds (.idx (.s 1) (.s 6) 2) 0 2) 0,.fld (.flds (.idx (.s 1) (.s 6) 2) 0 2) 1,.m 9 3,.m 9 4])]] (pR [pV 6 (.bin .add (.s 6) (pI 1))])) (pQ [pC [pK 25 107 [.fld (.idx (.s 0) (.s 7) 1) 0]] [(14,pM (.sz (.ext (.s 25) 0) 2) 2),pV 15 (.ext (.s 25) 1)],pQ [pR [pV 16 (.bin .neq (.s 15) (pI 0))]] (.cond (.s 16) (pQ [pR [pV 4 (.s 15)]] .ret) .skip)] (pR [(9,.m [.m 9 0,.fld (.mm 14 0 2) 0,.fld (.mm 14 0 2) 1,.m 9 3,.m 9 4])]))),pQ [pR [pV 17 (.bin .gtr (.bin .add (.bin .add (.s 7) (pI 1)) (.m 9 1)) (.len (.s 0)))]] (.cond (.s 17) (pQ [pR [pV 4 (pI 2)]] .ret) .skip),pC [pK 26 119 [.slc (.s 0) (.bin .add (.s 7) (pI 1)) (.bin .add (.bin .add (.s 7) (pI 1)) (.m 9 1)) 1,.mm 9 0 5]] [pV 18 (.s 26)],pQ [pR [pV 19 (.bin .neq (.s 18) (pI 0))]] (.cond (.s 19) (pQ [pR [pV 4 (.s 18)]] .ret) .skip),pR [pV 5 (.app (.s 5) (.lit [.mm 9 0 5]) 5)]] (pR [pV 7 (.bin .add (.bin .add (.s 7) (pI 1)) (.m 9 1))])))))),pQ [pR [pV 20 (.bin .lss (.s 6) (.len (.s 1)))]] (.cond (.s 20) (pQ [pR [pV 4 (pI 3)]] .ret) .skip),pR [pV 3 (.s 5),pV 4 (pI 0),(5,.no)]] .ret,[(3,.v),(4,.v)]⟩
def Px:ZH Sol.prog fresh sig [.fz,.fz,.fz] [] Tryz.f106=some Hh:=Z2
def Ho:Fn:=⟨8,[0,1,3,4,5,9,20,33],
pQ [pR [(2,pS 1 5),pV 3 (pI 0)],pQ [pR [pV 4 (pI 0)]] (.block 0 (.loop [0,1,2,3,4] (pQ [pQ [pR [pV 5 (.bin .lss (.s 4) (.len (.s 0)))]] (.cond (.s 5) .skip (.exit 0)),.block 1 (pQ [pQ [.reg ⟨[.lt 8 [] (.m 2 3)],[([(8,true)],.bin .neq (.fld (.idx (.s 0) (.s 4) 1) 0) (pU 0))],[pV 6 (.ite (.s 8) (.bin .neq (.fld (.idx (.s 0) (.s 4) 1) 0) (pU 0)) pF)]⟩] (.cond (.s 6) (pQ [pR [pV 3 (pI 3)]] .ret) .skip),.reg ⟨[.lt 9 [] (.bin .lss (.s 4) (.m 2 2)),.call 10 [(9,true)] (.id 122) false false [.fld (.idx (.s 0) (.s 4) 1) 0]],[([(9,true)],.un .not (.s 10))],[pV 7 (.ite (.s 9) (.un .not (.s 10)) pF)]⟩] (.cond (.s 7) (pQ [pR [pV 3 (pI 3)]] .ret) .skip))] (pR [pV 4 (.bin .add (.s 4) (pI 1))])))),pR [pV 3 (pI 0)]] .ret,[(3,.v)]⟩
def PI:ZH Sol.prog fresh sig [.fz,.fz] [] Tryz.f119=some Ho:=Z2
def Hr:Fn:=⟨4,[0,2,3,4],
pQ [pR [pV 1 pF],pC [pK 4 68 [.s 0]] [pV 2 (.ext (.s 4) 0),pV 3 (.ext (.s 4) 1)],.reg ⟨[.lt 5 [] (.bin .eql (.s 0) (pU 0))],[([(5,false)],.bin .eql (.s 3) (pI 0))],[pV 1 (.ite (.s 5) pT (.bin .eql (.s 3) (pI 0)))]⟩] .ret,[(1,.v)]⟩
def PL:ZH Sol.prog fresh sig [.fz] [] Tryz.f122=some Hr:=Z2
end Vm
end
section
namespace Vm
open Go Go.Proofs
structure Ob where
 at_:Int
 size:Int
 ptrs:Int
 gone:Bool
 target:Int
 deriving DecidableEq,Inhabited
def ZE(o:Ob):V:=.agg [vi o.at_,vi o.size,vi o.ptrs,.bool o.gone,vu o.target]
@[simp]theorem ZbT(o:Ob):Vk (ZE o) 5=some (ZE o):=rfl
@[simp]theorem Zag(o:Ob):VS (ZE o) 0 5=some (ZE o):=rfl
@[simp]theorem ZaQ(o:Ob):(ZE o).cells=[vi o.at_,vi o.size,vi o.ptrs,.bool o.gone,vu o.target]:=rfl
@[simp]theorem Z9T(o:Ob):ZZ (ZE o) 0=some (vi o.at_):=rfl
@[simp]theorem Z9U(o:Ob):ZZ (ZE o) 1=some (vi o.size):=rfl
@[simp]theorem Z9V(o:Ob):ZZ (ZE o) 2=some (vi o.ptrs):=rfl
@[simp]theorem Z9W(o:Ob):ZZ (ZE o) 3=some (.bool o.gone):=rfl
@[simp]theorem Z9X(o:Ob):ZZ (ZE o) 4=some (vu o.target):=rfl
@[simp]theorem Zah(o:Ob):VS (ZE o) 1 2=some (RS o.size o.ptrs):=rfl
abbrev Zm:=List Ob
@[simp]theorem ZbF(l:Zm):Xj 5 (l.map ZE)=true:=RT λ_=>rfl
def Xa(s:Int×Int):V:=RS s.1 s.2
@[simp]theorem Zbz(s:Int×Int):(Xa s).cells=[vi s.1,vi s.2]:=rfl
@[simp]theorem ZbW(s:Int×Int):Vk (Xa s) 2=some (Xa s):=rfl
@[simp]theorem Zaj(s:Int×Int):VS (Xa s) 0 2=some (Xa s):=rfl
@[simp]theorem Za7(s:Int×Int):ZZ (Xa s) 0=some (vi s.1):=rfl
@[simp]theorem Za8(s:Int×Int):ZZ (Xa s) 1=some (vi s.2):=rfl
@[simp]theorem ZbH(l:List (Int×Int)):Xj 2 (l.map Xa)=true:=RT λ_=>rfl
def WY(w:Int):Bool:=decide (w=0)||decide ((adr w).2=0)
def Z5H{w:Int}(a:ZA w):VC Sol.prog 122 false [vu w] (.bool (WY w)):=by
 refine ZN Sol.func122 follows Z2 PL rfl ?_;simp[Hr];refine Zw (yo a) Z1 ?_;simp_all[WY]
def Xb(l:Ze)(gone:Bool)(ptrs:Int)(i:Nat):Bool:=
 match l with
 | []=>true
 |w::l=>(!gone||decide (w=0))&&(!decide ((i:Int)<ptrs)||WY w)&&Xb l gone ptrs (i+1)
def N0{l:Ze}{gone:Bool}{ptrs:Int}{i:Nat}{w:Int}(h:l[i]?=some w):Xb (l.drop i) gone ptrs i=((!gone||decide (w=0))&&(!decide ((i:Int)<ptrs)||WY w)&&Xb (l.drop (i+1)) gone ptrs (i+1)):=by
 obtain⟨a,d⟩:=Zdl.1 h;rw[Zef a,d];rfl
def M9{l:Ze}{o:Ob}(u:l.length<=1000000)(r:∀w∈l,ZA w):VC Sol.prog 119 false [.sl (l.map vu),ZE o] (vi (if Xb l o.gone o.ptrs 0 then 0 else 3)):=by
 refine ZN Sol.func119 follows Z2 PI rfl ?_;simp[Ho];refine Tl 4 l.length (λi=>Xb l o.gone o.ptrs 0=Xb (l.drop i) o.gone o.ptrs i) Z1 Z1 Z1 ?_;intro i t f;have j:=Zy ((i:Int)+1) Z0 Z0;by_cases h:i<l.length
 ·have g:l[i]?=some l[i]:=Zdk h;have q:=r _ (ZdA h);rw[N0 g]at f;generalize l[i]=w at*;rw[f];by_cases g1:o.gone=true/\w≠0
  ·simp_all
  ·have a:(!o.gone||decide (w=0))=true:=by
    cases d:o.gone
    ·rfl
    ·simp_all
   have k:=Z5H q;by_cases g2:(i:Int)<o.ptrs
   ·cases d:o.gone
    ·cases n:WY w
     all_goals
      rw[n]at k;simp[h,g,ZU g,d,g2];refine Zw k Z1 ?_;simp[j,d,h]
    ·rw[d]at a;simp at a;subst a;have p:WY 0=true:=rfl;rw[p]at k;simp[h,g,ZU g,d,g2];refine Zw k Z1 ?_;simp_all
   ·cases d:o.gone
    all_goals
     rw[d]at a;simp at a;simp[h,g,ZU g,d,a,g2,j]
 ·have:i=l.length:=Z0;simp_all[Xb]
def XU(shs:List (Int×Int))(old:Bool)(at_ a:Nat)(w:Int):Option (Ob×Nat):=
 if old=true/\(adr w).2=0 then
  match shs[a]? with
  |none=>none
  |some s=>if Ye s.1 s.2 then some (⟨at_,s.1,s.2,true,(adr w).1⟩,a+1)else none
 else if(ZO w).2.2=0 then some (⟨at_,(ZO w).1,(ZO w).2.1,false,0⟩,a)else none
def KW{w:Int}(h:(ZO w).2.2=0):Ye (ZO w).1 (ZO w).2.1=true:=by
 unfold ZO at*
 grind
def zE{shs:List (Int×Int)}{old:Bool}{at_ d:Nat}{w:Int}{o:Ob}{t:Nat}(h:XU shs old at_ d w=some (o,t)):Ye o.size o.ptrs=true/\o.at_=at_:=by
 unfold XU at h;split at h
 ·grind
 ·split at h
  ·rename_i a;cases h;exact⟨KW a,rfl⟩
  ·cases h
def Xc(ws:Ze)(shs:List (Int×Int))(old:Bool):Nat->Nat->Nat->List Ob->List Ob×Int
 |0,_,_,_=>([],3)
 |f+1,at_,d,a=>
  match ws[at_]? with
  |none=>if d<shs.length then([],3)else(a,0)
  |some w=>match XU shs old at_ d w with
   |none=>([],3)
   |some (o,t)=>
    if(ws.length:Int)<at_+1+o.size then([],2)
    else if Xb ((ws.drop (at_+1)).take o.size.toNat) o.gone o.ptrs 0=false then([],3)
    else Xc ws shs old f (at_+1+o.size.toNat) t (a++[o])
def ZL(ws:Ze)(shs:List (Int×Int))(old:Bool):List Ob×Int:=Xc ws shs old (ws.length+1) 0 0 []
def Md{ws:Ze}{shs:List (Int×Int)}{old:Bool}(hl:ws.length<=1000000)(hs:shs.length<=1000000)(hw:∀w∈ws,ZA w):
  VC Sol.prog 106 false [.sl (ws.map vu),.sl (shs.map Xa),.bool old] (.tup [.sl ((ZL ws shs old).1.map ZE),vi (ZL ws shs old).2]):=by
 refine ZN Sol.func106 follows Z2 Px rfl ?_;simp[Hh]
 refine Vp (λ(p:Nat×Nat×List Ob)=>[(5,.v (.sl (p.2.2.map ZE))),(6,.v (vi p.2.1)),(7,.v (vi p.1))])
  (λp=>p.1<=ws.length/\p.2.1<=shs.length/\p.2.2.length<=p.1/\∃f,ws.length<f+p.1/\ZL ws shs old=Xc ws shs old f p.1 p.2.1 p.2.2)
  (ZY 7 ws.length) (0,0,[]) Z1 ⟨Z1,Z1,Z1,ws.length+1,Z1,rfl⟩ ?_
 rintro⟨at_,J,F⟩ ⟨ha,ht,Q,f,hf,a⟩;simp only at ha ht Q hf a;cases f with
 |zero=>omega
 |succ f=>
 have t:=Zy ((at_:Int)+1) Z0 Z0;by_cases h:at_<ws.length
 ·have H:ws[at_]?=some ws[at_]:=Zdk h;have hu:=hw _ (ZdA h);generalize ws[at_]=w at*;simp only[Xc,H]at a;have R:=yo hu;have D:=Ma hu;simp[h,H,ZU H];refine Zw R Z1 ?_;unfold XU at a;by_cases P:old=true/\(adr w).2=0
  ·rw[if_pos P]at a;obtain⟨T,U⟩:=P;subst T;simp[U];by_cases Z:J<shs.length
   ·have G:shs[J]?=some shs[J]:=Zdk Z;generalize shs[J]=s at*;have a0:¬((J:Int)=(shs.length:Int)):=Z0;simp only[G]at a;have Y:=M7 (s:=s.1) (p:=s.2);simp[a0,G];refine Zw Y (by simp[Xa]) ?_;cases g:Ye s.1 s.2
    ·rw[g]at a;simp at a;rw[a];simp
    ·rw[g]at a;simp at a;have a1:=Zy ((J:Int)+1) Z0 Z0;have B:=Yf.1 g;obtain⟨z,I⟩:=Zdz B.1;have a2:=B.2.1;have w2:=Zy ((at_:Int)+1+z) Z0 Z0;obtain⟨r,M⟩:∃m:Nat,at_+1=m:=⟨_,rfl⟩;obtain⟨u,W⟩:∃m:Nat,at_+1+z=m:=⟨_,rfl⟩;have j:(at_:Int)+1=r:=Z0;have k:(r:Int)+z=u:=Z0;rw[j]at t;rw[j,k]at w2;rw[j,I,k,ZdF,M,show r+z=u by omega]at a;by_cases d:(ws.length:Int)<u
     ·rw[if_pos d]at a;rw[a];simp[G,I,j,t,k,w2,d]
     ·rw[if_neg d]at a
      have N:((ws.map vu).take u).drop r=((ws.drop r).take z).map vu:=by
       rw[<-Zg5,<-Zh6,Zhv,show u-r=z by omega]
      have n:=M9 (l:=(ws.drop r).take z) (o:=⟨at_,z,s.2,true,(adr w).1⟩) Zcr (λq X=>hw q (ZeA (Ze4 X)));have L:r<=u:=Z0;have x:u<=ws.length:=Z0;have O:Xj 1 (ws.map vu)=true:=KM _;have y:F.length+1<=Y2:=ZcK;simp[G,I,j,t,k,w2,d,L,x,O,N];rw[<-Zh6,<-Zg5];refine Zw n Z1 ?_;cases A:Xb ((ws.drop r).take z) true s.2 0
      ·rw[A]at a;simp at a;rw[a];simp
      ·rw[A]at a;simp at a;simp[a1,y,j,t,k,w2,I];exact⟨u,J+1,F++[⟨at_,z,s.2,true,(adr w).1⟩],⟨Z0,Z0,Zcr,f,Z0,a⟩,by simp[ZE],ZcB⟩
   grind
  ·rw[if_neg P]at a;by_cases C:(ZO w).2.2=0
   ·rw[if_pos C]at a;have g:=KW C;simp only at a;by_cases g1:old=true
    case' pos=>
     have g2:¬(adr w).2=0:=λg2=>P ⟨g1,g2⟩;subst g1;simp[g2,H]
    case' neg=>
     have K:old=false:=by simpa using g1
     subst K;simp[H]
    all_goals
     refine Zw D Z1 ?_;have B:=Yf.1 g;obtain⟨z,I⟩:=Zdz B.1;have a2:=B.2.1;have w2:=Zy ((at_:Int)+1+z) Z0 Z0;obtain⟨r,M⟩:∃m:Nat,at_+1=m:=⟨_,rfl⟩;obtain⟨u,W⟩:∃m:Nat,at_+1+z=m:=⟨_,rfl⟩;have j:(at_:Int)+1=r:=Z0;have k:(r:Int)+z=u:=Z0;rw[j]at t;rw[j,k]at w2;rw[j,I,k,ZdF,M,show r+z=u by omega]at a;by_cases d:(ws.length:Int)<u
     ·rw[if_pos d]at a;rw[a];simp[C,I,j,t,k,w2,d]
     ·rw[if_neg d]at a
      have N:((ws.map vu).take u).drop r=((ws.drop r).take z).map vu:=by
       rw[<-Zg5,<-Zh6,Zhv,show u-r=z by omega]
      have n:=M9 (l:=(ws.drop r).take z) (o:=⟨at_,z,(ZO w).2.1,false,0⟩) Zcr (λq X=>hw q (ZeA (Ze4 X)));have L:r<=u:=Z0;have x:u<=ws.length:=Z0;have O:Xj 1 (ws.map vu)=true:=KM _;have y:F.length+1<=Y2:=ZcK;simp[C,I,j,t,k,w2,d,L,x,O,N];rw[<-Zh6,<-Zg5];refine Zw n Z1 ?_;cases A:Xb ((ws.drop r).take z) false (ZO w).2.1 0
      ·rw[A]at a;simp at a;rw[a];simp
      ·rw[A]at a;simp at a;simp[y,j,t,k,w2,I];exact⟨u,J,F++[⟨at_,z,(ZO w).2.1,false,0⟩],⟨Z0,Z0,Zcr,f,Z0,a⟩,by simp[ZE],ZcB⟩
   ·rw[if_neg C]at a;simp only at a
    have S:(ZO w).2.2=3:=by
     unfold ZO at*;split
     ·simp_all
     ·rfl
    rw[a];by_cases g1:old=true
    ·have g2:¬(adr w).2=0:=λg2=>P ⟨g1,g2⟩;subst g1;simp[g2,H];refine Zw D Z1 ?_;simp[S]
    ·have K:old=false:=by simpa using g1
     subst K;simp[H];refine Zw D Z1 ?_;simp[S]
 ·have H:ws[at_]?=none:=Zeq Z0;simp only[Xc,H]at a;rw[a];simp[h];simp_all
def Q7(n:Nat)(o:Ob):Prop:=(∃a:Nat,o.at_=a/\(a:Int)+1+o.size<=n)/\Ye o.size o.ptrs=true
def Z3T{shs:List (Int×Int)}{old:Bool}{at_ d:Nat}{w:Int}{o:Ob}{t:Nat}(a:ZA w)(h:XU shs old at_ d w=some (o,t)):ZA o.target:=by
 unfold XU at h;split at h
 ·split at h
  ·cases h
  ·split at h
   ·cases h;obtain⟨f,g⟩:=a;show 0<=(adr w).1/\(adr w).1<18446744073709551616
    grind [adr]
   ·cases h
 ·split at h
  ·cases h;show(0:Int)<=0/\(0:Int)<18446744073709551616;omega
  ·cases h
def NE{ws:Ze}{shs:List (Int×Int)}{old:Bool}(k:∀w∈ws,ZA w):∀(f at_ l:Nat) (d:Zm),(∀o∈d,Q7 ws.length o/\ZA o.target)->∀o∈(Xc ws shs old f at_ l d).1,Q7 ws.length o/\ZA o.target
 |0,_,_,_,_=>by simp[Xc]
 |f+1,at_,l,d,a=>by
  simp only[Xc];split
  ·split
   ·simp
   ·exact a
  ·rename_i w q;split
   ·simp
   ·rename_i o t j;split
    ·simp
    ·rename_i u;split
     ·simp
     ·refine NE k f _ _ _ λr g=> ?_;obtain h|h:=ZdL.1 g
      ·exact a r h
      ·simp only[Zes]at h;subst h;obtain⟨n,p⟩:=zE j;exact⟨⟨⟨at_,p,Z0⟩,n⟩,Z3T (k w (Zdr q)) j⟩
def Q0{ws:Ze}{shs:List (Int×Int)}{old:Bool}(a:∀w∈ws,ZA w):∀o∈(ZL ws shs old).1,Q7 ws.length o/\ZA o.target:=NE a _ _ _ _ Z1
def NF{ws:Ze}{shs:List (Int×Int)}{old:Bool}:∀(f at_ g:Nat) (a:Zm),at_<=ws.length->a.length<=at_->(Xc ws shs old f at_ g a).1.length<=ws.length
 |0,_,_,_,_,_=>by simp[Xc]
 |f+1,at_,g,a,k,d=>by
  simp only[Xc];split
  ·split
   ·simp
   ·simp only;omega
  ·split
   ·simp
   ·rename_i o t h;split
    ·simp
    ·rename_i l;split
     ·simp
     ·have j:=Yf.1 (zE h).1;refine NF f _ _ _ Z0 Zcr
def Q1{ws:Ze}{shs:List (Int×Int)}{old:Bool}:(ZL ws shs old).1.length<=ws.length:=NF _ _ _ _ Z0 Z1
def Mc{ws:Ze}(a:ws.length<=1000000)(d:∀w∈ws,ZA w):VC Sol.prog 88 false [.sl (ws.map vu)] (.tup [.sl ((ZL ws [] false).1.map ZE),vi (ZL ws [] false).2]):=by
 refine ZN Sol.func88 follows Z2 c88 rfl ?_;simp[Il];refine Zw (Md (shs:=[]) (old:=false) a Z1 d) Z1 ?_;simp
def Mb{ws:Ze}{shs:List (Int×Int)}(a:ws.length<=1000000)(d:shs.length<=1000000)(f:∀w∈ws,ZA w):VC Sol.prog 90 false [.sl (ws.map vu),.sl (shs.map Xa)] (.tup [.sl ((ZL ws shs true).1.map ZE),vi (ZL ws shs true).2]):=by
 refine ZN Sol.func90 follows Z2 c90 rfl ?_;simp[In];refine Zw (Md (old:=true) a d f) Z1 ?_;simp
end Vm
end
section
namespace Vm
open Go
open Go.Proofs
def HJ:Fn:=⟨16,[0,1,2,10,3,4,17,5,27,41,6,46,57,7,59,66],
pQ [pR [(1,pS 0 10),pV 2 pF],pQ [pC [pK 16 60 [.mm 1 0 10]] [pV 3 (.un .not (.s 16))]] (.cond (.s 3) (pQ [pR [pV 2 pF]] .ret) .skip),pC [pK 17 61 [.mm 1 0 10]] [pV 4 (.ext (.s 17) 0),pV 5 (.ext (.s 17) 1)],pQ [pR [pV 6 (.un .not (.s 5))]] (.cond (.s 6) (pQ [pR [pV 2 pF]] .ret) .skip),pQ [pR [pV 7 (pI 0)]] (.block 0 (.loop [0,1,2,3,4,5,6,7] (pQ [pQ [.reg ⟨[.lt 18 [] (.bin .lss (.s 7) (.len (.fld (.idx (.s 4) (pI 1) 1) 0)))],[([(18,true)],.m 1 3)],[pV 8 (.ite (.s 18) (.m 1 3) pF)]⟩] (.cond (.s 8) .skip (.exit 0)),.block 1 (pQ [pC [pK 19 63 [.mm 1 0 10,pI 1,.fld (.idx (.fld (.idx (.s 4) (pI 1) 1) 0) (.s 7) 5) 0],pK 20 62 [.s 4,.s 19]] [pV 9 (.bin .neq (.s 20) (pI 1))]] (.cond (.s 9) (pQ [pR [pV 2 pF]] .ret) .skip))] (pR [pV 7 (.bin .add (.s 7) (pI 1))])))),pQ [pR [pV 10 (pI 0)]] (.block 2 (.loop [0,1,2,3,4,5,6,7,8,10] (pQ [pQ [pR [pV 11 (.bin .lss (.s 10) (.len (.m 1 9)))]] (.cond (.s 11) .skip (.exit 2)),.block 3 (pQ [pC [pK 21 64 [.mm 1 0 10,.s 4,.fld (.idx (.m 1 9) (.s 10) 1) 0,pI 1,pI 2]] [pV 12 (.un .not (.s 21))]] (.cond (.s 12) (pQ [pR [pV 2 pF]] .ret) .skip))] (pR [pV 10 (.bin .add (.s 10) (pI 1))])))),pQ [pR [pV 13 (pI 1)]] (.block 4 (.loop [0,1,2,3,4,5,6,7,8,10,11,13] (pQ [pQ [pR [pV 14 (.bin .leq (.s 13) (pI 4))]] (.cond (.s 14) .skip (.exit 4)),.block 5 (pQ [pC [pK 22 65 [.mm 1 0 10,.s 4,.s 13]] [pV 15 (.un .not (.s 22))]] (.cond (.s 15) (pQ [pR [pV 2 pF]] .ret) .skip))] (pR [pV 13 (.bin .add (.s 13) (pI 1))])))),pC [pK 23 66 [.s 4]] [pV 2 (.bin .leq (.bin .add (.bin .add (.len (.m 1 5)) (.len (.m 1 6))) (.s 23)) (.m 1 1))]] .ret,[(2,.v)]⟩
def s9:ZH Sol.prog fresh sig [.fz] [] Tryz.f31=some HJ:=Z2
def HP:Fn:=⟨9,[0,1,2,4,5,6,20,7,8],
pQ [pR [(2,pS 0 10),pV 3 pN,pV 4 (pI 0)],pC [pK 9 31 [.mm 2 0 10]] [pV 5 (.s 9)],pQ [.reg ⟨[.lt 10 [] (.un .not (.s 5)),.lt 11 [] (.ite (.s 10) pT (.bin .lss (.s 1) (pI 1)))],[([(10,false)],.bin .lss (.s 1) (pI 1)),([(11,false)],.bin .gtr (.s 1) (pI 4))],[pV 6 (.ite (.s 11) pT (.bin .gtr (.s 1) (pI 4)))]⟩] (.cond (.s 6) (pQ [pR [pV 4 (pI 1)]] .ret) .skip),pC [pK 12 61 [.mm 2 0 10]] [pV 7 (.ext (.s 12) 0),pV 8 (.ext (.s 12) 1)],pR [pV 3 (.fld (.idx (.s 7) (.s 1) 1) 0),pV 4 (pI 0)]] .ret,[(3,.v),(4,.v)]⟩
def t9:ZH Sol.prog fresh sig [.fz,.fz] [] Tryz.f39=some HP:=Z2
def I8:Fn:=⟨6,[0,1,2,3,27,29],
pQ [pR [(1,pS 0 10),pV 2 pF],pC [pK 6 41 [.mm 1 0 10],pK 7 73 [.s 6]] [pV 3 (.s 7)],pQ [.reg ⟨[.lt 8 [] (.un .not (.s 3)),.lt 9 [] (.ite (.s 8) pT (.bin .gtr (.len (.m 1 9)) (pI 16))),.lt 10 [] (.ite (.s 9) pT (.bin .lss (.m 1 4) (pI 0)))],[([(8,false)],.bin .gtr (.len (.m 1 9)) (pI 16)),([(9,false)],.bin .lss (.m 1 4) (pI 0)),([(10,false)],.bin .gtr (.m 1 4) (.len (.m 1 5)))],[pV 4 (.ite (.s 10) pT (.bin .gtr (.m 1 4) (.len (.m 1 5))))]⟩] (.cond (.s 4) (pQ [pR [pV 2 pF]] .ret) .skip),pQ [pR [pV 5 (.m 1 3)]] (.cond (.s 5) (pQ [pR [pV 2 (.bin .lss (.m 1 4) (.len (.m 1 5)))]] .ret) .skip),.reg ⟨[.lt 11 [] (.bin .eql (.m 1 4) (.len (.m 1 5))),.lt 12 [] (.ite (.s 11) (.bin .eql (.len (.m 1 7)) (pI 0)) pF)],[([(11,true)],.bin .eql (.len (.m 1 7)) (pI 0)),([(12,true)],.bin .eql (.len (.m 1 8)) (pI 0))],[pV 2 (.ite (.s 12) (.bin .eql (.len (.m 1 8)) (pI 0)) pF)]⟩] .ret,[(2,.v)]⟩
def c60:ZH Sol.prog fresh sig [.fz] [] Tryz.f60=some I8:=Z2
def Ia:Fn:=⟨9,[0,1,4,5,6,9,7,18,40],
pQ [pR [pV 2 (pI 0)],pR [pV 3 (pI 0)],pQ [pR [pV 4 (pI 3)]] (.block 0 (.loop [0,1,2,3,4] (pQ [pQ [pR [pV 5 (.bin .leq (.s 4) (pI 4))]] (.cond (.s 5) .skip (.exit 0)),.block 1 (pQ [pR [pV 6 (pI 0)]] (.block 2 (.loop [0,1,2,3,4,5,6] (pQ [pQ [pR [pV 7 (.bin .lss (.s 6) (.len (.fld (.idx (.s 0) (.s 4) 1) 0)))]] (.cond (.s 7) .skip (.exit 2)),.block 3 (pQ [.reg ⟨[.lt 9 [] (.fld (.idx (.fld (.idx (.s 0) (.s 4) 1) 0) (.s 6) 5) 3)],[([(9,true)],.bin .eql (.fld (.idx (.fld (.idx (.s 0) (.s 4) 1) 0) (.s 6) 5) 4) (.s 1))],[pV 8 (.ite (.s 9) (.bin .eql (.fld (.idx (.fld (.idx (.s 0) (.s 4) 1) 0) (.s 6) 5) 4) (.s 1)) pF)]⟩] (.cond (.s 8) (pR [pV 3 (.bin .add (.s 3) (pI 1))]) .skip))] (pR [pV 6 (.bin .add (.s 6) (pI 1))])))))] (pR [pV 4 (.bin .add (.s 4) (pI 1))])))),pR [pV 2 (.s 3)]] .ret,[(2,.v)]⟩
def c62:ZH Sol.prog fresh sig [.fz,.fz] [] Tryz.f62=some Ia:=Z2
def AR:Fn:=⟨15,[0,1,2,3,4,5,10,18,11,12,25,13,14,15,16],
pQ [pR [(5,pS 0 10),pV 6 pF],pQ [pR [pV 7 (.bin .eql (.s 2) (pU 0))]] (.cond (.s 7) (pQ [pR [pV 6 pT]] .ret) .skip),pC [pK 15 68 [.s 2]] [pV 8 (.ext (.s 15) 0),pV 9 (.ext (.s 15) 1)],pQ [pR [pV 10 (.bin .neq (.s 9) (pI 0))]] (.cond (.s 10) (pQ [pR [pV 6 pF]] .ret) .skip),pC [pK 16 91 [.mm 5 0 10,.s 3,.fld (.idx (.s 1) (.s 3) 1) 0,.s 8]] [(11,pM (.sz (.ext (.s 16) 0) 5) 5),pV 12 (.ext (.s 16) 1)],pC [pK 17 91 [.mm 5 0 10,.s 4,.fld (.idx (.s 1) (.s 4) 1) 0,.s 8]] [(13,pM (.sz (.ext (.s 17) 0) 5) 5),pV 14 (.ext (.s 17) 1)],pC [.lt 18 [] (.s 12)] [pV 6 (.ite (.s 18) pT (.s 14))]] .ret,[(6,.v)]⟩
def c64:ZH Sol.prog fresh sig [.fz,.fz,.fz,.fz,.fz] [] Tryz.f64=some AR:=Z2
def Ic:Fn:=⟨17,[0,1,2,3,6,7,8,23,9,10,44,11,12,13,63,72,78],
pQ [pR [(3,pS 0 10),pV 4 pF],pC [pK 17 7 [.mm 3 0 10,.s 2]] [pV 5 (.s 17)],pQ [pR [pV 6 (pI 0)]] (.block 0 (.loop [0,1,2,3,4,5,6] (pQ [pQ [pR [pV 7 (.bin .lss (.s 6) (.len (.fld (.idx (.s 1) (.s 2) 1) 0)))]] (.cond (.s 7) .skip (.exit 0)),.block 1 (pQ [pR [(8,pM (.flds (.idx (.fld (.idx (.s 1) (.s 2) 1) 0) (.s 6) 5) 0 5) 5)],pR [pV 9 (.bin .add (.m 8 0) (pI 1))]] (.block 2 (.loop [0,1,2,3,4,5,6,7,8,9] (pQ [pQ [pR [pV 10 (.bin .lss (.s 9) (.bin .add (.bin .add (.m 8 0) (pI 1)) (.m 8 2)))]] (.cond (.s 10) .skip (.exit 2)),.block 3 (pQ [pC [pK 18 64 [.mm 3 0 10,.s 1,.fld (.idx (.s 5) (.s 9) 1) 0,pI 1,pI 2]] [pV 11 (.s 18)],pC [pK 19 64 [.mm 3 0 10,.s 1,.fld (.idx (.s 5) (.s 9) 1) 0,pI 3,pI 4]] [pV 12 (.s 19)],pR [pV 13 (.s 11)],pQ [pR [pV 14 (.bin .gtr (.s 2) (pI 2))]] (.cond (.s 14) (pR [pV 13 (.s 12)]) (pQ [.reg ⟨[.lt 20 [] (.bin .eql (.s 2) (pI 1))],[([(20,true)],.bin .geq (.s 9) (.m 3 4))],[pV 15 (.ite (.s 20) (.bin .geq (.s 9) (.m 3 4)) pF)]⟩] (.cond (.s 15) (pC [.lt 21 [] (.s 11)] [pV 13 (.ite (.s 21) pT (.s 12))]) .skip))),pR [pV 16 (.un .not (.s 13))]] (.cond (.s 16) (pQ [pR [pV 4 pF]] .ret) .skip))] (pR [pV 9 (.bin .add (.s 9) (pI 1))])))))] (pR [pV 6 (.bin .add (.s 6) (pI 1))])))),pR [pV 4 pT]] .ret,[(4,.v)]⟩
def c65:ZH Sol.prog fresh sig [.fz,.fz,.fz] [] Tryz.f65=some Ic:=Z2
def Id:Fn:=⟨8,[0,2,3,4,7,5,16,27],
pQ [pR [pV 1 (pI 0)],pR [pV 2 (pI 0)],pQ [pR [pV 3 (pI 3)]] (.block 0 (.loop [0,1,2,3] (pQ [pQ [pR [pV 4 (.bin .leq (.s 3) (pI 4))]] (.cond (.s 4) .skip (.exit 0)),.block 1 (pQ [pR [pV 5 (pI 0)]] (.block 2 (.loop [0,1,2,3,4,5] (pQ [pQ [pR [pV 6 (.bin .lss (.s 5) (.len (.fld (.idx (.s 0) (.s 3) 1) 0)))]] (.cond (.s 6) .skip (.exit 2)),.block 3 (pQ [pR [pV 7 (.un .not (.fld (.idx (.fld (.idx (.s 0) (.s 3) 1) 0) (.s 5) 5) 3))]] (.cond (.s 7) (pR [pV 2 (.bin .add (.bin .add (.s 2) (pI 1)) (.fld (.idx (.fld (.idx (.s 0) (.s 3) 1) 0) (.s 5) 5) 1))]) .skip))] (pR [pV 5 (.bin .add (.s 5) (pI 1))])))))] (pR [pV 3 (.bin .add (.s 3) (pI 1))])))),pR [pV 1 (.s 2)]] .ret,[(1,.v)]⟩
def c66:ZH Sol.prog fresh sig [.fz] [] Tryz.f66=some Id:=Z2
end Vm
end
section
namespace Vm
open Go Go.Proofs
def Yz(h:Hp)(part at_:Int):Int:=(ZW (Zv h) part at_).1
def Nb{h:Hp}(a:h.ok){part at_:Int}:VC Sol.prog 63 false [ZD h,vi part,vi at_] (vu (Yz h part at_)):=by
 refine ZN Sol.func63 follows Z2 c63 rfl ?_;simp[Ib];refine Zw (yp (h:=h)) Z1 ?_;simp;refine Zw (Bv a.lay (part:=part) (at_:=at_)) Z1 ?_;simp[Yz]
def Yg(h:Hp)(part:Int)(l:Zm)(a:Int):Option Ob:=l.find? λo=>Yz h part o.at_==a
def QK:Option Ob->V
 |some o=>.tup [ZE o,.bool true]
 |none=>.tup [ZE ⟨0,0,0,false,0⟩,.bool false]
def Z0O{l:Zm}{p:Ob->Bool}{i:Nat}{o:Ob}(h:l[i]?=some o)(f:(l.take i).find? p=none):(l.take (i+1)).find? p=(if p o then some o else none)/\(p o=true->l.find? p=some o):=by
 have d:l.take (i+1)=l.take i++[o]:=by rw[Zee,h];rfl
 have g:l=l.take (i+1)++l.drop (i+1):=(Zf5 _ _).symm;constructor
 ·rw[d,Zh0,f];cases a:p o<;>simp[a]
 ·intro a;rw[g,d,Zh0,Zh0,f];simp[a]
def qC{h:Hp}(p:h.ok){part a:Int}{l:Zm}(t:l.length<=1000000):VC Sol.prog 91 false [ZD h,vi part,.sl (l.map ZE),vu a] (QK (Yg h part l a)):=by
 refine ZN Sol.func91 follows Z2 c91 rfl ?_;simp[Io];refine Tl 7 l.length (λi=>(l.take i).find? (λo=>Yz h part o.at_==a)=none) Z1 Z1 Z1 ?_;intro i r d;have q:=Zy ((i:Int)+1) Z0 Z0;by_cases f:i<l.length
 ·have g:l[i]?=some l[i]:=Zdk f;generalize l[i]=o at*;obtain⟨j,n⟩:=Z0O g d;simp[f,g,ZU g];refine Zw (Nb p (part:=part) (at_:=o.at_)) ZcH ?_;by_cases k:Yz h part o.at_=a
  ·have:=n Zcp;simp[k,Yg,this,QK,g,ZU g];simp[ZE]
  ·have:(Yz h part o.at_==a)=false:=Zcp;rw[this]at j;simp at j;simp[k,q,f];simpa using j
 ·have:i=l.length:=Z0;subst this;rw[Zem]at d;simp[Yg,d,QK];simp[ZE]
theorem qz{h:Hp}{part a:Int}{l:Zm}{o:Ob}(d:Yg h part l a=some o):o∈l:=ZfU d
def XX(h:Hp)(ws:Ze)(low:Zm):Nat->Nat->List (Int×Int)->Option (List (Int×Int))
 |0,_,_=>none
 |f+1,i,a=>
  match ws[i]? with
  |none=>some a
  |some w=>if(adr w).2=0 then(match Yg h 1 low (adr w).1 with|none=>none|some o=>XX h ws low f (i+1+o.size.toNat) (a++[(o.size,o.ptrs)]))
   else if(ZO w).2.2=0 then XX h ws low f (i+1+(ZO w).1.toNat) a else none
def XY(h:Hp)(ws:Ze)(low:Zm):Option (List (Int×Int)):=XX h ws low (ws.length+1) 0 []
def J1:Option (List (Int×Int))->V
 |some l=>.tup [.sl (l.map Xa),.bool true]
 |none=>.tup [.sl [],.bool false]
def MU{h:Hp}(H:h.ok){ws:Ze}{low:Zm}(K:ws.length<=1000000)(J:∀w∈ws,ZA w)(B:low.length<=1000000)(C:∀o∈low,Ye o.size o.ptrs=true):
  VC Sol.prog 89 false [ZD h,.sl (ws.map vu),.sl (low.map ZE)] (J1 (XY h ws low)):=by
 refine ZN Sol.func89 follows Z2 c89 rfl ?_;simp[Im]
 refine Vp (λ(p:Nat×List (Int×Int))=>[(6,.v (.sl (p.2.map Xa))),(7,.v (vi p.1))])
  (λp=>p.1<=ws.length+256/\p.2.length<=p.1/\∃f,ws.length<f+p.1/\0<f/\XY h ws low=XX h ws low f p.1 p.2) (ZY 7 ws.length) (0,[]) Z1 ⟨Z1,Z1,ws.length+1,Z1,Z0,rfl⟩ ?_
 rintro⟨i,j⟩ ⟨I,t,f,F,G,d⟩;simp only at I t F d;cases f with
 |zero=>omega
 |succ f=>
 by_cases l:i<ws.length
 ·have y:ws[i]?=some ws[i]:=Zdk l;have D:=J _ (ZdA l);generalize ws[i]=w at*;simp only[XX,y]at d;have x:=Zy ((i:Int)+1) Z0 Z0;have u:j.length+1<=Y2:=ZcK;simp[l,y,ZU y];refine Zw (Ma D) Z1 ?_;simp[y,ZU y];refine Zw (yo D) Z1 ?_;by_cases r:(adr w).2=0
  ·rw[if_pos r]at d;simp[r];refine Zw (qC H (part:=1) (a:=(adr w).1) B) ZcH ?_;cases k:Yg h 1 low (adr w).1 with
   |none=>
    rw[k]at d;simp only at d;rw[d];simp[QK,J1]
   |some o=>
    rw[k]at d;simp only at d;have n:=Yf.1 (C o (qz k));obtain⟨z,A⟩:=Zdz n.1;have q:=Zy ((i:Int)+1+z) Z0 Z0;rw[A,ZdF]at d;simp[QK,u,A,x,q];refine⟨i+1+z,j++[((z:Int),o.ptrs)],⟨Z0,Zcr,f,Z0,?_,d⟩,⟨by simp[Xa],Z0⟩,ZcB⟩;omega
  ·rw[if_neg r]at d;by_cases g:(ZO w).2.2=0
   ·rw[if_pos g]at d;have n:=Yf.1 (KW g);obtain⟨z,A⟩:=Zdz n.1;have q:=Zy ((i:Int)+1+z) Z0 Z0;rw[A,ZdF]at d;simp[r,g,A,x,q];refine⟨i+1+z,j,⟨Z0,Z0,f,Z0,?_,d⟩,⟨rfl,Z0⟩,ZcB⟩;omega
   ·rw[if_neg g]at d;rw[d];simp[r,g,J1]
 simp_all[Zeq,XX,J1]
structure Pts where
 low:List Ob
 high:List Ob
 old:List Ob
 far:List Ob
 deriving Inhabited
def YL(p:Pts):V:=.sl [.sl [],.sl (p.low.map ZE),.sl (p.high.map ZE),.sl (p.old.map ZE),.sl (p.far.map ZE)]
def Pts.at(p:Pts)(k:Int):List Ob:=if k=1 then p.low else if k=2 then p.high else if k=3 then p.old else p.far
@[simp]theorem Pts.at1(p:Pts):p.at 1=p.low:=rfl
@[simp]theorem Pts.at2(p:Pts):p.at 2=p.high:=rfl
@[simp]theorem Pts.at3(p:Pts):p.at 3=p.old:=rfl
@[simp]theorem Pts.at4(p:Pts):p.at 4=p.far:=rfl
structure Pts.ok (p:Pts) (h:Hp):Prop where
 ob:∀k,∀o∈p.at k,Q7 (Zz h k).length o/\ZA o.target
 len:∀k,(p.at k).length<=1000000
def yN{h:Hp}{ws:Ze}{low:Zm}:∀(f i:Nat) (d l:List (Int×Int)),d.length<=i->d.length<=ws.length->XX h ws low f i d=some l->l.length<=ws.length
 |0,_,_,_,_,_,a=>by simp[XX]at a
 |f+1,i,d,l,n,g,a=>by
  simp only[XX]at a;split at a
  ·simp_all
  ·rename_i w k;have j:=(Zdl.1 k).1;split at a
   ·split at a
    ·cases a
    ·exact yN f _ _ _ Zcr Zcr a
   ·split at a
    ·exact yN f _ _ _ Z0 g a
    ·cases a
def X9(h:Hp):Option Pts:=
 let low:=ZL h.low [] false
 let high:=ZL h.high [] false
 if low.2≠0\/high.2≠0 then none else
 let p:=XY h h.old low.1
 let q:=XY h h.far low.1
 let d:=ZL h.old (p.getD []) true
 let a:=ZL h.far (q.getD []) true
 if p=none\/q=none\/d.2≠0\/a.2≠0 then none else some ⟨low.1,high.1,d.1,a.1⟩
def Tc:Option Pts->V
 |some p=>.tup [YL p,.bool true]
 |none=>.tup [.sl [],.bool false]
def ya{h:Hp}(a:h.ok){p:Pts}(f:X9 h=some p):p.ok h:=by
 unfold X9 at f;dsimp only at f;split at f
 ·cases f
 split at f
 ·cases f
 ·cases f;refine⟨λk o d=> ?_,λk=> ?_⟩
  ·unfold Pts.at at d;unfold Zz;split at d
   ·rename_i e;rw[if_pos e];exact Q0 a.lowW o d
   rename_i g;rw[if_neg g];split at d
   ·rename_i e;rw[if_pos e];exact Q0 a.highW o d
   rename_i j;rw[if_neg j];split at d
   ·rename_i e;rw[if_pos e];exact Q0 a.oldW o d
   ·rename_i e;rw[if_neg e];exact Q0 a.farW o d
  ·unfold Pts.at;split
   ·exact ZdP Q1 a.low
   split
   ·exact ZdP Q1 a.high
   split
   ·exact ZdP Q1 a.old
   ·exact ZdP Q1 a.far
def Iu{h:Hp}(a:h.ok):VC Sol.prog 61 false [ZD h] (Tc (X9 h)):=by
 refine ZN Sol.func61 follows Z2 c61 rfl ?_;simp[I9];refine Zw (Mc a.low a.lowW) Z1 ?_;simp;refine Zw (Mc a.high a.highW) Z1 ?_;simp;unfold X9;dsimp only;have f:∀o∈(ZL h.low [] false).1,Ye o.size o.ptrs=true:=λo C=>(Q0 a.lowW o C).1.2;have d:(ZL h.low [] false).1.length<=1000000:=ZdP Q1 a.low;generalize ZL h.low [] false=low at*;generalize ZL h.high [] false=high at*;by_cases w:low.2=0
 case neg=>simp[w,Tc]
 by_cases A:high.2=0
 case neg=>grind [Tc]
 have k1:=MU a (ws:=h.old) (low:=low.1) a.old a.oldW d f;have x:=MU a (ws:=h.far) (low:=low.1) a.far a.farW d f
 have D:((XY h h.old low.1).getD []).length<=1000000:=by
  cases g:XY h h.old low.1 with
  |none=>simp
  |some l=>exact ZdP (yN _ _ _ _ Z1 Z1 g) a.old
 have g:((XY h h.far low.1).getD []).length<=1000000:=by
  cases g:XY h h.far low.1 with
  |none=>simp
  |some l=>exact ZdP (yN _ _ _ _ Z1 Z1 g) a.far
 generalize XY h h.old low.1=p at*;generalize XY h h.far low.1=q at*;have H:=Mb a.old D a.oldW;have I:=Mb a.far g a.farW;generalize ZL h.old (p.getD []) true=u at*;generalize ZL h.far (q.getD []) true=B at*
 have ZD:∃b,J1 p=.tup [.sl ((p.getD []).map Xa),.bool b]/\(b=true↔p≠none):=by
  cases p with
  |none=>exact⟨false,rfl,Z1⟩
  |some l=>exact⟨true,rfl,Z1⟩
 have r:∃b,J1 q=.tup [.sl ((q.getD []).map Xa),.bool b]/\(b=true↔q≠none):=by
  cases q with
  |none=>exact⟨false,rfl,Z1⟩
  |some l=>exact⟨true,rfl,Z1⟩
 obtain⟨y,n,j⟩:=ZD;obtain⟨z,t,k⟩:=r;rw[n]at k1;rw[t]at x;simp[w,A];refine Zw k1 ZcH ?_;simp;refine Zw x ZcH ?_;simp;refine Zw H Z1 ?_;simp;refine Zw I Z1 ?_;cases F:p with
 |none=>
  simp_all[Tc]
 |some M=>
  have K:y=true:=j.2 Zcp;cases G:q with
  |none=>
   simp_all[Tc]
  |some N=>
   have L:z=true:=k.2 Zcp;by_cases J:u.2=0
   case neg=>simp_all[Tc]
   simp_all[Tc,YL]
def YE(h:Hp)(p:Pts)(w one two:Int):Bool:=decide (w=0)||(decide ((adr w).2=0)&&((Yg h one (p.at one) (adr w).1).isSome||(Yg h two (p.at two) (adr w).1).isSome))
def GI(x:Option Ob):∃o:Ob,QK x=.tup [ZE o,.bool x.isSome]:=by
 cases x with
 |none=>exact⟨_,rfl⟩
 |some o=>exact⟨_,rfl⟩
def jo{h:Hp}(j:h.ok){p:Pts}(k:p.ok h){w one two:Int}(r:ZA w)(q:(one=1/\two=2)\/(one=3/\two=4)):VC Sol.prog 64 false [ZD h,YL p,vu w,vi one,vi two] (.bool (YE h p w one two)):=by
 refine ZN Sol.func64 follows Z2 c64 rfl ?_;by_cases d:w=0
 ·simp[AR,d,YE]
 simp[AR,d];refine Zw (yo r) Z1 ?_;by_cases f:(adr w).2=0
 case neg=>simp[f,YE,d]
 have k1:=qC j (part:=one) (a:=(adr w).1) (l:=p.at one) (k.len one);have g:=qC j (part:=two) (a:=(adr w).1) (l:=p.at two) (k.len two);unfold YE;obtain⟨x,n⟩:=GI (Yg h one (p.at one) (adr w).1);obtain⟨y,o⟩:=GI (Yg h two (p.at two) (adr w).1);rw[n]at k1;rw[o]at g;generalize (Yg h one (p.at one) (adr w).1).isSome=t at*;generalize (Yg h two (p.at two) (adr w).1).isSome=u at*;obtain⟨rfl,rfl⟩|⟨rfl,rfl⟩:=q
 ·simp[f,d,YL,Y9];refine Zw k1 ZcH ?_;simp[YL,Y9];refine Zw g ZcH ?_;simp_all
 ·simp[f,d,YL,Y9];refine Zw k1 ZcH ?_;simp[YL,Y9];refine Zw g ZcH ?_;simp_all
def XM(o:Ob):Nat:=if o.gone then 0 else 1+o.size.toNat
def Y7(l:Zm):Nat:=(l.map XM).sum
def qg{l:Zm}{i:Nat}{o:Ob}(h:l[i]?=some o):Y7 (l.take (i+1))=Y7 (l.take i)+XM o:=by
 simp_all[Y7,Zee,ZeL,List.sum_append]
def Uj{l:Zm}(h:∀o∈l,Ye o.size o.ptrs=true):Y7 l<=256*l.length:=by
 induction l with
 |nil=>simp[Y7]
 |cons o l a=>
  grind [Yf,XM,Y7,List.length_cons]
def XT(p:Pts):Nat:=Y7 p.old+Y7 p.far
def Z7L{h:Hp}{p:Pts}(F:p.ok h):VC Sol.prog 66 false [YL p] (vi (XT p)):=by
 refine ZN Sol.func66 follows Z2 c66 rfl ?_;simp[Id];have r:∀k,∀o∈p.at k,Ye o.size o.ptrs=true:=λk o t=>(F.ob k o t).1.2;have D:=F.len;refine Vp (λ(i:Nat)=>[(2,.v (vi ((if 0<i then Y7 p.old else 0)+(if 1<i then Y7 p.far else 0):Nat))),(3,.v (vi ((i+3:Nat):Int)))]) (λi=>i<=2) (ZY 3 5) 0 Z1 Z1 ?_;rintro i J;have w:=Uj (r 3);have x:=Uj (r 4);have A:=D 3;have B:=D 4;simp only[Pts.at3,Pts.at4]at w x A B;have y:i=0\/i=1\/i=2:=Z0;obtain rfl|rfl|rfl:=y
 ·simp;refine WM 5 p.old.length (λj=>[(2,.v (vi (Y7 (p.old.take j)))),(5,.v (vi j))]) (λ_=>True) (by simp[Y7]) (λi=>Z1) trivial ?_;rintro j I-;have f:=Zy ((j:Int)+1) Z0 Z0;by_cases l:j<p.old.length
  ·have g:p.old[j]?=some p.old[j]:=Zdk l;have q:=r 3 _ (ZdA l);have d:=qg g;generalize p.old[j]=o at*
   have C:Y7 (p.old.take j)<=256*p.old.length:=by
    refine ZdP (Uj λo t=>r 3 o (Ze4 t)) ?_;simp;omega
   obtain⟨g1,g2,G,H⟩:=Yf.1 q;obtain⟨z,u⟩:=Zdz g1;have w1:=Zy ((Y7 (p.old.take j):Int)+1) Z0 Z0;have w2:=Zy ((Y7 (p.old.take j):Int)+1+z) Z0 Z0;cases n:o.gone
   ·have a:XM o=1+z:=by simp[XM,n,u]
    simp[YL,Y9,l,g,ZU g,n,u,w1,w2,f,d,a];omega
   ·have a:XM o=0:=by simp[XM,n]
    simp[YL,Y9,l,g,ZU g,n,f,d,a]
  ·have:j=p.old.length:=Z0;subst this;rw[Zem];simp[YL,Y9,Zy];exact⟨1,Z0,Z1,ZcX⟩
 ·simp;refine WM 5 p.far.length (λj=>[(2,.v (vi (Y7 p.old+Y7 (p.far.take j):Nat))),(5,.v (vi j))]) (λ_=>True) (by simp[Y7]) (λi=>Z1) trivial ?_;rintro j I-;have f:=Zy ((j:Int)+1) Z0 Z0;by_cases l:j<p.far.length
  ·have g:p.far[j]?=some p.far[j]:=Zdk l;have q:=r 4 _ (ZdA l);have d:=qg g;generalize p.far[j]=o at*
   have C:Y7 (p.far.take j)<=256*p.far.length:=by
    refine ZdP (Uj λo t=>r 4 o (Ze4 t)) ?_;simp;omega
   obtain⟨g1,g2,G,H⟩:=Yf.1 q;obtain⟨z,u⟩:=Zdz g1;have w1:=Zy ((Y7 p.old:Int)+Y7 (p.far.take j)+1) Z0 Z0;have w2:=Zy ((Y7 p.old:Int)+Y7 (p.far.take j)+1+z) Z0 Z0;cases n:o.gone
   ·have a:XM o=1+z:=by simp[XM,n,u]
    simp[YL,Y9,l,g,ZU g,n,u,w1,w2,f,d,a];omega
   ·have a:XM o=0:=by simp[XM,n]
    simp[YL,Y9,l,g,ZU g,n,f,d,a]
  ·have:j=p.far.length:=Z0;subst this;rw[Zem];simp[YL,Y9,Zy];exact⟨2,Z0,Z1,ZcX⟩
 ·simp[XT]
def YA(l:Zm)(a:Int):Nat:=(l.filter λo=>o.gone&&decide (o.target=a)).length
def Nm{l:Zm}{i:Nat}{o:Ob}{a:Int}(h:l[i]?=some o):YA (l.take (i+1)) a=YA (l.take i) a+if(o.gone&&decide (o.target=a))=true then 1 else 0:=by
 unfold YA;rw[Zee,h,List.filter_append,Ze8];simp[List.filter];split<;>simp_all
def Vl(p:Pts)(a:Int):Nat:=YA p.old a+YA p.far a
def Ch{l:Zm}{a:Int}:YA l a<=l.length:=Zgl _ _
def Z7o{h:Hp}{p:Pts}(z:p.ok h){a:Int}:VC Sol.prog 62 false [YL p,vu a] (vi (Vl p a)):=by
 refine ZN Sol.func62 follows Z2 c62 rfl ?_;simp[Ia];have x:=z.len;refine Vp (λ(i:Nat)=>[(3,.v (vi ((if 0<i then YA p.old a else 0)+(if 1<i then YA p.far a else 0):Nat))),(4,.v (vi ((i+3:Nat):Int)))]) (λi=>i<=2) (ZY 4 5) 0 Z1 Z1 ?_;rintro i A;have t:=x 3;have u:=x 4;simp only[Pts.at3,Pts.at4]at t u;have B:=Ch (l:=p.old) (a:=a);have r:i=0\/i=1\/i=2:=Z0;obtain rfl|rfl|rfl:=r
 ·simp;refine WM 6 p.old.length (λj=>[(3,.v (vi (YA (p.old.take j) a))),(6,.v (vi j))]) (λ_=>True) (by simp[YA]) (λi=>Z1) trivial ?_;rintro j y-;have f:=Zy ((j:Int)+1) Z0 Z0;by_cases k:j<p.old.length
  ·have g:p.old[j]?=some p.old[j]:=Zdk k;have d:=Nm (a:=a) g;generalize p.old[j]=o at*
   have w:YA (p.old.take j) a<=j:=by
    have:=Ch (l:=p.old.take j) (a:=a);simp at this;omega
   have w1:=Zy ((YA (p.old.take j) a:Int)+1) Z0 Z0;cases n:o.gone
   ·simp[YL,Y9,k,g,ZU g,n,f,d]
   ·by_cases q:o.target=a
    ·simp[YL,Y9,k,g,ZU g,n,q,w1,f,d]
    ·simp[YL,Y9,k,g,ZU g,n,q,f,d]
  ·have:j=p.old.length:=Z0;subst this;rw[Zem];simp[YL,Y9,Zy];exact⟨1,Z0,Z1,ZcX⟩
 ·simp;refine WM 6 p.far.length (λj=>[(3,.v (vi (YA p.old a+YA (p.far.take j) a:Nat))),(6,.v (vi j))]) (λ_=>True) (by simp[YA]) (λi=>Z1) trivial ?_;rintro j y-;have f:=Zy ((j:Int)+1) Z0 Z0;by_cases k:j<p.far.length
  ·have g:p.far[j]?=some p.far[j]:=Zdk k;have d:=Nm (a:=a) g;generalize p.far[j]=o at*
   have w:YA (p.far.take j) a<=j:=by
    have:=Ch (l:=p.far.take j) (a:=a);simp at this;omega
   have w1:=Zy ((YA p.old a:Int)+YA (p.far.take j) a+1) Z0 Z0;cases n:o.gone
   ·simp[YL,Y9,k,g,ZU g,n,f,d]
   ·by_cases q:o.target=a
    ·simp[YL,Y9,k,g,ZU g,n,q,w1,f,d];omega
    ·simp[YL,Y9,k,g,ZU g,n,q,f,d]
  ·have:j=p.far.length:=Z0;subst this;rw[Zem];simp[YL,Y9,Zy];exact⟨2,Z0,Z1,ZcX⟩
 ·simp[Vl]
def Wj(h:Hp):Bool:=
 ZJ (Zv h)&&decide (h.roots.length<=16)&&decide (0<=h.scan)&&decide (h.scan<=h.low.length)&&
  (if h.cycle then decide (h.scan<h.low.length)else decide (h.scan=h.low.length)&&decide (h.old.length=0)&&decide (h.far.length=0))
def Z3R{h:Hp}(p:h.ok):VC Sol.prog 60 false [ZD h] (.bool (Wj h)):=by
 refine ZN Sol.func60 follows Z2 c60 rfl ?_;simp[I8];refine Zw (yp (h:=h)) ZcH ?_;simp;refine Zw (M8 p.lay) Z1 ?_;cases a:ZJ (Zv h)
 case false=>simp[Wj,a]
 by_cases d:h.roots.length<=16
 case neg=>simp[Wj,a,d,show 16< (h.roots.length:Int)by omega]
 by_cases f:0<=h.scan
 case neg=>simp[Wj,a,d,f,show ¬16< (h.roots.length:Int)by omega,show h.scan<0 by omega]
 by_cases g:h.scan<=h.low.length
 case neg=>simp[Wj,a,d,f,g,show ¬16< (h.roots.length:Int)by omega,show ¬h.scan<0 by omega,show(h.low.length:Int)<h.scan by omega]
 have g1:¬16< (h.roots.length:Int):=Z0;have g2:¬h.scan<0:=Z0;have j:¬(h.low.length:Int)<h.scan:=Z0;cases k:h.cycle
 ·by_cases l:h.scan=h.low.length
  ·by_cases n:h.old.length=0
   ·by_cases o:h.far.length=0
    ·simp[Wj,a,d,f,g,g1,g2,j,k,l,n,o]
    ·simp[Wj,a,d,f,g,g1,g2,j,k,l,n,o]
   ·simp[Wj,a,d,f,g,g1,g2,j,k,l,n]
  ·simp[Wj,a,d,f,g,g1,g2,j,k,l]
 ·simp[Wj,a,d,f,g,g1,g2,j,k]
def XI(h:Hp)(p:Pts)(part:Int)(k:Nat):Bool:=
 let w:=((Zz h part)[k]?).getD 0
 let a:=YE h p w 1 2
 let from_:=YE h p w 3 4
 if 2<part then from_ else if part=1/\h.scan<=k then a||from_ else a
def T8(h:Hp)(p:Pts)(part:Int)(o:Ob):Bool:=(List.range o.ptrs.toNat).all λj=>XI h p part (o.at_.toNat+1+j)
def Xi(h:Hp)(p:Pts)(part:Int):Bool:=(p.at part).all (T8 h p part)
def Jh{α:Type}{q:α->Bool}{l:List α}{i:Nat}{x:α}(h:l[i]?=some x):(l.take (i+1)).all q=((l.take i).all q&&q x):=by
 rw[Zee,h,ZgE];simp
def Q9{α:Type}{q:α->Bool}{l:List α}{i:Nat}{x:α}(h:l[i]?=some x)(a:q x=false):l.all q=false:=by
 grind
def yd{h:Hp}(hh:h.ok){p:Pts}(T:p.ok h){part:Nat}(hk:1<=part/\part<=4)(hw:∀w∈Zz h part,ZA w)(a6:(Zz h part).length<=1000000):VC Sol.prog 65 false [ZD h,YL p,vi part] (.bool (Xi h p part)):=by
 refine ZN Sol.func65 follows Z2 c65 rfl ?_;simp[-List.all_eq_true,-List.all_eq_false,Ic];refine Zw (Um (h:=h) (n:=part)) ZcH ?_
 have Q:([V.sl [],.sl (p.low.map ZE),.sl (p.high.map ZE),.sl (p.old.map ZE),.sl (p.far.map ZE)]:List V)[part]?=some (.sl ((p.at part).map ZE)):=by
  have:part=1\/part=2\/part=3\/part=4:=Z0;obtain rfl|rfl|rfl|rfl:=this<;>rfl
 have a5:=T.len part;have Z:=T.ob part;unfold Xi;generalize hL:p.at part=L at*;simp[-List.all_eq_true,-List.all_eq_false];refine Tl 6 L.length (λi=>(L.take i).all (T8 h p part)=true) Z1 Z1 Z1 ?_;intro i hi A;have a2:=Zy ((i:Int)+1) Z0 Z0;by_cases H:i<L.length
 ·have U:L[i]?=some L[i]:=Zdk H;obtain⟨⟨⟨a,ha,a4⟩,a1⟩,_⟩:=Z _ (ZdA H);generalize L[i]=o at*;obtain⟨s1,s2,s3,s4⟩:=Yf.1 a1;obtain⟨q,hq⟩:=Zdz s3;have N:=Zy ((a:Int)+1) Z0 Z0;have S:=Zy ((a:Int)+1+q) Z0 Z0
  have B:T8 h p part o=(List.range q).all λj=>XI h p part (a+1+j):=by
   unfold T8;rw[hq,ha];rfl
  simp[-List.all_eq_true,-List.all_eq_false,YL,Q,H,U,ZU U,ha,N];refine Vp (λ(j:Nat)=>[(9,.v (vi ((a+1+j:Nat):Int)))]) (λj=>j<=q/\((List.range j).all λj=>XI h p part (a+1+j))=true) (ZY 9 (a+1+q)) 0 Z1 Z1 ?_;rintro j ⟨hj,K⟩;by_cases W:j<q
  ·have k:=Zy (((a+1+j:Nat):Int)+1) Z0 Z0;have I:((a+1+j:Nat):Int)< (a:Int)+1+q:=Z0;obtain⟨w,y,hu⟩:∃w,(Zz h part)[a+1+j]?=some w/\ZA w:=⟨_,Zdk Z0,hw _ (ZdA _)⟩
   have x:((List.range (j+1)).all λj=>XI h p part (a+1+j))=(((List.range j).all λj=>XI h p part (a+1+j))&&XI h p part (a+1+j)):=by
    rw[Zfe,ZgE];simp
   have g:XI h p part (a+1+j)=false->L.all (T8 h p part)=false:=λY=>Q9 U (by
    rw[B];exact Q9 (List.getElem?_range W) Y)
   have a3:((j+1:Nat):Int)=(j:Int)+1:=Z0;obtain⟨m,X⟩:∃m,a+1+j=m:=⟨_,rfl⟩;rw[X]at k I y x g⊢;have k1:=jo hh T (w:=w) (one:=1) (two:=2) hu (.inl ⟨rfl,rfl⟩);have k2:=jo hh T (w:=w) (one:=3) (two:=4) hu (.inr ⟨rfl,rfl⟩)
   have C:XI h p part m=(if 2< (part:Int)then YE h p w 3 4 else if(part:Int)=1/\h.scan<=m then YE h p w 1 2||YE h p w 3 4 else YE h p w 1 2):=by
    unfold XI;rw[y];rfl
   generalize YE h p w 1 2=J at*;generalize YE h p w 3 4=D at*;have d:∀(P:Prop),XI h p part m=true->∃l,(l<=q/\((List.range l).all λj=>XI h p part (a+1+j))=true)/\(m:Int)+1=((a+1+l:Nat):Int):=λP a0=>⟨j+1,⟨Z0,by rw[x,K,a0];rfl⟩,Z0⟩;simp[-List.all_eq_true,-List.all_eq_false,hq,N,S,I,y,ZU y];refine Zw k1 (by simp[ZD,YL]) ?_;simp[-List.all_eq_true,-List.all_eq_false,y,ZU y];refine Zw k2 (by simp[ZD,YL]) ?_;clear x K B;generalize L.all (T8 h p part)=R at g⊢;generalize (λj=>XI h p part (a+1+j))=F at d⊢;generalize XI h p part m=v at C g d;by_cases g1:2<part
   ·have t:(2:Int)<part:=Z0;have f:v=(D):=by rw[C];try simp[g1,t]
    cases J
    ·cases D
     ·try simp at f
      simp[-List.all_eq_true,-List.all_eq_false,g1,t,k]
      first
      |exact g f
      | (obtain⟨l,r,u⟩:=d True f
         exact⟨l,r,Z0,ZcB⟩)
     ·try simp at f
      simp[-List.all_eq_true,-List.all_eq_false,g1,t,k]
      first
      |exact g f
      | (obtain⟨l,r,u⟩:=d True f
         exact⟨l,r,Z0,ZcB⟩)
    ·cases D
     ·try simp at f
      simp[-List.all_eq_true,-List.all_eq_false,g1,t,k]
      first
      |exact g f
      | (obtain⟨l,r,u⟩:=d True f
         exact⟨l,r,Z0,ZcB⟩)
     ·try simp at f
      simp[-List.all_eq_true,-List.all_eq_false,g1,t,k]
      first
      |exact g f
      | (obtain⟨l,r,u⟩:=d True f
         exact⟨l,r,Z0,ZcB⟩)
   ·have t:¬(2:Int)<part:=Z0;by_cases g2:part=1
    ·by_cases G:h.scan<=m
     ·subst g2;have f:v=(J||D):=by rw[C];try simp[G]
      cases J
      ·cases D
       ·try simp at f
        simp[-List.all_eq_true,-List.all_eq_false,G,k]
        first
        |exact g f
        | (obtain⟨l,r,u⟩:=d True f
           exact⟨l,r,Z0,ZcB⟩)
       ·try simp at f
        simp[-List.all_eq_true,-List.all_eq_false,G,k]
        first
        |exact g f
        | (obtain⟨l,r,u⟩:=d True f
           exact⟨l,r,Z0,ZcB⟩)
      ·cases D
       ·try simp at f
        simp[-List.all_eq_true,-List.all_eq_false,G,k]
        first
        |exact g f
        | (obtain⟨l,r,u⟩:=d True f
           exact⟨l,r,Z0,ZcB⟩)
       ·try simp at f
        simp[-List.all_eq_true,-List.all_eq_false,G,k]
        first
        |exact g f
        | (obtain⟨l,r,u⟩:=d True f
           exact⟨l,r,Z0,ZcB⟩)
     ·subst g2;have f:v=(J):=by rw[C];try simp[G]
      cases J
      ·cases D
       ·try simp at f
        simp[-List.all_eq_true,-List.all_eq_false,G,k]
        first
        |exact g f
        | (obtain⟨l,r,u⟩:=d True f
           exact⟨l,r,Z0,ZcB⟩)
       ·try simp at f
        simp[-List.all_eq_true,-List.all_eq_false,G,k]
        first
        |exact g f
        | (obtain⟨l,r,u⟩:=d True f
           exact⟨l,r,Z0,ZcB⟩)
      ·cases D
       ·try simp at f
        simp[-List.all_eq_true,-List.all_eq_false,G,k]
        first
        |exact g f
        | (obtain⟨l,r,u⟩:=d True f
           exact⟨l,r,Z0,ZcB⟩)
       ·try simp at f
        simp[-List.all_eq_true,-List.all_eq_false,G,k]
        first
        |exact g f
        | (obtain⟨l,r,u⟩:=d True f
           exact⟨l,r,Z0,ZcB⟩)
    ·have z:¬(part:Int)=1:=Z0;have f:v=(J):=by rw[C];try simp[g1,t,g2,z]
     cases J
     ·cases D
      ·try simp at f
       simp[-List.all_eq_true,-List.all_eq_false,g1,t,g2,z,k]
       first
       |exact g f
       | (obtain⟨l,r,u⟩:=d True f
          exact⟨l,r,Z0,ZcB⟩)
      ·try simp at f
       simp[-List.all_eq_true,-List.all_eq_false,g1,t,g2,z,k]
       first
       |exact g f
       | (obtain⟨l,r,u⟩:=d True f
          exact⟨l,r,Z0,ZcB⟩)
     ·cases D
      ·try simp at f
       simp[-List.all_eq_true,-List.all_eq_false,g1,t,g2,z,k]
       first
       |exact g f
       | (obtain⟨l,r,u⟩:=d True f
          exact⟨l,r,Z0,ZcB⟩)
      ·try simp at f
       simp[-List.all_eq_true,-List.all_eq_false,g1,t,g2,z,k]
       first
       |exact g f
       | (obtain⟨l,r,u⟩:=d True f
          exact⟨l,r,Z0,ZcB⟩)
  ·have:j=q:=Z0;subst this;have O:¬(((a+1+j:Nat):Int)< (a:Int)+1+j):=Z0;have M:(L.take (i+1)).all (T8 h p part)=true:=by rw[Jh U,A,B,K];rfl
   obtain⟨m,X⟩:∃m,a+1+j=m:=⟨_,rfl⟩;rw[X]at O⊢;simp[-List.all_eq_true,-List.all_eq_false,hq,N,S,O,a2,M,H]
 ·have:i=L.length:=Z0;subst this;rw[Zem]at A;simp[-List.all_eq_true,-List.all_eq_false,YL,Q,A]
def Vo(h:Hp)(p:Pts)(o:Ob):Bool:=decide (Vl p (Yz h 1 o.at_)=1)
def Th(h:Hp)(p:Pts):Bool:=
 (!h.cycle||p.low.all (Vo h p))&&h.roots.all (λw=>YE h p w 1 2)&&Xi h p 1&&Xi h p 2&&Xi h p 3&&Xi h p 4&&decide ((h.low.length:Int)+h.high.length+XT p<=h.cap)
def Xo(h:Hp):Bool:=Wj h&&match X9 h with
 |none=>false
 |some p=>Th h p
def YZ{h:Hp}(a:h.ok)(k:Int):(∀w∈Zz h k,ZA w)/\(Zz h k).length<=1000000:=by
 unfold Zz;split
 ·exact⟨a.lowW,a.low⟩
 split
 ·exact⟨a.highW,a.high⟩
 split
 ·exact⟨a.oldW,a.old⟩
 ·exact⟨a.farW,a.far⟩
def Cw{h:Hp}{p:Pts}(a:p.ok h):XT p<=512*1000000:=by
 have f:=Uj (l:=p.at 3) λo d=>(a.ob 3 o d).1.2;have g:=Uj (l:=p.at 4) λo d=>(a.ob 4 o d).1.2;have j:=a.len 3;have k:=a.len 4
 grind [Pts.at3,Pts.at4,XT]
def Z5L{h:Hp}(d:h.ok):VC Sol.prog 31 false [ZD h] (.bool (Xo h)):=by
 refine ZN Sol.func31 follows Z2 s9 rfl ?_;simp[-List.all_eq_true,-List.all_eq_false,HJ];refine Zw (Z3R d) ZcH ?_;cases O:Wj h
 ·simp[-List.all_eq_true,-List.all_eq_false,Xo,O]
 simp[-List.all_eq_true,-List.all_eq_false];refine Zw (Iu d) ZcH ?_;unfold Xo;rw[O];cases R:X9 h with
 |none=>simp[-List.all_eq_true,-List.all_eq_false,Tc]
 |some p=>
 have f:=ya d R;have H:=f.len 1;simp only[Pts.at1]at H;simp only[Zgt];simp[-List.all_eq_true,-List.all_eq_false,Tc];unfold Th;have N:=d.low;have D:=d.roots;refine Tl 7 p.low.length (λi=>0<i->h.cycle=true/\(p.low.take i).all (Vo h p)=true) Z1 Z1 Z1 ?_;intro i Z M;have U:=Zy ((i:Int)+1) Z0 Z0;by_cases F:i<p.low.length/\h.cycle=true
 ·obtain⟨t,r⟩:=F;have x:p.low[i]?=some p.low[i]:=Zdk t
  have n:(p.low.take i).all (Vo h p)=true:=by
   by_cases Y:0<i
   ·simp_all
   ·simp_all
  generalize p.low[i]=o at*;have k1:=Nb d (part:=1) (at_:=o.at_);have l:=Z7o f (a:=Yz h 1 o.at_);simp[-List.all_eq_true,-List.all_eq_false,YL,Y9,t,x,ZU x,r];unfold ZD at k1;rw[r]at k1;refine Zw k1 Z1 ?_;simp[-List.all_eq_true,-List.all_eq_false];refine Zw l Z1 ?_;by_cases S:Vl p (Yz h 1 o.at_)=1
  ·simp_all[Vo,Zdu,Zfx,Jh]
  ·have I:Vo h p o=false:=by simp[Vo,S]
   have J:¬((Vl p (Yz h 1 o.at_):Int)=1):=Z0;have B:=Q9 (q:=Vo h p) x I;simp[-List.all_eq_true,-List.all_eq_false,J,B,r]
 ·have A:(!h.cycle||p.low.all (Vo h p))=true:=by
   cases r:h.cycle
   ·rfl
   ·grind
  rw[A];by_cases t:i<p.low.length
  case' pos=>
   have r:h.cycle=false:=by
    cases r:h.cycle
    ·rfl
    ·simp_all
   simp[-List.all_eq_true,-List.all_eq_false,YL,Y9,t,r]
  case' neg=>simp[-List.all_eq_true,-List.all_eq_false,YL,Y9,t]
  all_goals
   refine Tl 10 h.roots.length (λj=>(h.roots.take j).all (λw=>YE h p w 1 2)=true) Z1 Z1 Z1 ?_;intro j hj n;have K:=Zy ((j:Int)+1) Z0 Z0;by_cases u:j<h.roots.length
   ·have x:h.roots[j]?=some h.roots[j]:=Zdk u;have T:=d.rootsW _ (ZdA u);generalize h.roots[j]=w at*;have k1:=jo d f (w:=w) (one:=1) (two:=2) T (.inl ⟨rfl,rfl⟩);unfold ZD YL at k1
    try rw[r]at k1
    simp[-List.all_eq_true,-List.all_eq_false,u,x,ZU x];refine Zw k1 Z1 ?_;have y:=Jh (q:=λw=>YE h p w 1 2) x;cases g:YE h p w 1 2
    ·have:=Q9 (q:=λw=>YE h p w 1 2) x g;simp[-List.all_eq_true,-List.all_eq_false,this]
    ·simp[-List.all_eq_true,-List.all_eq_false,K,u];rw[y,n,g];rfl
   ·have:j=h.roots.length:=Z0;subst this;rw[Zem]at n;rw[n];simp[-List.all_eq_true,-List.all_eq_false];refine Vp (λ(k:Nat)=>[(13,.v (vi ((k+1:Nat):Int)))]) (λk=>k<=4/\(0<k->Xi h p 1=true)/\(1<k->Xi h p 2=true)/\(2<k->Xi h p 3=true)/\(3<k->Xi h p 4=true)) (ZY 13 5) 0 Z1 Z1 ?_;rintro k ⟨hk,z,C,L,X⟩;have G:k=0\/k=1\/k=2\/k=3\/k=4:=Z0;obtain rfl|rfl|rfl|rfl|rfl:=G
    ·have l:=yd d f (part:=1) Z0 (YZ d _).1 (YZ d _).2;unfold ZD YL at l
     try rw[r]at l
     simp[-List.all_eq_true,-List.all_eq_false];refine Zw l Z1 ?_;cases g:Xi h p 1
     ·simp[-List.all_eq_true,-List.all_eq_false,g]
     ·simp[-List.all_eq_true,-List.all_eq_false,g,Zy];exact⟨1,by simp[g],Z1,ZcX⟩
    ·have l:=yd d f (part:=2) Z0 (YZ d _).1 (YZ d _).2;unfold ZD YL at l
     try rw[r]at l
     simp[-List.all_eq_true,-List.all_eq_false];refine Zw l Z1 ?_;cases g:Xi h p 2
     ·simp[-List.all_eq_true,-List.all_eq_false,g,z Z0]
     ·simp[-List.all_eq_true,-List.all_eq_false,g,Zy];exact⟨2,by simp[g,z Z0],Z1,ZcX⟩
    ·have l:=yd d f (part:=3) Z0 (YZ d _).1 (YZ d _).2;unfold ZD YL at l
     try rw[r]at l
     simp[-List.all_eq_true,-List.all_eq_false];refine Zw l Z1 ?_;cases g:Xi h p 3
     ·simp[-List.all_eq_true,-List.all_eq_false,g,z Z0,C Z0]
     ·simp[-List.all_eq_true,-List.all_eq_false,g,Zy];exact⟨3,by simp[g,z Z0,C Z0],Z1,ZcX⟩
    ·have l:=yd d f (part:=4) Z0 (YZ d _).1 (YZ d _).2;unfold ZD YL at l
     try rw[r]at l
     simp[-List.all_eq_true,-List.all_eq_false];refine Zw l Z1 ?_;cases g:Xi h p 4
     ·simp[-List.all_eq_true,-List.all_eq_false,g,z Z0,C Z0,L Z0]
     ·simp[-List.all_eq_true,-List.all_eq_false,g,Zy];exact⟨4,by simp[g,z Z0,C Z0,L Z0],Z1,ZcX⟩
    ·have P:=Z7L f;have W:=Cw f;unfold YL at P;simp[-List.all_eq_true,-List.all_eq_false,z Z0,C Z0,L Z0,X Z0];refine Zw P Z1 ?_;have Q:=d.high;have w1:=Zy ((h.low.length:Int)+h.high.length) Z0 Z0;have w2:=Zy ((h.low.length:Int)+h.high.length+XT p) Z0 Z0;simp[-List.all_eq_true,-List.all_eq_false,w1,w2]
def BA{h:Hp}(a:Xo h=true):∃p,X9 h=some p/\Th h p=true/\Wj h=true:=by
 unfold Xo at a
 grind
def Xx(h:Hp)(part:Int):List Ob×Int:=if Xo h=true/\1<=part/\part<=4 then(((X9 h).getD default).at part,0)else([],1)
def Z5G{h:Hp}(g:h.ok){part:Int}:VC Sol.prog 39 false [ZD h,vi part] (.tup [.sl ((Xx h part).1.map ZE),vi (Xx h part).2]):=by
 refine ZN Sol.func39 follows Z2 t9 rfl ?_;simp[HP];refine Zw (Z5L g) ZcH ?_;cases a:Xo h
 ·simp[Xx,a]
 by_cases d:part<1
 ·simp[Xx,a,d,show ¬1<=part by omega]
 by_cases f:4<part
 ·simp[Xx,a,d,f,show ¬part<=4 by omega]
 simp[d,f];refine Zw (Iu g) ZcH ?_;obtain⟨p,k,_,_⟩:=BA a;have j:part=1\/part=2\/part=3\/part=4:=Z0;obtain rfl|rfl|rfl|rfl:=j<;>simp[Xx,a,k,Tc,YL,Y9]
def J8(h:Hp):Int:=if Xo h then XT ((X9 h).getD default)else 0
def Z3U{h:Hp}(d:h.ok)(part:Int):(Xx h part).1.length<=1000000:=by
 unfold Xx;split
 ·rename_i f;obtain⟨p,a,_,_⟩:=BA f.1;rw[a];exact(ya d a).len part
 ·simp
end Vm
end
section
namespace Vm
open Go
open Go.Proofs
def p9:Fn:=⟨17,[0,1,2,3,4,8,9,10,35,20,41,45,49,53,62,71,23],
pQ [pR [(4,pS 0 10),(5,pZ)],pC [pK 17 26 [.s 1,pI 4]] [pV 6 (.bin .add (pI 1) (.s 17))],pC [pK 18 7 [.mm 4 0 10,.s 6]] [pV 7 (.app pN (.s 18) 1)],pQ [pC [pK 9 26 [.bin .quo (.s 1) (pI 4),pI 11]] []] (.block 0 (pQ [pR [pV 8 (.bin .eql (.s 9) (pI 0))]] (.cond (.s 8) (pR [(4,.m [.m 4 0,.m 4 1,.m 4 2,.un .not (.m 4 3),.m 4 4,.m 4 5,.m 4 6,.m 4 7,.m 4 8,.m 4 9])]) (pQ [pR [pV 10 (.bin .eql (.s 9) (pI 1))]] (.cond (.s 10) (pR [(4,.m [.m 4 0,.m 4 1,.m 4 2,.m 4 3,.one (.s 2),.m 4 5,.m 4 6,.m 4 7,.m 4 8,.m 4 9])]) (pQ [pR [pV 11 (.bin .eql (.s 9) (pI 2))]] (.cond (.s 11) (pR [(4,.m [.m 4 0,.one (.s 2),.m 4 2,.m 4 3,.m 4 4,.m 4 5,.m 4 6,.m 4 7,.m 4 8,.m 4 9])]) (pQ [pR [pV 12 (.bin .eql (.s 9) (pI 3))]] (.cond (.s 12) (pR [(4,.m [.m 4 0,.m 4 1,.one (.s 2),.m 4 3,.m 4 4,.m 4 5,.m 4 6,.m 4 7,.m 4 8,.m 4 9])]) (pQ [pR [pV 13 (.bin .eql (.s 9) (pI 4))]] (.cond (.s 13) (pR [(4,.m [.m 4 0,.m 4 1,.m 4 2,.m 4 3,.m 4 4,.m 4 5,.m 4 6,.m 4 7,.m 4 8,.app (.app pN (.m 4 9) 1) (.lit [.one (.s 3)]) 1])]) (pQ [pR [pV 14 (.bin .eql (.s 9) (pI 5))]] (.cond (.s 14) (pC [pK 19 6 [.mm 4 0 10,.s 6,.app (.s 7) (.lit [.one (.s 3)]) 1]] [(4,pS 19 10),(7,.no)]) (pQ [pR [pV 15 (.bin .eql (.s 9) (pI 6))]] (.cond (.s 15) (pC [pK 20 26 [.s 2,.bin .add (.len (.s 7)) (pI 1)],pK 21 6 [.mm 4 0 10,.s 6,.slc (.s 7) (pI 0) (.s 20) 1]] [(4,pS 21 10)]) (pQ [pR [pV 16 (.bin .gtr (.len (.s 7)) (pI 0))]] (.cond (.s 16) (pQ [.reg ⟨[pK 22 26 [.s 2,.len (.s 7)]],[([],.idx (.s 7) (.s 22) 1)],[pV 7 (.upd (.s 7) (.s 22) 0 (.one (.s 3)))]⟩] (pC [pK 23 6 [.mm 4 0 10,.s 6,.s 7]] [(4,pS 23 10)])) .skip))))))))))))))))),pR [(5,pM (.mm 4 0 10) 10)]] .ret,[(5,(.ag 10))]⟩
def c9:ZH Sol.prog fresh sig [.fz,.fz,.fz,.fz] [] Tryz.f9=some p9:=Z2
def Hu:Fn:=⟨10,[0,1,2,3,6,7,8,19,9,10],
pQ [pR [(3,pS 0 10),pV 4 (pU 0)],pC [pK 10 39 [.mm 3 0 10,.s 1]] [pV 5 (.ext (.s 10) 0),pV 6 (.ext (.s 10) 1)],pQ [pR [pV 7 (.bin .eql (.len (.s 5)) (pI 0))]] (.cond (.s 7) (pQ [pR [pV 4 (pU 0)]] .ret) .skip),pC [pK 11 41 [.mm 3 0 10],pK 12 17 [.s 2,.len (.s 5)],pK 13 40 [.s 11,.ag [.one (.s 1),.fld (.idx (.s 5) (.s 12) 5) 0]]] [pV 8 (.ext (.s 13) 0),pV 9 (.ext (.s 13) 1)],pR [pV 4 (.bin .add (.bin .mul (pU 2) (.s 8)) (pU 1))]] .ret,[(4,.v)]⟩
def PO:ZH Sol.prog fresh sig [.fz,.fz,.fz] [] Tryz.f16=some Hu:=Z2
end Vm
end
section
namespace Vm
open Go Go.Proofs
def L8{w:Int}(a:ZA w):ZA (adr w).1:=by
 grind [ZA,adr]
def Z0L{l:Ly}{a:Int}(h:(Yc l a).2.2=0):ZJ l=true/\1<=(Yc l a).1/\(Yc l a).1<=4/\0<=(Yc l a).2.1/\(Yc l a).2.1<YX l (Yc l a).1/\a=fstL l (Yc l a).1+(Yc l a).2.1:=by
 unfold Yc at*;cases k:ZJ l
 ·grind
 simp only[k]at h⊢;simp only[ZeQ,Ze1]at h⊢;by_cases d:X2 l a 1=true
 ·rw[if_pos d];have:=TB.1 d
  grind
 rw[if_neg d]at h⊢;by_cases f:X2 l a 2=true
 ·rw[if_pos f];have:=TB.1 f
  grind
 rw[if_neg f]at h⊢;by_cases g:X2 l a 3=true
 ·rw[if_pos g];have:=TB.1 g
  grind
 rw[if_neg g]at h⊢;by_cases j:X2 l a 4=true
 ·rw[if_pos j];have:=TB.1 j
  grind
 simp_all
theorem UG{h:Hp}{k:Int}(a:1<=k/\k<=4):YX (Zv h) k=(Zz h k).length:=by
 have:k=1\/k=2\/k=3\/k=4:=Z0;obtain rfl|rfl|rfl|rfl:=this<;>rfl
def Hp.zero:Hp:=⟨0,0,0,false,0,[],[],[],[],[]⟩
def zr(ws:List Int)(a:Nat):Nat->List Int
 |0=>ws
 |i+1=>(zr ws a i).set (a+i) 0
@[simp]theorem qi(ws:List Int)(a n:Nat):(zr ws a n).length=ws.length:=by
 induction n with
 |zero=>rfl
 |succ n d=>simp[zr,d]
def Xt(h:Hp)(part:Int)(a n:Nat):Hp:= {h with low:=h.low++((Zz h part).take (a+n)).drop a}
def Tv(h:Hp)(part:Int)(a n:Nat):Int×Hp×Int:=
 if(Zz h part).length<a+n then(0,Hp.zero,2)
 else if Xu (Zv h)<n then(0,Hp.zero,7)
 else
  let d:=(XJ (ZW (Zv (Xt h part a n)) 1 h.low.length).1).1
  (d,Xq (Xt h part a n) part ((zr (Zz h part) a n).set a d),0)
def Sq(r:Int×Hp×Int):V:=.tup [vu r.1,ZD r.2.1,vi r.2.2]
def OI{l:Ly}{k a:Int}:ZA (ZW l k a).1:=by
 unfold ZW;cases d:ZJ l
 ·simp[ZA]
 simp only[ZeQ,Ze1];split
 ·simp[ZA]
 split
 ·simp[ZA]
 ·have:=WB d k
  grind [ZA]
def D7{l:Ly}{k a:Int}:0<=(ZW l k a).1/\(ZW l k a).1<9223372036854775808:=by
 unfold ZW;cases d:ZJ l
 ·simp
 simp only[ZeQ,Ze1];split
 ·simp
 split
 ·simp
 ·have:=WB d k;omega
def IM{a:Int}:ZA (XJ a).1:=by
 grind [XJ,ZA]
def fwd(h:Hp)(w:Int):Int×Hp×Int:=
 if ZJ (Zv h)=false then(0,Hp.zero,1)
 else if w=0 then(0,h,0)
 else if(adr w).2≠0 then(0,Hp.zero,3)
 else if(Yc (Zv h) (adr w).1).2.2≠0 then(0,Hp.zero,6)
 else if(Yc (Zv h) (adr w).1).1<3 then(w,h,0)
 else if(adr ((Zz h (Yc (Zv h) (adr w).1).1).getD (Yc (Zv h) (adr w).1).2.1.toNat 0)).2=0 then((Zz h (Yc (Zv h) (adr w).1).1).getD (Yc (Zv h) (adr w).1).2.1.toNat 0,h,0)
 else if(ZO ((Zz h (Yc (Zv h) (adr w).1).1).getD (Yc (Zv h) (adr w).1).2.1.toNat 0)).2.2≠0 then(0,Hp.zero,3)
 else Tv h (Yc (Zv h) (adr w).1).1 (Yc (Zv h) (adr w).1).2.1.toNat ((ZO ((Zz h (Yc (Zv h) (adr w).1).1).getD (Yc (Zv h) (adr w).1).2.1.toNat 0)).1.toNat+1)
def Sr(h:Hp)(w:Int):Bool:=decide ((fwd h w).2.2=0)&&decide ((fwd h w).1=w)
def TS(h:Hp)(part at_:Int):Int:=
 if(Xx h part).1=[]then 0 else 2*(ZW (Zv h) part ((Xx h part).1.getD (pick at_ (Xx h part).1.length).toNat default).at_).1+1
def OC{h:Hp}(g:h.ok){part at_:Int}(t:Yv at_):VC Sol.prog 16 false [ZD h,vi part,vi at_] (vu (TS h part at_)):=by
 refine ZN Sol.func16 follows Z2 PO rfl ?_;unfold TS;simp[Hu];refine Zw (Z5G g) ZcH ?_;have p:=Z3U g part;generalize (Xx h part).1=l at*;by_cases f:l=[]
 ·subst f;simp
 have q:0<l.length:=ZfC.2 f;have d:=VY (c:=at_) (n:=(l.length:Int)) Z0;have w:¬((l.length:Int)=0):=Z0;simp[f];refine Zw (yp (h:=h)) ZcH ?_;simp;refine Zw (Iy t (n:=(l.length:Int)) Z0) Z1 ?_;obtain⟨k,u⟩:=Zdz d.1;rw[u]at d⊢;have a:k<l.length:=Z0;have x:l[k]?=some l[k]:=Zdk a;generalize j:l[k]=o at*;simp[a,x,j,Y9];refine Zw (Bv g.lay (part:=part) (at_:=o.at_)) Z1 ?_;have r:= @D7 (Zv h) part o.at_;have w1:=ZT (2*(ZW (Zv h) part o.at_).1) Z0 Z0;have w2:=ZT (2*(ZW (Zv h) part o.at_).1+1) Z0 Z0;simp[w1,w2]
end Vm
namespace Vm
open Go Go.Proofs
@[simp]theorem Z8e(k:IntKind)(a b c d e f:Int):Y6 (.agg [.int k a,.int k b,.int k c,.int k d,.int k e,.int k f]) (.int .i64 0) 6 1 false=some (.int k a):=rfl
@[simp]theorem Z8k(a b c d e f:Bool):Y6 (.agg [.bool a,.bool b,.bool c,.bool d,.bool e,.bool f]) (.int .i64 0) 6 1 false=some (.bool a):=rfl
@[simp]theorem Z8f(k:IntKind)(a b c d e f:Int):Y6 (.agg [.int k a,.int k b,.int k c,.int k d,.int k e,.int k f]) (.int .i64 1) 6 1 false=some (.int k b):=rfl
@[simp]theorem Z8l(a b c d e f:Bool):Y6 (.agg [.bool a,.bool b,.bool c,.bool d,.bool e,.bool f]) (.int .i64 1) 6 1 false=some (.bool b):=rfl
@[simp]theorem Z8g(k:IntKind)(a b c d e f:Int):Y6 (.agg [.int k a,.int k b,.int k c,.int k d,.int k e,.int k f]) (.int .i64 2) 6 1 false=some (.int k c):=rfl
@[simp]theorem Z8m(a b c d e f:Bool):Y6 (.agg [.bool a,.bool b,.bool c,.bool d,.bool e,.bool f]) (.int .i64 2) 6 1 false=some (.bool c):=rfl
@[simp]theorem Z8h(k:IntKind)(a b c d e f:Int):Y6 (.agg [.int k a,.int k b,.int k c,.int k d,.int k e,.int k f]) (.int .i64 3) 6 1 false=some (.int k d):=rfl
@[simp]theorem Z8n(a b c d e f:Bool):Y6 (.agg [.bool a,.bool b,.bool c,.bool d,.bool e,.bool f]) (.int .i64 3) 6 1 false=some (.bool d):=rfl
@[simp]theorem Z8i(k:IntKind)(a b c d e f:Int):Y6 (.agg [.int k a,.int k b,.int k c,.int k d,.int k e,.int k f]) (.int .i64 4) 6 1 false=some (.int k e):=rfl
@[simp]theorem Z8o(a b c d e f:Bool):Y6 (.agg [.bool a,.bool b,.bool c,.bool d,.bool e,.bool f]) (.int .i64 4) 6 1 false=some (.bool e):=rfl
@[simp]theorem Z8j(k:IntKind)(a b c d e f:Int):Y6 (.agg [.int k a,.int k b,.int k c,.int k d,.int k e,.int k f]) (.int .i64 5) 6 1 false=some (.int k f):=rfl
@[simp]theorem Z8p(a b c d e f:Bool):Y6 (.agg [.bool a,.bool b,.bool c,.bool d,.bool e,.bool f]) (.int .i64 5) 6 1 false=some (.bool f):=rfl
end Vm
namespace Vm
open Go Go.Proofs
def Z7T{h:Hp}(A:h.ok){k:Int}{l:List Int}(o:l.length<=1000000)(h2:∀w∈l,ZA w):(Xq h k l).ok:=by
 obtain⟨a,d,f,g,p,q,r,t,j,u,x,y,z,n⟩:=A;unfold Xq;split
 ·exact⟨a,d,f,g,o,q,r,t,j,h2,x,y,z,n⟩
 split
 ·exact⟨a,d,f,g,p,o,r,t,j,u,h2,y,z,n⟩
 split
 ·exact⟨a,d,f,g,p,q,o,t,j,u,x,h2,z,n⟩
 ·exact⟨a,d,f,g,p,q,r,o,j,u,x,y,h2,n⟩
end Vm
end
section
namespace Vm
open Go Go.Proofs
def J5{n:Nat}{x:V}(h:Xp Tryz.prog (n+1) 3 x):∃m,x=vi m/\Yv m:=by
 obtain⟨m,rfl,a,d⟩:=Ns Tryz.underlying3 h;exact⟨m,rfl,a,d⟩
def Nu{n:Nat}{x:V}(h:Xp Tryz.prog (n+1) 22 x):∃m,x=vu m/\ZA m:=by
 obtain⟨m,rfl,a,d⟩:=Ns Tryz.underlying22 h;exact⟨m,rfl,a,Int.lt_of_le_of_lt d (by decide)⟩
def Cm{n:Nat}{x:V}(h:Xp Tryz.prog (n+2) 27 x):∃l:Ze,x=.sl (l.map vi)/\l.length<=maxLen/\∀p∈l,Yv p:=
 Cj Tryz.underlying27 h λy a=>J5 a
def Z7w{n:Nat}{x:V}(h:Xp Tryz.prog (n+2) 23 x):∃l:Ze,x=.sl (l.map vu)/\l.length<=maxLen/\∀p∈l,ZA p:=
 Cj Tryz.underlying23 h λy a=>Nu a
def Nd.fits(x:Nd):Prop:=(x.ptrs.length<=maxLen/\∀p∈x.ptrs,Yv p)/\x.data.length<=maxLen/\∀p∈x.data,ZA p
def Z7t{n:Nat}{x:V}(h:Xp Tryz.prog (n+3) 153 x):∃a:Nd,x=Yi a/\a.fits:=by
 obtain⟨q,rfl,o,d⟩:=Nt Tryz.underlying153 h
 match q,o with
 | [a,b],_=>
   obtain⟨p,rfl,g,j⟩:=Cm (d 0 _ a rfl rfl);obtain⟨f,rfl,k,l⟩:=Z7w (d 1 _ b rfl rfl);exact⟨⟨p,f⟩,rfl,⟨g,j⟩,k,l⟩
def Z7u{n:Nat}{x:V}(h:Xp Tryz.prog (n+4) 26 x):∃l:List Nd,x=.sl (l.map Yi)/\l.length<=maxLen/\∀a∈l,a.fits:=
 Cj Tryz.underlying26 h λy d=>Z7t d
def Z7v{n:Nat}{x:V}(h:Xp Tryz.prog (n+5) 29 x):∃r:Rw,x=Wd r/\r.ok:=by
 obtain⟨F,rfl,B,j⟩:=Nt Tryz.underlying29 h
 match F,B with
 | [a,b,c,d,e,f,g],_=>
   obtain⟨C,rfl,_,o⟩:=Z7u (j 0 _ a rfl rfl);obtain⟨D,rfl,_,t⟩:=Cm (j 1 _ b rfl rfl);obtain⟨q,rfl,_,u⟩:=Cm (j 2 _ c rfl rfl);obtain⟨d,rfl,w⟩:=Nu (j 3 _ d rfl rfl);obtain⟨e,rfl,y⟩:=J5 (j 4 _ e rfl rfl);obtain⟨f,rfl,z⟩:=J5 (j 5 _ f rfl rfl);obtain⟨g,rfl,A⟩:=J5 (j 6 _ g rfl rfl);exact⟨⟨C,D,q,d,e,f,g⟩,rfl,λn k p l=>(o n k).1.2 p l,λn k p l=>(o n k).2.2 p l,t,u,w,y,z,A⟩
def own:ownKnob Tryz.prog.godebug=none:=Z2
def laidOut:laidOutB Tryz.prog=true:=Z2
end Vm
end
section
namespace Vm
open Go Go.Proofs Go.RowKit
section
section
variable {P:Z4}{w:Z3}
def Z81{o:Oper}{a:Act}{K:Act->World->Prop}{Q:Zr}(s x:Operand)(t:Z8)
  (H:o.op=.call {callee:=.builtin .append,args:=#[s,x],argTypes:=#[t,t]}) {e:Z8} (L:P.underlying t=some (.slice e)) (p:Ur P e=true)
  {B n:Nat} {v y:Z7} {xs:Zk} (J:a.eval s=v) (hx:a.eval x=y) (k:w.ownsRow B e (P.cellsOf e) v n xs) (D:B<=w.heap.size)
  {Gy:Z6} {l:Zp} (M:Rd w Gy (.sl l) y) (F:Xj (P.cellsOf e) l=true) (j:n+l.length<=Y2)
  (h:∀g f d,f.ownsRow B e (P.cellsOf e) g (n+l.length) (xs++d)->w.grownBy f v.ownBlock->(g.ownBlock=v.ownBlock\/(w.grownBy f none/\f.ownsRow w.heap.size e (P.cellsOf e) g (n+l.length) (xs++d)))->
   (∀(i:Nat) (q:V),(flat l)[i]?=some q->∃u,d[i]?=some u/\Rd w Gy q u)->K (a.put o.dst g) f):o.wp P a w K Q:=by
 obtain⟨g,f,d,I,r,z,A,_,C⟩:=BH (ty:=o.type) L p k D M F j;unfold Oper.wp execOp;simp only[H,resolve,invoke,builtin,ZdX,Zfn,ZdR,List.map_toArray,ZdK,Zf8,J,hx,I];exact h g f d r z A C
def NU{ops:Zq}{rest:List Oper}{o:Oper}{a:Act}{Q:Zr}(q:o.guard=none)(s x:Operand)(t:Z8)
  (J:o.op=.call {callee:=.builtin .append,args:=#[s,x],argTypes:=#[t,t]}) {e:Z8} (L:P.underlying t=some (.slice e)) (p:Ur P e=true)
  {B n:Nat} {v y:Z7} {xs:Zk} (K:a.eval s=v) (hx:a.eval x=y) (k:w.ownsRow B e (P.cellsOf e) v n xs) (F:B<=w.heap.size)
  {Gy:Z6} {l:Zp} (M:Rd w Gy (.sl l) y) (I:Xj (P.cellsOf e) l=true) (j:n+l.length<=Y2)
  (h:∀g f d,f.ownsRow B e (P.cellsOf e) g (n+l.length) (xs++d)->w.grownBy f v.ownBlock->(g.ownBlock=v.ownBlock\/(w.grownBy f none/\f.ownsRow w.heap.size e (P.cellsOf e) g (n+l.length) (xs++d)))->
   (∀(i:Nat) (r:V),(flat l)[i]?=some r->∃u,d[i]?=some u/\Rd w Gy r u)->wpList P ops Q rest (a.put o.dst g) f):wpList P ops Q (o::rest) a w:=
 wpList_plain q λ_ H=>Z81 s x t J L p K hx k F M I j λg f d z A C D=>H _ _ (h g f d z A C D)
end
def X8(k:Zl)(l:Ze):List Value:=l.map (Value.int k)
def Gt{w:Z3}{G:Z6}{k:Zl}{l:Ze}{d:Zk}(h:∀(i:Nat) (g:V),(flat (l.map (V.int k)))[i]?=some g->∃u,d[i]?=some u/\Rd w G g u)(n:d.length=l.length):d=X8 k l:=by
 have f:flat (l.map (V.int k))=l.map (V.int k):=by
  clear h n
  induction l with
  |nil=>rfl
  |cons a l q=>rw[ZdK,So,q];rfl
 apply Zgf;intro i;unfold X8;by_cases j:i<l.length
 ·obtain⟨u,p,o⟩:=h i (.int k l[i]) (by rw[f,ZdJ,Zdk j];rfl);rw[p,ZdJ,Zdk j];cases o;rfl
 ·rw[Zeq Z0,Zeq Zcr]
def YP{w:Z3}{B:Nat}{e:Z8}{z n:Nat}{v:Z7}{xs:Zk}(h:w.ownsRow B e z v n xs):∃a c,v=.slice a n c:=by
 obtain⟨rfl,rfl⟩|⟨g,cap,d,rfl,_⟩:=h.2
 ·exact⟨_,_,rfl⟩
 ·exact⟨_,_,rfl⟩
theorem V3{w w':Z3}{B:Nat}{e:Z8}{z n:Nat}{v:Z7}{xs:Zk}(h:w.ownsRow B e z v n xs)(l:∀b,v.ownBlock=some b->w'.heap[b]?=w.heap[b]?):w'.ownsRow B e z v n xs:=by
 refine⟨h.1,?_⟩;obtain⟨f,d⟩|⟨g,cap,a,rfl,d,j,k⟩:=h.2
 ·exact .inl ⟨f,d⟩
 ·exact .inr ⟨g,cap,a,rfl,d,by rw[l g rfl];exact j,k⟩
def YD{w:Z3}{b o:Nat}{cs:Za}{T:Z8}(h:w.heap[b]?=some (.cells cs T (0,0))):w.frozen? ⟨b,o,none⟩=false:=by
 simp[World.frozen?,h]
def DX:Ur Sol.prog 22=true:=Z2
theorem Lk:Sol.prog.cellsOf 22=1:=Z2
def YT{w:Z3}{b:Nat}{o:Obj}(h:w.heap[b]?=some o):b<w.heap.size:=(Zdq.1 h).1
def zQ{w:Z3}{B B':Nat}{e:Z8}{z n:Nat}{v:Z7}{xs:Zk}(h:w.ownsRow B e z v n xs)(j:B'<=B):w.ownsRow B' e z v n xs:=by
 refine⟨h.1,?_⟩;obtain d|⟨g,cap,a,l,k,f⟩:=h.2
 ·exact .inl d
 ·exact .inr ⟨g,cap,a,l,ZdP j k,f⟩
def GG(k:Zl)(l:Ze)(i:Nat)(x:Int):X8 k (l.set i x)=(X8 k l).set i (.int k x):=by unfold X8;rw[Zg0]
def Z2B:(Sol.prog.info? 22).map (λi=>(i.zero,i.size,i.bytes))=some (some (.int .u64 0),1,8):=Z2
section
variable {w:Z3}{B:Nat}{G:Z6}
def Z0V{k:Zl}(l:Ze):flat (l.map (V.int k))=l.map (V.int k):=by
 induction l with
 |nil=>rfl
 |cons a l d=>rw[ZdK,So,d];rfl
def H8{k:Zl}{e:Z8}{v:Z7}{l:Ze}(h:w.ownsRow B e 1 v l.length (X8 k l))(r:∀c,B<=c->c<w.heap.size->G c):Rd w G (.sl (l.map (V.int k))) v:=by
 obtain⟨rfl,q⟩|⟨g,cap,p,rfl,t,u,o,f,_⟩:=h.2
 ·have:l=[]:=Zf6.1 q;subst this;exact .nil _ _ (by unfold maxLen;omega)
 ·have:=Rd.sl (w:=w) (G:=G) (l.map (V.int k)) g 0 cap 1 (λi=>(X8 k l).getD i undef) (by simpa using o) f (r g t (YT u)) (λx y=>by
   obtain⟨n,_,rfl⟩:=ZdB.1 y
   exact⟨rfl,λc d=>by simp[V.cells]at d;subst d;rfl⟩) (λi j=>by
    have a:i<l.length:=Zdh;rw[Ze7,h.cellAt i Z0];simp[X8,a]) (λi c d=>by
    rw[Z0V]at d;obtain⟨j,rfl⟩:=Zdl.1 d;have a:i<l.length:=Zdh;simp[X8,a];exact .int _ _)
  simpa using this
end
def Z4x(w:Z3)(b k:Nat)(a:k=1\/k=2\/k=3\/k=4):
  Calls Sol.prog 76 #[.pointer (some ⟨b,0,none⟩),.int .i64 k] w λe d=>e=.returned (.pointer (some ⟨b,4+k,none⟩))/\Below w.heap.size w d:=by
 go_enter Sol.func76,Tryz.ntmps76;obtain rfl|rfl|rfl|rfl:=a
 all_goals
  go_wp2;go_region;go_wp2
  go_ret
  exact⟨rfl,((ZdZ _ _).alloc (Zdp _) _).drew⟩
end
def Zu(h:Hp)(j:Nat):List Int:=if j=0 then h.low else if j=1 then h.high else if j=2 then h.old else if j=3 then h.far else h.roots
structure OwSt (w:World) (b:Nat) (el:Nat->Option Obj) (T:TypeId) (hd src:Nat->Value) (L:Nat->List Int) (k:Nat) (xs:Nat->Value) (wr:World):Prop where
 below:Below w.heap.size w wr
 new:w.heap.size<=b
 blk:wr.heap[b]?=some (.cells #[hd 0,hd 1,hd 2,hd 3,hd 4,xs 0,xs 1,xs 2,xs 3,src 4] T (0,0))
 elder:∀c,w.heap.size<=c->c<b->wr.heap[c]?=el c
 rest:∀j,k<=j->xs j=src j
 own:∀j,j<k->wr.ownsRow w.heap.size 22 1 (xs j) (L j).length (X8 .u64 (L j))
 newer:∀j,j<k->∀c,(xs j).ownBlock=some c->b<c
 apart:∀i j,i<j->j<k->∀c,(xs i).ownBlock=some c->(xs j).ownBlock≠some c
abbrev Zh:=Nat->Value
def OwSt.next{w wr w1 o:Z3}{b:Nat}{z:Nat->Option Obj}{T:Z8}{g l:Zh}{L:Nat->List Int}{k:Nat}{xs:Zh}(h:OwSt w b z T g l L k xs wr)(H:k<4)
  (p:Below wr.heap.size wr w1) (q:w1.grownBy o none) {v:Z7} (I:o.ownsRow w.heap.size 22 1 v (L k).length (X8 .u64 (L k))) (D:∀c,v.ownBlock=some c->w1.heap.size<=c):
  OwSt w b z T g l L (k+1) (λj=>if j=k then v else xs j) (o.setCell ⟨b,5+k,none⟩ v):=by
 have r:b<wr.heap.size:=YT h.blk;have F:=p.size;have y:=h.below.size;have G:=q.size
 have f:∀c,c<wr.heap.size->c≠b->(o.setCell ⟨b,5+k,none⟩ v).heap[c]?=wr.heap[c]? :=λc d x=>by
  rw[ZdS _ _ _ _ x,q.block c Z0 Z1,p.block c d]
 have C:o.heap[b]?=some (.cells #[g 0,g 1,g 2,g 3,g 4,xs 0,xs 1,xs 2,xs 3,l 4] T (0,0)):=by
  rw[q.block b Z0 Z1,p.block b r,h.blk]
 refine⟨((h.below.trans (p.mono y)).grown q Z0 Z1).setCell h.new _,h.new,?_,?_,?_,?_,?_,?_⟩
 ·have:k=0\/k=1\/k=2\/k=3:=Z0;obtain rfl|rfl|rfl|rfl:=this<;>simp[World.setCell,Zep,C]
 ·intro c A B;rw[f c Z0 Z0];exact h.elder c A B
 ·intro j u;rw[if_neg Z0];exact h.rest j Z0
 ·intro j u;by_cases a:j=k
  ·subst a;rw[if_pos rfl]
   grind [V3,Below.heap_setCell]
  ·rw[if_neg a];have n:=h.own j Z0;exact V3 n λc d=>f c (n.lt c d).2 (by have:=h.newer j Z0 c d;omega)
 ·intro j u c d;by_cases a:j=k
  ·grind
  ·rw[if_neg a]at d;exact h.newer j Z0 c d
 ·intro i j t u c d;rw[if_neg Z0]at d;by_cases a:j=k
  ·rw[if_pos a];intro e;have:=D c e;have:=((h.own i Z0).lt c d).2;omega
  ·rw[if_neg a];exact h.apart i j t Z0 c d
structure HOwn (B:Nat) (w:World) (h:Hp) (x:Nat->Value):Prop where
 own:∀j,j<5->w.ownsRow B 22 1 (x j) (Zu h j).length (X8 .u64 (Zu h j))
 apart:∀i j,i<j->j<5->∀c,(x i).ownBlock=some c->(x j).ownBlock≠some c
def Y1(h:Hp)(x:Zh):Value:=.agg #[.int .u64 h.base,.int .i64 h.cap,.int .i64 h.to,.bool h.cycle,.int .i64 h.scan,x 0,x 1,x 2,x 3,x 4]
def Oo(w:Z3)(h:Hp)(e:Ending)(w':Z3):Prop:=∃x,e=.returned (Y1 h x)/\Below w.heap.size w w'/\HOwn w.heap.size w' h x
def QE{h:Hp}(a:h.ok)(k:Nat):(Zu h k).length<=1000000:=by
 unfold Zu;split
 ·exact a.low
 split
 ·exact a.high
 split
 ·exact a.old
 split
 ·exact a.far
 ·exact a.roots
def Z4y(w:Z3)(b k:Nat)(d:k<4):
  Calls Sol.prog 76 #[.pointer (some ⟨b,0,none⟩),.int .i64 ((k+1:Nat):Int)] w λe a=>e=.returned (.pointer (some ⟨b,5+k,none⟩))/\Below w.heap.size w a:=by
 have:=Z4x w b (k+1) Z0
 grind
def L3(w:Z3)(G:Z6)(hG:∀b,G b->b<w.heap.size)(h:Hp)(hh:h.ok)(g:Zh)(hs:∀j,j<5->Rd w G (.sl ((Zu h j).map vu)) (g j)):
  Calls Sol.prog 44 #[Y1 h g] w (Oo w h):=by
 have HS:=Zdv hs;have HH:=Zdv hh;clear hs hh;unfold Y1;go_enter Sol.func44,Tryz.ntmps44;go_wp2
 go_loopw [4] (λi wr=>∃(k:Nat) (xs:Zh),i=.int .i64 ((k+1:Nat):Int)/\k<=4/\Hid (OwSt w (w.heap.size+2) (λc=>if c=w.heap.size then some (.cells #[.int .u64 h.base,.int .i64 h.cap,.int .i64 h.to,.bool h.cycle,.int .i64 h.scan,g 0,g 1,g 2,g 3,g 4] 25 (0,0))else some (.cells #[.int .u64 0,.int .i64 0,.int .i64 0,.bool false,.int .i64 0,.slice none 0 0,.slice none 0 0,.slice none 0 0,.slice none 0 0,.slice none 0 0] 25 (0,0))) 135 (λj=>if j=0 then .int .u64 h.base else if j=1 then .int .i64 h.cap else if j=2 then .int .i64 h.to else if j=3 then .bool h.cycle else .int .i64 h.scan) g (Zu h) k xs wr))
  (λi _=>5- (intOf i).toNat)
 case atStart=>
  refine⟨0,g,rfl,Z0,Zdv ⟨(((ZdZ _ _).alloc (Zdp _) _).alloc Z1 _).alloc Zcr _,Z0,?_,?_,λ_ _=>rfl,λj hj=>Z0,λj hj=>Z0,λi j _ hj=>Z0⟩⟩;have:=ZdO ((w.alloc (.cells #[.int .u64 h.base,.int .i64 h.cap,.int .i64 h.to,.bool h.cycle,.int .i64 h.scan,g 0,g 1,g 2,g 3,g 4] 25)).alloc (.cells #[.int .u64 0,.int .i64 0,.int .i64 0,.bool false,.int .i64 0,.slice none 0 0,.slice none 0 0,.slice none 0 0,.slice none 0 0,.slice none 0 0] 25)) (.cells #[.int .u64 h.base,.int .i64 h.cap,.int .i64 h.to,.bool h.cycle,.int .i64 h.scan,g 0,g 1,g 2,g 3,g 4] 135)
  ·simp_all
  ·intro c Y W;have:c=w.heap.size\/c=w.heap.size+1:=Z0;obtain rfl|rfl:=this
   ·rw[if_pos rfl,Zds _ _ _ Zcr,Zds _ _ _ Z1];exact ZdO _ _
   ·rw[if_neg Z0,Zds _ _ _ Z1];have:=ZdO (w.alloc (.cells #[.int .u64 h.base,.int .i64 h.cap,.int .i64 h.to,.bool h.cycle,.int .i64 h.scan,g 0,g 1,g 2,g 3,g 4] 25)) (.cells #[.int .u64 0,.int .i64 0,.int .i64 0,.bool false,.int .i64 0,.slice none 0 0,.slice none 0 0,.slice none 0 0,.slice none 0 0,.slice none 0 0] 25);simp_all
 case round=>
  obtain⟨k,xs,rfl,hk,I⟩:=hrel;have a2:=YT I.out.blk;by_cases a0:k<4
  ·have a9:((k+1:Nat):Int)<=4:=Z0
   have c0:wr.cell? ⟨w.heap.size+2,5+k,none⟩=some (g k):=by
    rw[ZdE _ _ _ _ _ _ I.out.blk];have h3:k=0\/k=1\/k=2\/k=3:=Z0;have hr:=I.out.rest k (Zdp _);obtain rfl|rfl|rfl|rfl:=h3<;>simp[<-hr]
   have f0:wr.frozen? ⟨w.heap.size+2,5+k,none⟩=false:=YD I.out.blk;have a8:(Zu h k).length<=1000000:=QE HH.out k
   go_wp2_with (first
    |(go_at_call 76;refine(Z4y _ _ _ a0).mono ?_;rintro e w1 ⟨rfl,M⟩;have c1:=(M.cell (p:=⟨w.heap.size+2,5+k,none⟩) (by exact a2)).trans c0;have f1:=(M.frozen (p:=⟨w.heap.size+2,5+k,none⟩) (by exact a2)).trans f0;have R:=Zdv ((HS.out k (by omega)).keep (w':=w1) (λb hb=>by rw[M.block b (by have:=hG b hb;omega)];exact I.out.below.block b (hG b hb)) (λ_ h=>h));have a3:=Zdv M;have b2:=M.size;have a1:=I.out.below.size;clear M)
    |(at_builtin;refine NU (B:=w.heap.size) (n:=0) (xs:=[]) rfl _ _ _ rfl Sol.underlying23 DX rfl rfl (ZeN _ _ _ _) (by omega) (l:=(Zu h k).map vu) (Gy:=G) R.out (by grind [Lk,KM]) (by grind [Y2]) ?_))
   intro v6 o K f q L Q;simp only[Lk]at f;have T:K.length=(Zu h k).length:=by have:=f.1;simp_all
   rw[Gt Q T]at f
   try simp only[Ze9,Ze7,Zej]at f
   obtain⟨a,d,U⟩:=YP f;subst U;have J:(Value.slice none 0 0).ownBlock=none:=rfl;rw[J]at q;have c6:=(q.cell_far ⟨w.heap.size+2,5+k,none⟩ Zcp Z1).trans c1;have f6:=(q.frozen_far ⟨w.heap.size+2,5+k,none⟩ Zcp Z1).trans f1
   have H:∀c,(Value.slice a (Zu h k).length d).ownBlock=some c->w1.heap.size<=c:=by
    intro c N;obtain e|⟨_,e⟩:=L
    ·simp_all
    ·exact(e.lt c N).1
   have HN:=Zdv (I.out.next a0 a3.out q f H);clear f q L Q H;go_wp2
   go_roundw
   case rel=>grind
   case measure=>grind [intOf]
  ·have a7:k=4:=Z0;subst a7;have b0:=I.out.elder w.heap.size Z0 Z0;rw[if_pos rfl]at b0;have b1:=I.out.elder (w.heap.size+1) Z0 Z0;rw[if_neg Z0]at b1;have c9:wr.cell? ⟨w.heap.size,9,none⟩=some (g 4):=by rw[ZdE _ _ _ _ _ _ b0];rfl
   have a8:(Zu h 4).length<=1000000:=QE HH.out 4;have R:=Zdv ((HS.out 4 Z0).keep (w':=wr) (λb hb=>I.out.below.block b (hG b hb)) (λ_ h=>h));have a1:=I.out.below.size
   go_wp2_with (at_builtin;refine NU (B:=w.heap.size) (n:=0) (xs:=[]) rfl _ _ _ rfl Sol.underlying23 DX rfl rfl (ZeN _ _ _ _) Z0 (l:=(Zu h 4).map vu) (Gy:=G) R.out (by grind [Lk,KM]) (by grind [Y2]) ?_)
   intro v6 o K f q L Q;simp only[Lk]at f;have T:K.length=(Zu h 4).length:=by have:=f.1;simp_all
   rw[Gt Q T]at f
   try simp only[Ze9,Ze7,Zej]at f
   obtain⟨a,d,U⟩:=YP f;subst U;have J:(Value.slice none 0 0).ownBlock=none:=rfl;rw[J]at q;obtain⟨r,z,e0⟩:=YP (I.out.own 0 Z0);obtain⟨t,A,e1⟩:=YP (I.out.own 1 Z0);obtain⟨u,C,e2⟩:=YP (I.out.own 2 Z0);obtain⟨x,D,e3⟩:=YP (I.out.own 3 Z0);have blk:wr.heap[w.heap.size+2]?=some (.cells #[.int .u64 h.base,.int .i64 h.cap,.int .i64 h.to,.bool h.cycle,.int .i64 h.scan,.slice r (Zu h 0).length z,.slice t (Zu h 1).length A,.slice u (Zu h 2).length C,.slice x (Zu h 3).length D,g 4] 135 (0,0)):=by rw[<-e0,<-e1,<-e2,<-e3];exact I.out.blk
   have P:=(q.block (w.heap.size+2) Z0 Z1).trans blk;have X:=(q.block (w.heap.size+1) Z0 Z1).trans b1;have x9:o.cell? ⟨w.heap.size+2,9,none⟩=some (g 4):=by rw[ZdE _ _ _ _ _ _ P];rfl
   have y9:o.frozen? ⟨w.heap.size+2,9,none⟩=false:=YD P
   have F:(o.setCell ⟨w.heap.size+2,9,none⟩ (Value.slice a (Zu h 4).length d)).heap[w.heap.size+2]?=some (.cells #[.int .u64 h.base,.int .i64 h.cap,.int .i64 h.to,.bool h.cycle,.int .i64 h.scan,.slice r (Zu h 0).length z,.slice t (Zu h 1).length A,.slice u (Zu h 2).length C,.slice x (Zu h 3).length D,.slice a (Zu h 4).length d] 135 (0,0)):=by
    simp[World.setCell,Zep,P]
   have y:(o.setCell ⟨w.heap.size+2,9,none⟩ (Value.slice a (Zu h 4).length d)).heap[w.heap.size+1]?=some (.cells #[.int .u64 0,.int .i64 0,.int .i64 0,.bool false,.int .i64 0,.slice none 0 0,.slice none 0 0,.slice none 0 0,.slice none 0 0,.slice none 0 0] 25 (0,0)):=by
    rw[ZdS _ _ _ _ Z1];exact X
   have l0:(o.setCell ⟨w.heap.size+2,9,none⟩ (Value.slice a (Zu h 4).length d)).cell? ⟨w.heap.size+2,0,none⟩=some (Value.int IntKind.u64 h.base):=Zcy;have l1:(o.setCell ⟨w.heap.size+2,9,none⟩ (Value.slice a (Zu h 4).length d)).cell? ⟨w.heap.size+2,1,none⟩=some (Value.int IntKind.i64 h.cap):=Zcy;have l2:(o.setCell ⟨w.heap.size+2,9,none⟩ (Value.slice a (Zu h 4).length d)).cell? ⟨w.heap.size+2,2,none⟩=some (Value.int IntKind.i64 h.to):=Zcy;have l3:(o.setCell ⟨w.heap.size+2,9,none⟩ (Value.slice a (Zu h 4).length d)).cell? ⟨w.heap.size+2,3,none⟩=some (Value.bool h.cycle):=Zcy;have l4:(o.setCell ⟨w.heap.size+2,9,none⟩ (Value.slice a (Zu h 4).length d)).cell? ⟨w.heap.size+2,4,none⟩=some (Value.int IntKind.i64 h.scan):=Zcy;have l5:(o.setCell ⟨w.heap.size+2,9,none⟩ (Value.slice a (Zu h 4).length d)).cell? ⟨w.heap.size+2,5,none⟩=some (Value.slice r (Zu h 0).length z):=Zcy;have l6:(o.setCell ⟨w.heap.size+2,9,none⟩ (Value.slice a (Zu h 4).length d)).cell? ⟨w.heap.size+2,6,none⟩=some (Value.slice t (Zu h 1).length A):=Zcy;have l7:(o.setCell ⟨w.heap.size+2,9,none⟩ (Value.slice a (Zu h 4).length d)).cell? ⟨w.heap.size+2,7,none⟩=some (Value.slice u (Zu h 2).length C):=Zcy;have l8:(o.setCell ⟨w.heap.size+2,9,none⟩ (Value.slice a (Zu h 4).length d)).cell? ⟨w.heap.size+2,8,none⟩=some (Value.slice x (Zu h 3).length D):=Zcy;have l9:(o.setCell ⟨w.heap.size+2,9,none⟩ (Value.slice a (Zu h 4).length d)).cell? ⟨w.heap.size+2,9,none⟩=some (Value.slice a (Zu h 4).length d):=Zcy;have m0:(o.setCell ⟨w.heap.size+2,9,none⟩ (Value.slice a (Zu h 4).length d)).cell? ⟨w.heap.size+1,0,none⟩=some (Value.int IntKind.u64 0):=ZcF;have r0:(o.setCell ⟨w.heap.size+2,9,none⟩ (Value.slice a (Zu h 4).length d)).frozen? ⟨w.heap.size+1,0,none⟩=false:=YD y;have m1:(o.setCell ⟨w.heap.size+2,9,none⟩ (Value.slice a (Zu h 4).length d)).cell? ⟨w.heap.size+1,1,none⟩=some (Value.int IntKind.i64 0):=ZcF;have r1:(o.setCell ⟨w.heap.size+2,9,none⟩ (Value.slice a (Zu h 4).length d)).frozen? ⟨w.heap.size+1,1,none⟩=false:=YD y;have m2:(o.setCell ⟨w.heap.size+2,9,none⟩ (Value.slice a (Zu h 4).length d)).cell? ⟨w.heap.size+1,2,none⟩=some (Value.int IntKind.i64 0):=ZcF;have r2:(o.setCell ⟨w.heap.size+2,9,none⟩ (Value.slice a (Zu h 4).length d)).frozen? ⟨w.heap.size+1,2,none⟩=false:=YD y;have m3:(o.setCell ⟨w.heap.size+2,9,none⟩ (Value.slice a (Zu h 4).length d)).cell? ⟨w.heap.size+1,3,none⟩=some (Value.bool false):=ZcF;have r3:(o.setCell ⟨w.heap.size+2,9,none⟩ (Value.slice a (Zu h 4).length d)).frozen? ⟨w.heap.size+1,3,none⟩=false:=YD y;have m4:(o.setCell ⟨w.heap.size+2,9,none⟩ (Value.slice a (Zu h 4).length d)).cell? ⟨w.heap.size+1,4,none⟩=some (Value.int IntKind.i64 0):=ZcF;have r4:(o.setCell ⟨w.heap.size+2,9,none⟩ (Value.slice a (Zu h 4).length d)).frozen? ⟨w.heap.size+1,4,none⟩=false:=YD y;have m5:(o.setCell ⟨w.heap.size+2,9,none⟩ (Value.slice a (Zu h 4).length d)).cell? ⟨w.heap.size+1,5,none⟩=some (Value.slice none 0 0):=ZcF;have r5:(o.setCell ⟨w.heap.size+2,9,none⟩ (Value.slice a (Zu h 4).length d)).frozen? ⟨w.heap.size+1,5,none⟩=false:=YD y;have m6:(o.setCell ⟨w.heap.size+2,9,none⟩ (Value.slice a (Zu h 4).length d)).cell? ⟨w.heap.size+1,6,none⟩=some (Value.slice none 0 0):=ZcF;have r6:(o.setCell ⟨w.heap.size+2,9,none⟩ (Value.slice a (Zu h 4).length d)).frozen? ⟨w.heap.size+1,6,none⟩=false:=YD y;have m7:(o.setCell ⟨w.heap.size+2,9,none⟩ (Value.slice a (Zu h 4).length d)).cell? ⟨w.heap.size+1,7,none⟩=some (Value.slice none 0 0):=ZcF;have r7:(o.setCell ⟨w.heap.size+2,9,none⟩ (Value.slice a (Zu h 4).length d)).frozen? ⟨w.heap.size+1,7,none⟩=false:=YD y;have m8:(o.setCell ⟨w.heap.size+2,9,none⟩ (Value.slice a (Zu h 4).length d)).cell? ⟨w.heap.size+1,8,none⟩=some (Value.slice none 0 0):=ZcF;have r8:(o.setCell ⟨w.heap.size+2,9,none⟩ (Value.slice a (Zu h 4).length d)).frozen? ⟨w.heap.size+1,8,none⟩=false:=YD y;have m9:(o.setCell ⟨w.heap.size+2,9,none⟩ (Value.slice a (Zu h 4).length d)).cell? ⟨w.heap.size+1,9,none⟩=some (Value.slice none 0 0):=ZcF;have r9:(o.setCell ⟨w.heap.size+2,9,none⟩ (Value.slice a (Zu h 4).length d)).frozen? ⟨w.heap.size+1,9,none⟩=false:=YD y
   have O:(((((((((((o.setCell ⟨w.heap.size+2,9,none⟩ (Value.slice a (Zu h 4).length d)).setCell ⟨w.heap.size+1,0,none⟩ (Value.int IntKind.u64 h.base)).setCell ⟨w.heap.size+1,1,none⟩ (Value.int IntKind.i64 h.cap)).setCell ⟨w.heap.size+1,2,none⟩ (Value.int IntKind.i64 h.to)).setCell ⟨w.heap.size+1,3,none⟩ (Value.bool h.cycle)).setCell ⟨w.heap.size+1,4,none⟩ (Value.int IntKind.i64 h.scan)).setCell ⟨w.heap.size+1,5,none⟩ (Value.slice r (Zu h 0).length z)).setCell ⟨w.heap.size+1,6,none⟩ (Value.slice t (Zu h 1).length A)).setCell ⟨w.heap.size+1,7,none⟩ (Value.slice u (Zu h 2).length C)).setCell ⟨w.heap.size+1,8,none⟩ (Value.slice x (Zu h 3).length D)).setCell ⟨w.heap.size+1,9,none⟩ (Value.slice a (Zu h 4).length d)).heap[w.heap.size+1]?=some (.cells #[.int .u64 h.base,.int .i64 h.cap,.int .i64 h.to,.bool h.cycle,.int .i64 h.scan,.slice r (Zu h 0).length z,.slice t (Zu h 1).length A,.slice u (Zu h 2).length C,.slice x (Zu h 3).length D,.slice a (Zu h 4).length d] 25 (0,0)):=by
    simp[World.setCell,Zep,X]
   have z0:(((((((((((o.setCell ⟨w.heap.size+2,9,none⟩ (Value.slice a (Zu h 4).length d)).setCell ⟨w.heap.size+1,0,none⟩ (Value.int IntKind.u64 h.base)).setCell ⟨w.heap.size+1,1,none⟩ (Value.int IntKind.i64 h.cap)).setCell ⟨w.heap.size+1,2,none⟩ (Value.int IntKind.i64 h.to)).setCell ⟨w.heap.size+1,3,none⟩ (Value.bool h.cycle)).setCell ⟨w.heap.size+1,4,none⟩ (Value.int IntKind.i64 h.scan)).setCell ⟨w.heap.size+1,5,none⟩ (Value.slice r (Zu h 0).length z)).setCell ⟨w.heap.size+1,6,none⟩ (Value.slice t (Zu h 1).length A)).setCell ⟨w.heap.size+1,7,none⟩ (Value.slice u (Zu h 2).length C)).setCell ⟨w.heap.size+1,8,none⟩ (Value.slice x (Zu h 3).length D)).setCell ⟨w.heap.size+1,9,none⟩ (Value.slice a (Zu h 4).length d)).cell? ⟨w.heap.size+1,0,none⟩=some (Value.int IntKind.u64 h.base):=ZcD;have z1:(((((((((((o.setCell ⟨w.heap.size+2,9,none⟩ (Value.slice a (Zu h 4).length d)).setCell ⟨w.heap.size+1,0,none⟩ (Value.int IntKind.u64 h.base)).setCell ⟨w.heap.size+1,1,none⟩ (Value.int IntKind.i64 h.cap)).setCell ⟨w.heap.size+1,2,none⟩ (Value.int IntKind.i64 h.to)).setCell ⟨w.heap.size+1,3,none⟩ (Value.bool h.cycle)).setCell ⟨w.heap.size+1,4,none⟩ (Value.int IntKind.i64 h.scan)).setCell ⟨w.heap.size+1,5,none⟩ (Value.slice r (Zu h 0).length z)).setCell ⟨w.heap.size+1,6,none⟩ (Value.slice t (Zu h 1).length A)).setCell ⟨w.heap.size+1,7,none⟩ (Value.slice u (Zu h 2).length C)).setCell ⟨w.heap.size+1,8,none⟩ (Value.slice x (Zu h 3).length D)).setCell ⟨w.heap.size+1,9,none⟩ (Value.slice a (Zu h 4).length d)).cell? ⟨w.heap.size+1,1,none⟩=some (Value.int IntKind.i64 h.cap):=ZcD;have z2:(((((((((((o.setCell ⟨w.heap.size+2,9,none⟩ (Value.slice a (Zu h 4).length d)).setCell ⟨w.heap.size+1,0,none⟩ (Value.int IntKind.u64 h.base)).setCell ⟨w.heap.size+1,1,none⟩ (Value.int IntKind.i64 h.cap)).setCell ⟨w.heap.size+1,2,none⟩ (Value.int IntKind.i64 h.to)).setCell ⟨w.heap.size+1,3,none⟩ (Value.bool h.cycle)).setCell ⟨w.heap.size+1,4,none⟩ (Value.int IntKind.i64 h.scan)).setCell ⟨w.heap.size+1,5,none⟩ (Value.slice r (Zu h 0).length z)).setCell ⟨w.heap.size+1,6,none⟩ (Value.slice t (Zu h 1).length A)).setCell ⟨w.heap.size+1,7,none⟩ (Value.slice u (Zu h 2).length C)).setCell ⟨w.heap.size+1,8,none⟩ (Value.slice x (Zu h 3).length D)).setCell ⟨w.heap.size+1,9,none⟩ (Value.slice a (Zu h 4).length d)).cell? ⟨w.heap.size+1,2,none⟩=some (Value.int IntKind.i64 h.to):=ZcD;have z3:(((((((((((o.setCell ⟨w.heap.size+2,9,none⟩ (Value.slice a (Zu h 4).length d)).setCell ⟨w.heap.size+1,0,none⟩ (Value.int IntKind.u64 h.base)).setCell ⟨w.heap.size+1,1,none⟩ (Value.int IntKind.i64 h.cap)).setCell ⟨w.heap.size+1,2,none⟩ (Value.int IntKind.i64 h.to)).setCell ⟨w.heap.size+1,3,none⟩ (Value.bool h.cycle)).setCell ⟨w.heap.size+1,4,none⟩ (Value.int IntKind.i64 h.scan)).setCell ⟨w.heap.size+1,5,none⟩ (Value.slice r (Zu h 0).length z)).setCell ⟨w.heap.size+1,6,none⟩ (Value.slice t (Zu h 1).length A)).setCell ⟨w.heap.size+1,7,none⟩ (Value.slice u (Zu h 2).length C)).setCell ⟨w.heap.size+1,8,none⟩ (Value.slice x (Zu h 3).length D)).setCell ⟨w.heap.size+1,9,none⟩ (Value.slice a (Zu h 4).length d)).cell? ⟨w.heap.size+1,3,none⟩=some (Value.bool h.cycle):=ZcD;have z4:(((((((((((o.setCell ⟨w.heap.size+2,9,none⟩ (Value.slice a (Zu h 4).length d)).setCell ⟨w.heap.size+1,0,none⟩ (Value.int IntKind.u64 h.base)).setCell ⟨w.heap.size+1,1,none⟩ (Value.int IntKind.i64 h.cap)).setCell ⟨w.heap.size+1,2,none⟩ (Value.int IntKind.i64 h.to)).setCell ⟨w.heap.size+1,3,none⟩ (Value.bool h.cycle)).setCell ⟨w.heap.size+1,4,none⟩ (Value.int IntKind.i64 h.scan)).setCell ⟨w.heap.size+1,5,none⟩ (Value.slice r (Zu h 0).length z)).setCell ⟨w.heap.size+1,6,none⟩ (Value.slice t (Zu h 1).length A)).setCell ⟨w.heap.size+1,7,none⟩ (Value.slice u (Zu h 2).length C)).setCell ⟨w.heap.size+1,8,none⟩ (Value.slice x (Zu h 3).length D)).setCell ⟨w.heap.size+1,9,none⟩ (Value.slice a (Zu h 4).length d)).cell? ⟨w.heap.size+1,4,none⟩=some (Value.int IntKind.i64 h.scan):=ZcD;have z5:(((((((((((o.setCell ⟨w.heap.size+2,9,none⟩ (Value.slice a (Zu h 4).length d)).setCell ⟨w.heap.size+1,0,none⟩ (Value.int IntKind.u64 h.base)).setCell ⟨w.heap.size+1,1,none⟩ (Value.int IntKind.i64 h.cap)).setCell ⟨w.heap.size+1,2,none⟩ (Value.int IntKind.i64 h.to)).setCell ⟨w.heap.size+1,3,none⟩ (Value.bool h.cycle)).setCell ⟨w.heap.size+1,4,none⟩ (Value.int IntKind.i64 h.scan)).setCell ⟨w.heap.size+1,5,none⟩ (Value.slice r (Zu h 0).length z)).setCell ⟨w.heap.size+1,6,none⟩ (Value.slice t (Zu h 1).length A)).setCell ⟨w.heap.size+1,7,none⟩ (Value.slice u (Zu h 2).length C)).setCell ⟨w.heap.size+1,8,none⟩ (Value.slice x (Zu h 3).length D)).setCell ⟨w.heap.size+1,9,none⟩ (Value.slice a (Zu h 4).length d)).cell? ⟨w.heap.size+1,5,none⟩=some (Value.slice r (Zu h 0).length z):=ZcD;have z6:(((((((((((o.setCell ⟨w.heap.size+2,9,none⟩ (Value.slice a (Zu h 4).length d)).setCell ⟨w.heap.size+1,0,none⟩ (Value.int IntKind.u64 h.base)).setCell ⟨w.heap.size+1,1,none⟩ (Value.int IntKind.i64 h.cap)).setCell ⟨w.heap.size+1,2,none⟩ (Value.int IntKind.i64 h.to)).setCell ⟨w.heap.size+1,3,none⟩ (Value.bool h.cycle)).setCell ⟨w.heap.size+1,4,none⟩ (Value.int IntKind.i64 h.scan)).setCell ⟨w.heap.size+1,5,none⟩ (Value.slice r (Zu h 0).length z)).setCell ⟨w.heap.size+1,6,none⟩ (Value.slice t (Zu h 1).length A)).setCell ⟨w.heap.size+1,7,none⟩ (Value.slice u (Zu h 2).length C)).setCell ⟨w.heap.size+1,8,none⟩ (Value.slice x (Zu h 3).length D)).setCell ⟨w.heap.size+1,9,none⟩ (Value.slice a (Zu h 4).length d)).cell? ⟨w.heap.size+1,6,none⟩=some (Value.slice t (Zu h 1).length A):=ZcD;have z7:(((((((((((o.setCell ⟨w.heap.size+2,9,none⟩ (Value.slice a (Zu h 4).length d)).setCell ⟨w.heap.size+1,0,none⟩ (Value.int IntKind.u64 h.base)).setCell ⟨w.heap.size+1,1,none⟩ (Value.int IntKind.i64 h.cap)).setCell ⟨w.heap.size+1,2,none⟩ (Value.int IntKind.i64 h.to)).setCell ⟨w.heap.size+1,3,none⟩ (Value.bool h.cycle)).setCell ⟨w.heap.size+1,4,none⟩ (Value.int IntKind.i64 h.scan)).setCell ⟨w.heap.size+1,5,none⟩ (Value.slice r (Zu h 0).length z)).setCell ⟨w.heap.size+1,6,none⟩ (Value.slice t (Zu h 1).length A)).setCell ⟨w.heap.size+1,7,none⟩ (Value.slice u (Zu h 2).length C)).setCell ⟨w.heap.size+1,8,none⟩ (Value.slice x (Zu h 3).length D)).setCell ⟨w.heap.size+1,9,none⟩ (Value.slice a (Zu h 4).length d)).cell? ⟨w.heap.size+1,7,none⟩=some (Value.slice u (Zu h 2).length C):=ZcD;have z8:(((((((((((o.setCell ⟨w.heap.size+2,9,none⟩ (Value.slice a (Zu h 4).length d)).setCell ⟨w.heap.size+1,0,none⟩ (Value.int IntKind.u64 h.base)).setCell ⟨w.heap.size+1,1,none⟩ (Value.int IntKind.i64 h.cap)).setCell ⟨w.heap.size+1,2,none⟩ (Value.int IntKind.i64 h.to)).setCell ⟨w.heap.size+1,3,none⟩ (Value.bool h.cycle)).setCell ⟨w.heap.size+1,4,none⟩ (Value.int IntKind.i64 h.scan)).setCell ⟨w.heap.size+1,5,none⟩ (Value.slice r (Zu h 0).length z)).setCell ⟨w.heap.size+1,6,none⟩ (Value.slice t (Zu h 1).length A)).setCell ⟨w.heap.size+1,7,none⟩ (Value.slice u (Zu h 2).length C)).setCell ⟨w.heap.size+1,8,none⟩ (Value.slice x (Zu h 3).length D)).setCell ⟨w.heap.size+1,9,none⟩ (Value.slice a (Zu h 4).length d)).cell? ⟨w.heap.size+1,8,none⟩=some (Value.slice x (Zu h 3).length D):=ZcD;have z9:(((((((((((o.setCell ⟨w.heap.size+2,9,none⟩ (Value.slice a (Zu h 4).length d)).setCell ⟨w.heap.size+1,0,none⟩ (Value.int IntKind.u64 h.base)).setCell ⟨w.heap.size+1,1,none⟩ (Value.int IntKind.i64 h.cap)).setCell ⟨w.heap.size+1,2,none⟩ (Value.int IntKind.i64 h.to)).setCell ⟨w.heap.size+1,3,none⟩ (Value.bool h.cycle)).setCell ⟨w.heap.size+1,4,none⟩ (Value.int IntKind.i64 h.scan)).setCell ⟨w.heap.size+1,5,none⟩ (Value.slice r (Zu h 0).length z)).setCell ⟨w.heap.size+1,6,none⟩ (Value.slice t (Zu h 1).length A)).setCell ⟨w.heap.size+1,7,none⟩ (Value.slice u (Zu h 2).length C)).setCell ⟨w.heap.size+1,8,none⟩ (Value.slice x (Zu h 3).length D)).setCell ⟨w.heap.size+1,9,none⟩ (Value.slice a (Zu h 4).length d)).cell? ⟨w.heap.size+1,9,none⟩=some (Value.slice a (Zu h 4).length d):=ZcD
   have S:∀c,c≠w.heap.size+1->c≠w.heap.size+2->(((((((((((o.setCell ⟨w.heap.size+2,9,none⟩ (Value.slice a (Zu h 4).length d)).setCell ⟨w.heap.size+1,0,none⟩ (Value.int IntKind.u64 h.base)).setCell ⟨w.heap.size+1,1,none⟩ (Value.int IntKind.i64 h.cap)).setCell ⟨w.heap.size+1,2,none⟩ (Value.int IntKind.i64 h.to)).setCell ⟨w.heap.size+1,3,none⟩ (Value.bool h.cycle)).setCell ⟨w.heap.size+1,4,none⟩ (Value.int IntKind.i64 h.scan)).setCell ⟨w.heap.size+1,5,none⟩ (Value.slice r (Zu h 0).length z)).setCell ⟨w.heap.size+1,6,none⟩ (Value.slice t (Zu h 1).length A)).setCell ⟨w.heap.size+1,7,none⟩ (Value.slice u (Zu h 2).length C)).setCell ⟨w.heap.size+1,8,none⟩ (Value.slice x (Zu h 3).length D)).setCell ⟨w.heap.size+1,9,none⟩ (Value.slice a (Zu h 4).length d)).heap[c]?=o.heap[c]? :=λc Y W=>by
    simp[World.setCell,Zep,Y,W,Zfu Y,Zfu W]
   have a4:Below w.heap.size w (((((((((((o.setCell ⟨w.heap.size+2,9,none⟩ (Value.slice a (Zu h 4).length d)).setCell ⟨w.heap.size+1,0,none⟩ (Value.int IntKind.u64 h.base)).setCell ⟨w.heap.size+1,1,none⟩ (Value.int IntKind.i64 h.cap)).setCell ⟨w.heap.size+1,2,none⟩ (Value.int IntKind.i64 h.to)).setCell ⟨w.heap.size+1,3,none⟩ (Value.bool h.cycle)).setCell ⟨w.heap.size+1,4,none⟩ (Value.int IntKind.i64 h.scan)).setCell ⟨w.heap.size+1,5,none⟩ (Value.slice r (Zu h 0).length z)).setCell ⟨w.heap.size+1,6,none⟩ (Value.slice t (Zu h 1).length A)).setCell ⟨w.heap.size+1,7,none⟩ (Value.slice u (Zu h 2).length C)).setCell ⟨w.heap.size+1,8,none⟩ (Value.slice x (Zu h 3).length D)).setCell ⟨w.heap.size+1,9,none⟩ (Value.slice a (Zu h 4).length d)):=by
    refine ZeV (ZeV (ZeV (ZeV (ZeV (ZeV (ZeV (ZeV (ZeV (ZeV (ZeV (I.out.below.grown q a1 Z1) Z1 _) Z1 _) Z1 _) Z1 _) Z1 _) Z1 _) Z1 _) Z1 _) Z1 _) Z1 _) Z1 _
   have H:∀c,(Value.slice a (Zu h 4).length d).ownBlock=some c->wr.heap.size<=c:=by
    intro c N;obtain e|⟨_,e⟩:=L
    ·simp_all
    ·exact(e.lt c N).1
   have hF:HOwn w.heap.size (((((((((((o.setCell ⟨w.heap.size+2,9,none⟩ (Value.slice a (Zu h 4).length d)).setCell ⟨w.heap.size+1,0,none⟩ (Value.int IntKind.u64 h.base)).setCell ⟨w.heap.size+1,1,none⟩ (Value.int IntKind.i64 h.cap)).setCell ⟨w.heap.size+1,2,none⟩ (Value.int IntKind.i64 h.to)).setCell ⟨w.heap.size+1,3,none⟩ (Value.bool h.cycle)).setCell ⟨w.heap.size+1,4,none⟩ (Value.int IntKind.i64 h.scan)).setCell ⟨w.heap.size+1,5,none⟩ (Value.slice r (Zu h 0).length z)).setCell ⟨w.heap.size+1,6,none⟩ (Value.slice t (Zu h 1).length A)).setCell ⟨w.heap.size+1,7,none⟩ (Value.slice u (Zu h 2).length C)).setCell ⟨w.heap.size+1,8,none⟩ (Value.slice x (Zu h 3).length D)).setCell ⟨w.heap.size+1,9,none⟩ (Value.slice a (Zu h 4).length d)) h (λj=>if j=4 then Value.slice a (Zu h 4).length d else xs j):=by
    refine⟨λj hj=> ?_,λi j a5 hj c N=> ?_⟩
    ·by_cases Z:j=4
     ·subst Z;rw[if_pos rfl];exact V3 f λc N=>S c (by have:=H c N;omega) (by have:=H c N;omega)
     ·rw[if_neg Z];have ho:=I.out.own j Z0
      exact V3 ho λc N=>by
       have Y:=I.out.newer j Z0 c N;have W:=(ho.lt c N).2;rw[S c Z0 Z0,q.block c W Z1]
    ·rw[if_neg Z0]at N;by_cases Z:j=4
     ·subst Z;rw[if_pos rfl];intro e;have Y:=H c e;have W:=((I.out.own i Z0).lt c N).2;omega
     ·rw[if_neg Z];exact I.out.apart i j a5 Z0 c N
   clear S H O;go_wp2;refine Zeu (v:=.agg #[.int .u64 h.base,.int .i64 h.cap,.int .i64 h.to,.bool h.cycle,.int .i64 h.scan,.slice r (Zu h 0).length z,.slice t (Zu h 1).length A,.slice u (Zu h 2).length C,.slice x (Zu h 3).length D,.slice a (Zu h 4).length d]) (by simp[results,Tryz.results44,go_sem,z0,z1,z2,z3,z4,z5,z6,z7,z8,z9]) rfl ⟨_,?_,a4,hF⟩;simp_all[Y1]
def Z86(z:Z7)(n:Nat):(Builtin.zeroCells #[z] n).toList=List.replicate n z:=by
 simp[Builtin.zeroCells];apply List.ext_getElem
 ·simp
 ·intro i a d;simp[Nat.mod_one]
def Z6e{P:Z4}{w:Z3}{T tI ty e:Z8}{i:TypeInfo}{z:Z7}{Y:Zl}(W:P.underlying T=some (.slice e))(O:P.underlying tI=some (.int Y))(U:P.info? e=some i)(X:i.zero=some z)
  (H:z.cells=#[z]) (h1:z.oneCell'=true) (hs:i.size=1) (K:i.bytes=8) {B n m:Nat} {v:Z7} {xs:Zk} (l:w.ownsRow B e 1 v n xs) (Z:B<=w.heap.size) (hm:0<m) (a1:n+m<=4294967296) (L:Zl):
  ∃M I,(Builtin.append_ #[T,tI] ty #[v,.int L m]).run P w=.ok M I/\I.ownsRow B e 1 M (n+m) (xs++List.replicate m z)/\w.grownBy I v.ownBlock/\
   (M.ownBlock=v.ownBlock\/(w.grownBy I none/\I.ownsRow w.heap.size e 1 M (n+m) (xs++List.replicate m z))):=by
 have q:xs.length=n:=by have:=l.1;simpa using this
 have f:(xs++List.replicate m z).length=n+m:=by simp[q]
 have N:n+m<=maxLen:=by simp only[maxLen];omega
 have d:∀(a:Nat),a<n+m->∀(row:Option Nat) (J:Za),J=xs.toArray++(List.replicate m z).toArray->
   (w.drew.alloc (.cells (J++Builtin.zeroCells z.cells (grownCap w (n+m) a e- (n+m))) e)).ownsRow w.heap.size e 1
    (.slice (some ⟨w.heap.size,0,none⟩) (n+m) (grownCap w (n+m) a e)) (n+m) (xs++List.replicate m z)/\
   w.grownBy (w.drew.alloc (.cells (J++Builtin.zeroCells z.cells (grownCap w (n+m) a e- (n+m))) e)) row:=by
  rintro a ho row J rfl;have S:=grownCap_ge w (n+m) a e;have x:grownCap w (n+m) a e<=maxLen:=grownCap_le_maxLen w (n+m) a e N;refine⟨⟨ZcL,.inr ⟨w.heap.size,_,_,rfl,Zdp _,ZdO w.drew _,S,x,?_,?_⟩⟩,⟨rfl,rfl,rfl,Z1,λk F _=>Zds w.drew _ k F⟩⟩
  ·simp only[Array.size_append,ZeH,size_zeroCells,H];simp[q];omega
  ·simp only[Array.toList_append,Zei];rw[<-Zei,Zhz,<-f];exact Zgj
 have A:Builtin.zeroCells z.cells m=(List.replicate m z).toArray:=by
  rw[H];apply Array.ext';rw[Z86]
 obtain⟨rfl,rfl⟩|⟨g,cap,h,rfl,Q,hg,a2,x,a0,p⟩:=l.2
 ·have hx:xs=[]:=Zeb q;subst hx;have t:=Lib.run_append_nil_zeros (P:=P) w T tI ty e i z L Y W O U X m hm Z0 Z0 (by rw[K];omega);have D:=d 0 Z0;simp only[Ze7,Zej,Array.empty_append]at D t⊢;rw[A]at t;obtain⟨g1,g2⟩:=D none _ rfl;exact⟨_,_,t,zQ g1 Z,g2,.inr ⟨g2,g1⟩⟩
 ·by_cases o:n+m<=cap
  ·have r:n+(List.replicate m z).length<=h.size:=Zcr;have y:=run_storeCells_at P g n e (List.replicate m z) 0 h w hg (by simpa using r) (by intro v hv;rw[ZgZ hv];exact h1);simp only[Zfq]at y;have hw:IntKind.i64.wrap (m:Int)=m:=by rw[IntKind.wrap_i64];omega
   have G:¬((m:Int)<0):=Z0;have C:¬(281474976710656< (m:Int)*8):=Z0;have F:m≠0:=Z0
   have t:(Builtin.append_ #[T,tI] ty #[.slice (some ⟨g,0,none⟩) n cap,.int L m]).run P w=
     .ok (.slice (some ⟨g,0,none⟩) (n+m) cap) (w.setRow g (h.toList.take n++List.replicate m z++h.toList.drop (n+(List.replicate m z).length)).toArray):=by
    simp[Builtin.append_,Ze6 W,Ze6 O,Go.sizeOf,typeInfo,zeroValue,U,X,asInt,asIntOf,hw,G,hs,K,C,F,o,A,Zf4];simp at y;rw[y];simp
   refine⟨_,_,t,⟨ZcL,.inr ⟨g,cap,_,rfl,Q,Zhy w g h _ e _ hg,o,x,?_,?_⟩⟩,⟨rfl,rfl,rfl,Z1,λk _ F=>Zf7 w g k _ (λe=>F (by simp[Value.ownBlock,e]))⟩,.inl rfl⟩
   ·simp only[ZeH,Ze8,ZeD,Zfi,ZfA];simp at r⊢;omega
   ·rw[Zhz]at p⊢;rw[p,<-f];exact Zgj
  ·have holds:∀j u,xs[j]?=some u->w.cell? ((⟨g,0,none⟩:Addr).add j)=some u:=l.cells (g:=g) rfl;have R:=run_firstCells_some (P:=P) w.drew i.size n ⟨g,0,none⟩ n cap xs (by rw[hs,Zhz];exact q) (by simpa using holds);have t:=Lib.run_append_grow_zeros (P:=P) w T tI ty e i z L Y W O U X (some ⟨g,0,none⟩) n cap xs R m hm Z0 Z0 Z0 (by rw[K];omega) (growslice_fits Z0 (by rw[K];omega));rw[A]at t;obtain⟨g1,g2⟩:=d cap Z0 none _ rfl;obtain⟨_,g3⟩:=d cap Z0 (Value.ownBlock (.slice (some ⟨g,0,none⟩) n cap)) _ rfl;exact⟨_,_,t,zQ g1 Z,g3,.inr ⟨g2,g1⟩⟩
end Vm
end
section
namespace Vm
open Go Go.Proofs
def SY:Prop:=∀(h:Hp) (w:Int),h.ok->ZA w->VC Sol.prog 18 false [ZD h,vu w] (Sq (fwd h w))
def Hp.zero_ok:Hp.zero.ok:=by
 refine⟨?_,?_,?_,?_,?_,?_,?_,?_,?_,?_,?_,?_,?_,?_⟩<;>simp[Hp.zero,ZA,Yv]
def Gm{h:Hp}(d:h.ok){part:Int}{a n:Nat}(o:a+n<=(Zz h part).length)(h2:(n:Int)<=Xu (Zv h))(p:0<n):(Xt h part a n).ok:=by
 have g:ZJ (Zv h)=true:=by
  cases j:ZJ (Zv h)
  ·have:Xu (Zv h)=0:=by unfold Xu;rw[j];rfl
   omega
  ·rfl
 have l:Xu (Zv h)=(Zv h).cap- (Zv h).low- (Zv h).high:=by unfold Xu;rw[g];rfl
 have k:=U0.1 g;have q:(Zv h).low=h.low.length:=rfl;have r:(Zv h).high=h.high.length:=rfl;refine⟨d.base,d.cap,d.to,d.scan,?_,d.high,d.old,d.far,d.roots,?_,d.highW,d.oldW,d.farW,d.rootsW⟩
 ·simp only[Xt,Ze8,Zfi,ZeD];omega
 ·intro w f;simp only[Xt]at f;obtain f|f:=ZdL.1 f
  ·exact d.lowW w f
  ·exact(YZ d part).1 w (Ze4 (ZeA f))
def O5{ws:Ze}{a:Nat}(h:∀w∈ws,ZA w):∀n,∀w∈zr ws a n,ZA w
 |0=>h
 |n+1=>by
  intro w d;obtain d|d:=Zf3 d
  ·exact O5 h n w d
  ·subst d;unfold ZA;omega
def Z13{h:Hp}(f:h.ok){part:Int}{a n:Nat}(g:0<n):(Tv h part a n).2.1.ok/\ZA (Tv h part a n).1:=by
 unfold Tv;split
 ·exact⟨Hp.zero_ok,Zd9⟩
 split
 ·exact⟨Hp.zero_ok,Zd9⟩
 ·rename_i g1 g2;have j:=YZ f part;refine⟨Z7T (Gm f Z0 Z0 g) Zcr ?_,IM⟩;intro w d;obtain d|d:=Zf3 d
  ·exact O5 j.1 _ w d
  ·subst d;exact IM
def Z15{h:Hp}(a:h.ok){w:Int}(j:ZA w):(fwd h w).2.1.ok/\ZA (fwd h w).1:=by
 unfold fwd;split
 ·exact⟨Hp.zero_ok,Zd9⟩
 split
 ·exact⟨a,Zd9⟩
 split
 ·exact⟨Hp.zero_ok,Zd9⟩
 split
 ·exact⟨Hp.zero_ok,Zd9⟩
 split
 ·exact⟨a,j⟩
 split
 ·refine⟨a,?_⟩;generalize (Yc (Zv h) (adr w).1).2.1.toNat=k;have g:=(YZ a (Yc (Zv h) (adr w).1).1).1;generalize Zz h (Yc (Zv h) (adr w).1).1=d at*;by_cases f:k<d.length
  ·have e:d.getD k 0=d[k]:=by simp[List.getD,f]
   simp only[e];exact g _ (ZdA f)
  ·have e:d.getD k 0=0:=by simp[List.getD,f]
   simp only[e];unfold ZA;omega
 split
 ·exact⟨Hp.zero_ok,Zd9⟩
 ·exact Z13 a Z0
def Z1j{x:Rw}(hx:x.ok):(Uu x).ok/\ZJ (Zv (Uu x))=true/\(Uu x).roots.length<=5:=by
 have key:∀c,(Yw x (Yx x c)).ok/\ZJ (Zv (Yw x (Yx x c)))=true/\(Yw x (Yx x c)).roots.length<=5:=λc=>by
  obtain⟨a,d,f⟩:=KQ hx c;obtain⟨k1,g,_,_⟩:=Ef (x:=x) a d;refine⟨k1,by rw[g];exact f,?_⟩;simp only[Yw,Ze9];exact a.rl
 unfold Uu Cc;split
 ·exact key false
 ·exact key true
def Z58{h:Hp}{part k:Int}:ZA (TS h part k):=by
 unfold TS;split
 ·simp[ZA]
 ·have:= @D7 (Zv h) part ((Xx h part).1.getD (pick k (Xx h part).1.length).toNat default).at_;unfold ZA;omega
end Vm
end
section
namespace Vm
open Go Go.Proofs Go.RowKit
section
def Qi:V->Value
 |.int k n=>.int k n
 |.bool b=>.bool b
 |_=>undef
def UU:V->Bool
 |.int _ _=>true
 |.bool _=>true
 |_=>false
def Si:V->Value
 |.agg a=>.agg (a.map Qi).toArray
 |x=>Qi x
def UV:V->Bool
 |.agg a=>a.all UU
 |x=>UU x
def qP:V->Value
 |.tup l=>.tuple (l.map Si).toArray
 |x=>Si x
def LB:V->Bool
 |.tup l=>l.all UV
 |x=>UV x
variable {w:Z3}{G:Z6}
def Z5t{x:V}(h:UU x=true):Rd w G x (Qi x):=by
 cases x<;>simp[UU]at h
 ·exact .int _ _
 ·exact .bool _
def Z5u{x:V}(h:UV x=true):Rd w G x (Si x):=by
 cases x with
 |agg d=>
  simp only[UV,Zdu]at h;refine .agg _ _ Z1 (λc a=> ?_) λi c a=> ?_
  ·have:=h c a;cases c<;>simp[UU]at this<;>rfl
  ·have f:=Z5t (w:=w) (G:=G) (h c (Zdr a))
   have:((d.map Qi).toArray).getD i undef=Qi c:=by
    obtain⟨g,rfl⟩:=Zdl.1 a;simp[Array.getD,g]
   rw[this];exact f
 |int k n=>exact .int _ _
 |bool b=>exact .bool _
 |_=>simp[UV,UU]at h
def Z0q{x:V}{v:Z7}(h:UU x=true)(r:Rd w G x v):v=Qi x:=by
 cases x<;>simp[UU]at h
 ·cases r;rfl
 ·cases r;rfl
def DP{x:V}{v:Z7}(h:UV x=true)(r:Rd w G x v):v=Si x:=by
 cases x with
 |agg a=>
  simp only[UV,Zdu]at h;cases r with
  |agg _ vs j _ l=>
   simp only[Si,Value.agg.injEq];apply ZgX
   ·simpa using j
   ·intro i f o;have d:i<a.length:=Z0;have g:a[i]?=some a[i]:=Zdk d;have:=Z0q (h _ (ZdA d)) (l i _ g);simp[Array.getD,f]at this;simpa using this
 |int k n=>cases r;rfl
 |bool b=>cases r;rfl
 |_=>simp[UV,UU]at h
def DQ{x:V}{v:Z7}(h:LB x=true)(r:Rd w G x v):v=qP x:=by
 cases x with
 |tup a=>
  simp only[LB,Zdu]at h;cases r with
  |tup _ vs j l=>
   simp only[qP,Value.tuple.injEq];apply ZgX
   ·simpa using j
   ·intro i f o;have d:i<a.length:=Z0;have g:a[i]?=some a[i]:=Zdk d;have:=DP (h _ (ZdA d)) (l i _ g);simp[Array.getD,f]at this;simpa using this
 |agg a=>exact DP (x:=.agg a) h r
 |int k n=>cases r;rfl
 |bool b=>cases r;rfl
 |_=>simp[LB,UV,UU]at h
def Tq{P:Z4}{f:Zn}{fr:Bool}{args:Zp}{r:V}(h:VC P f fr args r)(a:args.all UV=true)(k:LB r=true)(w:Z3):
  Calls P f (args.map Si).toArray w λe g=>e=.returned (qP r)/\Below w.heap.size w g:=by
 simp only[Zdu]at a;refine ZgY (h.2 w (λ_=>False) _ Z1 Z1 ?_) ?_
 ·intro i x n;obtain⟨d,rfl⟩:=Zdl.1 n;have:((args.map Si).toArray).getD i undef=Si args[i]:=by simp[Array.getD,d]
  rw[this];exact Z5u (a _ (ZdA d))
 ·rintro e g ⟨v,rfl,j,l⟩;exact⟨by rw[DQ k l],j⟩
def Vg(l:Ly):Value:=.agg #[.int .u64 l.base,.int .i64 l.cap,.int .i64 l.to,.int .i64 l.low,.int .i64 l.high,.int .i64 l.old,.int .i64 l.far]
def RM{l:Ly}(a:l.fits)(w:Z3):Calls Sol.prog 43 #[Vg l] w λe d=>e=.returned (.bool (ZJ l))/\Below w.heap.size w d:=
 Tq (Kz a) rfl rfl w
def Mq{l:Ly}(a:l.fits)(w:Z3):Calls Sol.prog 48 #[Vg l] w λe d=>e=.returned (.int .i64 (Xu l))/\Below w.heap.size w d:=
 Tq (Z60 a) rfl rfl w
def D5{l:Ly}(a:l.fits)(part at_:Int)(w:Z3):Calls Sol.prog 57 #[Vg l,.agg #[.int .i64 part,.int .i64 at_]] w λe d=>e=.returned (.tuple #[.int .u64 (ZW l part at_).1,.int .i64 (ZW l part at_).2])/\Below w.heap.size w d:=
 Tq (D6 a) rfl rfl w
def Lx{l:Ly}(f:l.fits){a:Int}(d:ZA a)(w:Z3):Calls Sol.prog 45 #[Vg l,.int .u64 a] w λe g=>e=.returned (.tuple #[.agg #[.int .i64 (Yc l a).1,.int .i64 (Yc l a).2.1],.int .i64 (Yc l a).2.2])/\Below w.heap.size w g:=
 Tq (Z0M f d) rfl rfl w
def VK{x:Int}(hx:ZA x)(w:Z3):Calls Sol.prog 29 #[.int .u64 x] w λe a=>e=.returned (.tuple #[.int .u64 (adr x).1,.int .i64 (adr x).2])/\Below w.heap.size w a:=
 Tq (Jg hx) rfl rfl w
def Z59{x:Int}(hx:ZA x)(w:Z3):Calls Sol.prog 79 #[.int .u64 x] w λe a=>e=.returned (.tuple #[.int .u64 (XJ x).1,.int .i64 (XJ x).2])/\Below w.heap.size w a:=
 Tq (Z5b hx) rfl rfl w
def KV{x:Int}(hx:ZA x)(w:Z3):Calls Sol.prog 47 #[.int .u64 x] w λe a=>e=.returned (.tuple #[.agg #[.int .i64 (ZO x).1,.int .i64 (ZO x).2.1],.int .i64 (ZO x).2.2])/\Below w.heap.size w a:=
 Tq (Nv hx) rfl rfl w
def Tm{h:Hp}{x:Zh}(g:∀b,G b->b<w.heap.size)(d:∀j,j<5->Rd w G (.sl ((Zu h j).map vu)) (x j)):
  Calls Sol.prog 42 #[Y1 h x] w λe f=>e=.returned (Vg (Zv h))/\Below w.heap.size w f:=by
 refine ZgY ((CQ (h:=h)).2 w G _ g rfl ?_) ?_
 ·intro i y a
  match i,a with
  |0,a=>
   cases a;refine .agg _ _ rfl (by simp[V.one]) ?_;intro i y a
   match i,a with
   |0,a=>cases a;exact .int _ _
   |1,a=>cases a;exact .int _ _
   |2,a=>cases a;exact .int _ _
   |3,a=>cases a;exact .bool _
   |4,a=>cases a;exact .int _ _
   |5,a=>cases a;exact d 0 Z0
   |6,a=>cases a;exact d 1 Z0
   |7,a=>cases a;exact d 2 Z0
   |8,a=>cases a;exact d 3 Z0
   |9,a=>cases a;exact d 4 Z0
 ·rintro e f ⟨v,rfl,k,l⟩;exact⟨by rw[DQ Zdf l];rfl,k⟩
end
end Vm
end
