import Derived.ProofKit
import Derived.OpenShut
import Derived.Conc.SmallLaws
import Derived.RangeFuncNested
import Derived.RangeFuncBound
import Derived.WalkSpells
import Derived.WalkLawsBesides
import Derived.StillTailTactics
import Derived.Deep.RegionHeld3
import Derived.Deep.AppendLies
import Derived.Deep.Onto
import Derived.Deep.OwnRows
import Derived.Lib.Hide
import Derived.Lib.AppendZerosOnto
import Derived.Laws.CopyOwn
import Derived.Test.YtffknkhabklijaaSViewScalars4
set_option linter.unusedSimpArgs false
set_option linter.unusedVariables false
set_option linter.defProp false
set_option maxHeartbeats 4000000
set_option maxRecDepth 100000
theorem Z3Y{p:Prop}(h:p:=by simp[lim];omega):p:=h
theorem Z45{p:Prop}(h:p:=by unfold sizN at hfit;omega):p:=h
def Z5Z:=@List.append_nil
def Z87:=@Go.IntKind.wrap_u64
def Z5p:=@Int.tmod_eq_emod_of_nonneg
def Z7N:=@Int.tdiv_eq_ediv_of_nonneg
def Z7M:=@Int.fdiv_eq_ediv_of_nonneg
def Z5n:=@List.take_add_one
def Z8o:=@Int.emod_nonneg
def Z7R:=@Int.emod_lt_of_pos
def Z8u:=@List.set_append_right
def Z5r:=@List.drop_eq_getElem_cons
def Z5A:=@List.append_assoc
def Z6f:=@List.map_set
def Z6t:=@List.take_append_drop
def Z8p:=@List.all_append
def Z6A:=@List.all_eq_false
def Z7a:=@List.length_pos_iff
def Z74:=@List.getElem?_eq_none_iff
def Z7f:=@List.findIdx?_cons
def Z7I:=@List.find?_cons
def Z7L:=@decide_true
def Z7e:=@Bool.true_eq_false
def Z5l:=@List.findIdx?_eq_some_iff_getElem
def Z81:=@List.getElem?_set
def Z7K:=@List.take_succ_cons
def Z5V:=@List.length_eq_zero_iff
def Z5u:=@Decidable.byContradiction
def Z5S:=@List.pairwise_cons
def Z8F:=@decide_false
def Z6X:=@Bool.false_or
def Z8l:=@Bool.eq_iff_iff
def Z7H:=@Go.grownBy_putObj'
def Z5E:=@Go.World.putObj_heap_other
def Z7Y:=@Array.ext
section
namespace Vm
open Go
open Go.Proofs
def sig(f:FuncId):Option (List OT):=
 if f=102 then some [.fz,.mem [.own 97],.mem [.own 3]]else
 if f=50 then some [.fz,.mem [.fz,.fz]]else
 if f=80 then some [.fz,.own 97]else
 if f=47 then some [.fz,.own 97]else
 if f=121 then some [.mem [.fz,.fz,.fz,.fz,.fz,.fz,.fz,.fz,.fz,.fz,.fz,.fz,.fz,.fz,.fz,.fz,.fz,.fz,.fz,.fz,.fz,.own 84,.own 115],.fz,.fz]else
 if f=105 then some [.mem [.fz,.fz,.fz,.fz,.fz,.fz,.fz,.fz,.fz,.fz,.fz,.fz,.fz,.fz,.fz,.fz,.fz,.fz,.fz,.fz,.fz,.own 84,.own 115]]else
 if f=1000101 then some [.mem [.fz,.fz,.fz,.fz,.fz,.fz,.fz,.fz,.fz,.fz,.fz,.fz,.fz,.fz,.fz,.fz,.fz,.fz,.fz,.fz,.fz,.own 84,.own 115]]else
 none
@[simp] def pI(n:Int):E:=.c (.int .i64 n)
@[simp] def pU(n:Int):E:=.c (.int .u64 n)
@[simp] def pF:E:=.c (.bool false)
@[simp] def pT:E:=.c (.bool true)
@[simp] def pN:E:=.c (.sl [])
@[simp] def pG(e:E):Nat->Nat->List E
 |_,0=>[]
 |i,n+1=>.fld e i::pG e (i+1) n
@[simp] def pS(a n:Nat):OV:=.m (pG (.sz (.s a) n) 0 n)
@[simp] def pM(e:E)(n:Nat):OV:=.m (pG e 0 n)
@[simp] def pY:E:=.ag [pU 0,pI 0,pI 0,pF,pI 0,pN,pN,pN,pN,pN]
@[simp] def pZ:OV:=.m [pU 0,pI 0,pI 0,pF,pI 0,pN,pN,pN,pN,pN]
@[simp] def pR(l:List (Nat×OV)):Stm:=.reg ⟨[],[],l⟩
@[simp] def pC(e:List EF)(l:List (Nat×OV)):Stm:=.reg ⟨e,[],l⟩
@[simp] def pV(t:Nat)(e:E):Nat×OV:=(t,.v e)
@[simp] def pK(t f:Nat)(l:List E):EF:=.call t [] (.id f) false false l
@[simp] def pQ:List Stm->Stm->Stm
 | [],z=>z
 |a::l,z=>.seq a (pQ l z)
def fresh(f:FuncId):Bool:=f==81||f==117||f==119
def follows:Sol.prog.follows .mixedOrders=true:=Z2
section
def MW(x:Option V)(A B:Prop):Prop:=
 match x with
 |some (.bool true)=>A
 |some (.bool false)=>B
 |_=>False
@[simp]def Ov(b:Bool)(A B:Prop):MW (some (.bool b)) A B↔if b=true then A else B:=by cases b<;>simp[MW]
def onO{α:Type}(x:Option α)(K:α->Prop):Prop:=
 match x with
 |some x=>K x
 |none=>False
@[simp]def Z1u{α:Type}(x:α)(K:α->Prop):onO (some x) K↔K x:=Z6m
@[simp]def Z1t{α:Type}(K:α->Prop):onO none K↔False:=Z6m
@[simp]def Z2d{α β:Type}(f:α->β)(x:Option α)(K:β->Prop):onO (x.map f) K↔onO x (λy=>K (f y)):=by cases x<;>rfl
@[simp]def Z1s{α β:Type}(f:α->Option β)(x:Option α)(K:β->Prop):onO (x.bind f) K↔onO x (λy=>onO (f y) K):=by cases x<;>rfl
@[simp]def Z2c{α:Type}(p:Prop) [Decidable p](x y:Option α)(K:α->Prop):onO (if p then x else y) K↔if p then onO x K else onO y K:=by split<;>rfl
def zD(P:Program) [Lg P](f:FuncId)(fr fl:Bool)(xs:List V)(K:V->Prop):Prop:=∃r,VC P f fr xs r/\(fl=true->flV r=some r)/\K r
def Z4{P:Program} [Lg P]{f:FuncId}{fr fl:Bool}{xs:List V}{K:V->Prop}{r:V}(h:VC P f fr xs r)(hf:fl=true->flV r=some r)(hK:K r):zD P f fr fl xs K:=⟨r,h,hf,hK⟩
def AL(P:Program) [Lg P](f:FuncId)(ks:List OT)(xs:List V)(K:V->Prop):Prop:=∃R,VCM P f ks xs R/\K R
def ZP{P:Program} [Lg P]{f:FuncId}{ks:List OT}{xs:List V}{K:V->Prop}{R:V}(h:VCM P f ks xs R)(hK:K R):AL P f ks xs K:=⟨R,h,hK⟩
def kS(P:Program) [Lg P](b:Stm)(N:St->Prop)(X:Nat->St->Prop)(R:St->Prop)(s:St):Prop:=wpS P b s N X R
def xB(id:Nat)(N:St->Prop)(X:Nat->St->Prop)(i:Nat)(s:St):Prop:=if i=id then N s else X i s
def kR(chks:List (Zg×E))(outs:List (Nat×OV))(K:St->Prop)(t:St):Prop:=wpC t chks/\wpO outs t t K
def kO(l:List (Nat×OV))(t u:St)(i:Nat)(K:St->Prop)(x:SV):Prop:=wpO l t (putS u i x) K
def kL(P:Program) [Lg P](l:List EF)(s:St)(i:Nat)(K:St->Prop)(x:V):Prop:=wpE P l (putS s i (.v x)) K
def kA(P:Program) [Lg P](f:FuncId)(fr fl:Bool)(K:V->Prop)(xs:List V):Prop:=zD P f fr fl xs K
def kAE(P:Program) [Lg P](fr fl:Bool)(K:V->Prop)(xs:List V)(v:V):Prop:=onO (cloV v) λn=>zD P n.1 fr fl (xs++n.2) K
def kAF(P:Program) [Lg P](x:Option V)(fr fl:Bool)(K:V->Prop)(xs:List V):Prop:=onO x (kAE P fr fl K xs)
def kAM(P:Program) [Lg P](f:Option FuncId)(ks:List OT)(K:V->Prop)(xs:List V):Prop:=onO f λn=>AL P n ks xs K
def kW(P:Program) [Lg P](l:List EF)(s:St)(i:Nat)(K:St->Prop)(os:List V):Prop:=if os=[]then wpE P l s K else wpE P l (putS s i (.v (.tup (.bool false::os)))) K
def kT(_:V):Prop:=True
section
variable {P:Program}[Lg P]{N R:St->Prop}{X:Nat->St->Prop}{K:St->Prop}{s t u:St}
@[simp]def Z3C(b:Stm):kS P b N X R s↔wpS P b s N X R:=Z6m
@[simp]def Z2T(id:Nat):xB id N X id s↔N s:=by simp[xB]
def Ux(id i:Nat):xB id N X i s↔if i=id then N s else X i s:=Z6m
@[simp]def Z3K{id i:Nat}(h:i≠id):xB id N X i s↔X i s:=by simp[xB,h]
@[simp]def Z3B(chks:List (Zg×E))(outs:List (Nat×OV)):kR chks outs K t↔wpC t chks/\wpO outs t t K:=Z6m
@[simp]def Z3A(l:List (Nat×OV))(i:Nat)(x:SV):kO l t u i K x↔wpO l t (putS u i x) K:=Z6m
@[simp]def Z3z(l:List EF)(i:Nat)(x:V):kL P l s i K x↔wpE P l (putS s i (.v x)) K:=Z6m
@[simp]def Z3y(f:FuncId)(fr fl:Bool)(K:V->Prop)(xs:List V):kA P f fr fl K xs↔zD P f fr fl xs K:=Z6m
@[simp]def Z1m(v:V)(fr fl:Bool)(K:V->Prop)(xs:List V):kAF P (some v) fr fl K xs↔kAE P fr fl K xs v:=Z6m
@[simp]def Z3d(f:FuncId)(fr fl:Bool)(K:V->Prop)(xs:List V):kAE P fr fl K xs (.fn f)↔zD P f fr fl xs K:=by simp[kAE,cloV]
@[simp]def Z25(f:FuncId)(cs:List V)(fr fl:Bool)(K:V->Prop)(xs:List V):kAE P fr fl K xs (.clo f cs)↔zD P f fr fl (xs++cs) K:=by simp[kAE,cloV]
@[simp]def Z1n(f:FuncId)(ks:List OT)(K:V->Prop)(xs:List V):kAM P (some f) ks K xs↔AL P f ks xs K:=Z6m
@[simp]def Z3e(l:List EF)(i:Nat):kW P l s i K []↔wpE P l s K:=by simp[kW]
@[simp]def Z26(l:List EF)(i:Nat)(x:V)(os:List V):kW P l s i K (x::os)↔wpE P l (putS s i (.v (.tup (.bool false::x::os)))) K:=by simp[kW]
@[simp]def Z3D(x:V):kT x↔True:=Z6m
@[simp]def Z2Q(r:Reg):wpS P (.reg r) s N X R↔wpR P r s N:=Z6m
@[simp]def Z1H:wpS P .skip s N X R↔N s:=Z6m
@[simp]def Z2S(a b:Stm):wpS P (.seq a b) s N X R↔wpS P a s (kS P b N X R) X R:=Z6m
@[simp]def Z1F(c:E)(a b:Stm):wpS P (.cond c a b) s N X R↔MW (eval s c) (wpS P a s N X R) (wpS P b s N X R):=by
 rfl
@[simp]def Z0T(id:Nat)(a:Stm):wpS P (.block id a) s N X R↔wpS P a s N (xB id N X) R:=Z6m
@[simp]def Z1G(id:Nat):wpS P (.exit id) s N X R↔X id s:=Z6m
@[simp]def Z2R:wpS P .ret s N X R↔R s:=Z6m
def Yp{keep:List Nat}{a:Stm}(I:St->Prop)(μ:St->Nat)(h0:I (Yj keep s))(h1:∀s,I s->wpS P a s (λs'=>I (Yj keep s')/\μ (Yj keep s')<μ s) X R):wpS P (.loop keep a) s N X R:=⟨I,μ,h0,h1⟩
@[simp]def Z3q(efs:List EF)(chks:List (Zg×E))(outs:List (Nat×OV)):wpR P ⟨efs,chks,outs⟩ s K↔wpE P efs s (kR chks outs K):=Z6m
@[simp]def Z2P:wpO [] t u K↔K u:=Z6m
@[simp]def Z1E(i:Nat)(o:OV)(l:List (Nat×OV)):wpO ((i,o)::l) t u K↔onO (ovV t o) (kO l t u i K):=by
 simp only[wpO,onO,kO];cases ovV t o<;>rfl
@[simp]def Z2N:wpC t []↔True:=Z6m
@[simp]def Z1C(C:Zg)(e:E)(l:List (Zg×E)):wpC t ((C,e)::l)↔(Wf t C=true->onO (eval t e) kT)/\wpC t l:=by
 simp only[wpC,onO,kT];cases eval t e<;>simp
@[simp]def Z2O:wpE P [] s K↔K s:=Z6m
@[simp]def Z3p(i:Nat)(C:Zg)(e:E)(l:List EF):wpE P (.lt i C e::l) s K↔if Wf s C=true then onO (eval s e) (kL P l s i K)else wpE P l s K:=by
 simp only[wpE,onO,kL];cases eval s e<;>rfl
@[simp]def Z1D(i:Nat)(C:Zg)(f:FuncId)(fr fl:Bool)(es:List E)(l:List EF):wpE P (.call i C (.id f) fr fl es::l) s K↔if Wf s C=true then onO (Yg s es) (kA P f fr fl (kL P l s i K))else wpE P l s K:=by
 simp only[wpE,onO,kA,zD,kL,fnV];cases Yg s es<;>simp
@[simp]def Z0R(i:Nat)(C:Zg)(x:E)(fr fl:Bool)(es:List E)(l:List EF):wpE P (.call i C (.e x) fr fl es::l) s K↔if Wf s C=true then onO (Yg s es) (kAF P (eval s x) fr fl (kL P l s i K))else wpE P l s K:=by
 simp only[wpE,onO,kAF,kAE,zD,kL,fnV];cases Yg s es with
 |none=>simp
 |some xs=>
  cases eval s x with
  |none=>simp
  |some v=>cases hv:cloV v<;>simp[hv]
@[simp]def Z0S(i:Nat)(C:Zg)(f:FN)(ks:List OT)(es:List E)(l:List EF):wpE P (.callm i C f ks es::l) s K↔
  if Wf s C=true then onO (Yg s es) (kAM P (fnOf s f) ks (kL P l s i K))
  else onO (oldV s ks es) (kW P l s i K):=by
 simp only[wpE,onO,AL,kAM,kL,kW];split
 ·cases Yg s es<;>cases fnOf s f<;>simp
 ·cases oldV s ks es with
  |none=>simp
  |some os=>cases os<;>simp
@[simp]def Z3H(e:E):ovV t (.v e)=(eval t e).map .v:=rfl
@[simp]def Z3G(l:List E):ovV t (.m l)=(Yg t l).map .m:=rfl
@[simp]def Z3k:ovV t .no=some .no:=rfl
@[simp]def Ow:Wf s []=true:=rfl
def js(i:Nat)(b:Bool)(C:Zg):Wf s ((i,b)::C)=((match get s i with|.v (.bool c)=>c==b|_=>false)&&Wf s C):=rfl
end
@[simp]def Z1k(x:SV)(s:St):get (x::s) 0=x:=rfl
@[simp]def Z1j(x:SV)(s:St)(n:Nat):get (x::s) (n+1)=get s n:=by simp[get]
@[simp]def Z0k(x y:SV)(s:St):putS (y::s) 0 x=x::s:=rfl
@[simp]def Z0j(x y:SV)(s:St)(n:Nat):putS (y::s) (n+1) x=y::putS s n x:=rfl
@[simp]def Ik(x:SV):putS [] 0 x=[x]:=rfl
@[simp]def Ij(x:SV)(n:Nat):putS [] (n+1) x=.no::putS [] n x:=rfl
@[simp]def Z02(s:St):Yj [] s=[]:=rfl
@[simp]def Ox(i:Nat)(l:List Nat)(s:St):Yj (i::l) s=putS (Yj l s) i (get s i):=rfl
attribute [simp] ptV eval Yg js resV Jl TO finV Qw Xd CI argS JL fnOf oldV
section
variable {k:IntKind}{a b:Int}{x y:V}{l r:List V}
@[simp]def Z0W:binV .add (.int k a) (.int k b)=some (.int k (k.wrap (a+b))):=by simp[binV]
@[simp]def Z16:binV .sub (.int k a) (.int k b)=some (.int k (k.wrap (a-b))):=by simp[binV]
@[simp]def Z12:binV .mul (.int k a) (.int k b)=some (.int k (k.wrap (a*b))):=by simp[binV]
@[simp]def Z14:binV .quo (.int k a) (.int k b)=if b≠0 then some (.int k (k.wrap (a.tdiv b)))else none:=by simp[binV]
@[simp]def Z15:binV .rem (.int k a) (.int k b)=if b≠0 then some (.int k (a.tmod b))else none:=by simp[binV]
@[simp]def Z0X:binV .eql (.int k a) (.int k b)=some (.bool (decide (a=b))):=by simp[binV];rfl
@[simp]def Z13:binV .neq (.int k a) (.int k b)=some (.bool (!decide (a=b))):=by simp[binV];rfl
@[simp]def Z11:binV .lss (.int k a) (.int k b)=some (.bool (decide (a<b))):=by simp[binV]
@[simp]def Z10:binV .leq (.int k a) (.int k b)=some (.bool (decide (a<=b))):=by simp[binV]
@[simp]def Z0Z:binV .gtr (.int k a) (.int k b)=some (.bool (decide (b<a))):=by simp[binV]
@[simp]def Z0Y:binV .geq (.int k a) (.int k b)=some (.bool (decide (b<=a))):=by simp[binV]
@[simp]def Z1d(p q n:Bool):eqV n (.bool p) (.bool q)=some (.bool (n ^^ (p==q))):=rfl
@[simp]def Z2K:unV .neg (.int k a)=some (.int k (k.wrap (0-a))):=rfl
@[simp]def Z2L(p:Bool):unV .not (.bool p)=some (.bool !p):=rfl
@[simp]def P8(k':IntKind):Cf k' (.int k a)=some (.int k' (k'.wrap a)):=rfl
@[simp]def Z27:lenV (.sl l)=some (.int .i64 l.length):=rfl
@[simp]def Z1r(id:Nat)(vs:List V):yK (.mp id l vs)=some (.int .i64 l.length):=rfl
@[simp]def Z1p(id:Nat)(vs:List V):F9 (.mp id l vs)=some (.mp id [] []):=rfl
@[simp]def Z1q:minV (.int k a) (.int k b)=some (.int k (if b<a then b else a)):=rfl
@[simp]def Z1o:maxV (.int k a) (.int k b)=some (.int k (if b>a then b else a)):=rfl
@[simp]def Z1e(i:Nat):extV (.tup l) i=l[i]? :=rfl
@[simp]def Z1l(i n:Nat):idxV (.sl l) (.int k (i:Int)) n=(l[i]?).bind λz=>if z.cells.length=n then some z else none:=by simp[idxV]
@[simp]def P4:(V.int k a).cells=[V.int k a]:=rfl
@[simp]def Ou(p:Bool):(V.bool p).cells=[V.bool p]:=rfl
@[simp]def P5(s:ByteArray):(V.str s).cells=[V.str s]:=rfl
@[simp]def Z1a:(V.sl l).cells=[V.sl l]:=rfl
@[simp]def P3:(V.agg l).cells=l:=rfl
@[simp]def Z19(id:Nat):(V.mp id l r).cells=[V.mp id l r]:=rfl
@[simp]def Z18(f:FuncId):(V.fn f).cells=[V.fn f]:=rfl
@[simp]def Z2l:(V.int k a).one=true:=rfl
@[simp]def Z1A(p:Bool):(V.bool p).one=true:=rfl
@[simp]def Z3j:(V.sl l).one=true:=rfl
@[simp]def Z3i(id:Nat):(V.mp id l r).one=true:=rfl
@[simp]def Z3h(f:FuncId):(V.fn f).one=true:=rfl
@[simp]def Z2i:(V.agg l).one=false:=rfl
@[simp]def Z1x:oneV (.int k a)=some (.int k a):=rfl
@[simp]def Z01(p:Bool):oneV (.bool p)=some (.bool p):=rfl
@[simp]def Z1z(s:ByteArray):oneV (.str s)=some (.str s):=rfl
@[simp]def Z2h:oneV (.sl l)=some (.sl l):=rfl
@[simp]def Z2g(id:Nat):oneV (.mp id l r)=some (.mp id l r):=rfl
@[simp]def Z2f(f:FuncId):oneV (.fn f)=some (.fn f):=rfl
@[simp]def Z1f(o:Nat):fldV (.agg l) o=(l[o]?).bind oneV:=rfl
@[simp]def Z1h:fldV (.int k a) 0=some (.int k a):=rfl
@[simp]def Pq(p:Bool):fldV (.bool p) 0=some (.bool p):=rfl
@[simp]def Z21:fldV (.sl l) 0=some (.sl l):=rfl
@[simp]def Z1i(s:ByteArray):fldV (.str s) 0=some (.str s):=rfl
@[simp]def f5(o n:Nat):Ry (.agg l) o n=if o+n<=l.length then some (.agg ((l.drop o).take n))else none:=rfl
@[simp]def Z2x(n:Nat):szV (.agg l) n=if l.length=n then some (.agg l)else none:=rfl
@[simp]def l5:jH (.agg l)=some (.agg l):=rfl
@[simp]def Z0I:Jx (.ptr l)=some (.agg l):=rfl
@[simp]def l6(p:Bool)(A B:Option V):iteV (.bool p) A B=if p=true then A else B:=by cases p<;>rfl
@[simp]def Z2V:agV l=.agg (flat l):=rfl
@[simp]def Ci:flat (x::l)=x.cells++flat l:=rfl
@[simp]def Pf:flat []=[]:=rfl
@[simp]def Z1K(n:Nat):appV n (.sl l) (.sl r)=if l.length+r.length<=lim/\Ya n r=true then some (.sl (l++r))else none:=rfl
@[simp]def OD(n:Nat):Ya n []=true:=rfl
@[simp]def Oa(n:Nat):Ya n (x::l)=(x.cells.length==n&&Ya n l):=rfl
def XM{α:Type}{f:α->V}{n:Nat}{l:List α}(h:∀x,(f x).cells.length=n):Ya n (l.map f)=true:=by
 simp[Ya,h]
@[simp]def TY(l:List Int):Ya 1 (l.map (V.int k))=true:=XM λ_=>rfl
@[simp]def Z28(n:Nat):mkV x (.int k (n:Int))=if n<=lim then some (.sl (List.replicate n x))else none:=by
 simp only[mkV];have:((n:Int)<=(lim:Nat))↔n<=lim:=Z0;simp[this]
@[simp]def IB(i j n:Nat):slcV n (.sl l) (.int k (i:Int)) (.int k (j:Int))=if i<=j/\j<=l.length/\Ya n l=true then some (.sl ((l.take j).drop i))else none:=by
 simp[slcV]
@[simp]def Z0F(i n:Nat):At n (.sl l) (.int k (i:Int))=if i<=l.length/\Ya n l=true then some (.sl (l.drop i))else none:=by
 simp[At]
@[simp]def Z1B(i o:Nat):updV (.sl l) (.int k (i:Int)) o y=(l[i]?).bind λz=>if o+y.cells.length<=z.cells.length/\y.cells≠[]then some (.sl (l.set i (z.put o y.cells)))else none:=by
 simp[updV]
end
abbrev vi(n:Int):V:=.int .i64 n
abbrev vu(n:Int):V:=.int .u64 n
@[simp]def Z29(n:Nat):((n:Int)<0)↔False:=⟨λh=>absurd h (by omega),False.elim⟩
def Z7(n:Int)(h1: -9223372036854775808<=n)(h2:n<=9223372036854775807):IntKind.i64.wrap n=n:=by
 rw[IntKind.wrap_i64];omega
end
end Vm
end
section
namespace Vm
open Go Go.ChangeShapes Go.WideShapes Go.ChangeAt Go.RowKit
section
def zW(P:Program)(n:Nat):List Field->Nat->Bool
 | [],o=>o==n
 |f::l,o=>f.offset==o&&zW P n l (o+P.cellsOf f.type)
def okTy(P:Program):Nat->TypeId->Bool
 |0,_=>false
 |n+1,t=>match P.underlying t with
  |some .bool|some (.int _)|some .string=>true
  |some (.slice e)=>okTy P n e&&decide (0<P.cellsOf e)
  |some (.struct fs)=>zW P (P.cellsOf t) fs.toList 0&&fs.toList.all λf=>okTy P n f.type
  |some (.array m e)=>okTy P n e&&m*P.cellsOf e==P.cellsOf t
  |_=>false
def tyV(P:Program):Nat->TypeId->V->Prop
 |0,_,_=>False
 |n+1,t,x=>match P.underlying t with
  |some .bool=>∃b,x=.bool b
  |some (.int k)=>∃m,x=.int k m/\(Lit.int k m).wf=true
  |some .string=>∃s,x=.str s/\s.size<=maxLen
  |some (.slice e)=>∃l,x=.sl l/\l.length<=maxLen/\∀y∈l,tyV P n e y
  |some (.struct fs)=>∃ys,x=.agg (flat ys)/\ys.length=fs.toList.length/\∀(i:Nat) (f:Field) (y:V),fs.toList[i]?=some f->ys[i]?=some y->tyV P n f.type y
  |some (.array m e)=>∃ys,x=.agg (flat ys)/\ys.length=m/\∀y∈ys,tyV P n e y
  |_=>False
def RdC(w:World)(G:Nat->Prop)(cs:List V)(vs:List Value):Prop:=
 vs.length=cs.length/\∀(i:Nat) (c:V),cs[i]?=some c->c.one=true/\∃u,vs[i]?=some u/\Rd w G c u
def RdC.nil{w:World}{G:Nat->Prop}:RdC w G [] []:=⟨rfl,λi c h=>Z4q⟩
def RdC.append{w:World}{G:Nat->Prop}{cs cs':List V}{vs vs':List Value}(h:RdC w G cs vs)(h':RdC w G cs' vs'):RdC w G (cs++cs') (vs++vs'):=by
 refine⟨by simp[h.1,h'.1],λi c hi=> ?_⟩;rw[List.getElem?_append]at hi⊢;rw[h.1];split at hi
 ·rename_i hlt;rw[if_pos hlt];exact h.2 i c hi
 ·rename_i hlt;rw[if_neg hlt];exact h'.2 _ c hi
theorem RdC.one{w:World}{G:Nat->Prop}{c:V}{v:Value}(h1:c.one=true)(h:Rd w G c v):RdC w G [c] [v]:=
 ⟨rfl,λi x hi=>by
  grind⟩
def WU{α:Type}{Q:Nat->α->Prop}:∀(n:Nat),(∀i,i<n->∃y,Q i y)->∃l:List α,l.length=n/\∀(i:Nat) (y:α),l[i]?=some y->Q i y
 |0,_=>⟨[],rfl,λi y h=>Z4q⟩
 |n+1,h=>by
  obtain⟨l,h1,h2⟩:=WU n λi hi=>h i Z0;obtain⟨y,hy⟩:=h n Z0;refine⟨l++[y],by simp[h1],λi z hz=> ?_⟩;rw[List.getElem?_append]at hz;split at hz
  ·exact h2 i z hz
  ·rename_i hlt;rw[List.getElem?_singleton]at hz;split at hz
   ·rename_i he;have:i=n:=Z0;subst this;simp only[Z4s]at hz;subst hz;exact hy
   ·cases hz
def Sf{w:World}{b:Nat}{a:Addr}{n:Nat}{cs:List Value}(h:w.cells? b a n=some cs):cs.length=n/\∀i,i<n->w.cell? (a.add i)=cs[i]? :=by
 unfold World.cells? at h;split at h
 ·have h1:=mapM_some_length h;rw[Z82]at h1;refine⟨h1,λi hi=>mapM_some_get h i i ?_⟩;simp_all
 ·cases h
def MT{w:World}{a:Addr}{v:Value}(h:w.cell? a=some v):a.block<w.heap.size:=by
 grind [World.cell?,Nat.lt_or_ge]
def z8{w:World}{G:Nat->Prop}:∀ {ys:List V} {vss:List (List Value)},vss.length=ys.length->(∀(i:Nat) (y:V) (vs:List Value),ys[i]?=some y->vss[i]?=some vs->RdC w G y.cells vs)->RdC w G (flat ys) vss.flatten
 | [],[],_,_=>by simpa using RdC.nil
 | [],_::_,h,_=>Z4q
 |_::_,[],h,_=>Z4q
 |y::ys,vs::vss,h,hr=>by
  rw[Xq,List.flatten_cons];exact(hr 0 y vs rfl rfl).append (z8 Z3L λi z us hz hu=>hr (i+1) z us Z3L Z3L)
def B3{P:Program}{n:Nat}{cs:List Value}:∀ {l:List Field} {o:Nat},zW P n l o=true->o<=n/\(cs.length=n->cs.drop o=(l.map λf=>(cs.drop f.offset).take (P.cellsOf f.type)).flatten)
 | [],o,h=>by
   simp_all[zW,Z59,Z4A]
 |f::l,o,h=>by
  simp only[zW,Z4x,Z59]at h;obtain⟨h1,h2⟩:=h;obtain⟨h3,h4⟩:=B3 (cs:=cs) h2;refine⟨Z0,λhc=> ?_⟩
  grind [List.flatten_cons,List.drop_drop,List.take_append_drop]
def MI{cs:List Value}{k:Nat}:∀ {m:Nat},cs.length=m*k->cs=((List.range m).map λi=>(cs.drop (i*k)).take k).flatten:=by
 have:∀(m:Nat) (cs:List Value),cs.take (m*k)=((List.range m).map λi=>(cs.drop (i*k)).take k).flatten:=by
  intro m
  induction m with
  |zero=>simp
  |succ m ih=>
   simp_all[Z6D,Z5F,List.flatten_append,Z5P,List.take_add]
 intro m h;have h2:=this m cs
 grind
section
variable {H:Type}{enc:TypeId×Value->H}{P:Program}{w:World}{spare:Nat->Bool}{held:Bool}
def TN:∀ {n:Nat} {t:TypeId} {fuel:Nat} {cs:List Value} {d:DataW H×List MemPlace},okTy P n t=true->DataW.trod enc P w 0 spare held fuel t cs=some d->
  ∃x,tyV P n t x/\RdC w (λb=>b<w.heap.size) x.cells cs
 |0,t,fuel,cs,d,hk,h=>by cases hk
 |n+1,t,fuel,cs,d,hk,h=>by
  unfold okTy at hk;unfold tyV;split at hk
  ·rename_i ht;obtain⟨b,rfl,_⟩:=DataW.trod_bool ht h;exact⟨.bool b,⟨b,rfl⟩,.one rfl (.bool b)⟩
  ·rename_i k ht;obtain⟨m,rfl,_,hw⟩:=DataW.trod_int ht h;exact⟨.int k m,⟨m,rfl,hw⟩,.one rfl (.int k m)⟩
  ·rename_i ht;obtain⟨s,rfl,_,hw⟩:=DataW.trod_string ht h;exact⟨.str s,⟨s,rfl,hw⟩,.one rfl (.str s)⟩
  ·rename_i e ht;simp only[Z4x,Z4N]at hk;obtain⟨hk1,hk2⟩:=hk;obtain⟨rfl,_⟩|⟨a,len,cap,elems,rest,m,_,rfl,_,_,hlc,hcm,hel,hat,_⟩:=DataW.trod_slice ht h
   ·exact⟨.sl [],⟨[],rfl,Z1,Z1⟩,.one rfl (.nil _ _ (Z5H _))⟩
   ·have heach:∀i,i<len->∃y,tyV P n e y/\∃vs,w.cells? 0 (a.add (i*P.cellsOf e)) (P.cellsOf e)=some vs/\RdC w (λb=>b<w.heap.size) y.cells vs:=by
     intro i hi;have h1:=hat i hi;rw[Z4u Z0]at h1;simp only[Z4t]at h1;obtain⟨vs,h2,h3⟩:=h1;obtain⟨y,hy,hr⟩:=TN hk1 h3;exact⟨y,hy,vs,h2,hr⟩
    obtain⟨l,hl1,hl2⟩:=WU len heach
    have hty:∀y∈l,tyV P n e y:=λy hy=>by
     obtain⟨i,hi⟩:=Z4V hy;exact(hl2 i y hi).1
    refine⟨.sl l,⟨l,rfl,Z0,hty⟩,.one rfl ?_⟩;cases hlen:len with
    |zero=>
     have:l=[]:=Z5s Z0;subst this;exact .nil _ _ hcm
    |succ len'=>
     obtain⟨b,o,spot⟩:=a
     have hspot:spot=none:=by
      obtain⟨y,_,vs,hv,_⟩:=heach 0 Z0;obtain⟨h1,h2⟩:=Sf hv;have h3:=h2 0 hk2;rw[Z4u Z0]at h3;have h4:=World.cell?_spot h3;cases spot with
      |none=>rfl
      |some s=>simp[Addr.add]at h4
     subst hspot
     have hcell:∀(i j:Nat) (y:V),l[i]?=some y->j<P.cellsOf e->∃(u:Value),w.cell? ⟨b,o+(i*P.cellsOf e+j),none⟩=some u/\∃c,y.cells[j]?=some c/\c.one=true/\Rd w (λb=>b<w.heap.size) c u:=by
      intro i j y hy hj;obtain⟨_,vs,hv,hr⟩:=hl2 i y hy;obtain⟨h1,h2⟩:=Sf hv;have h3:=h2 j hj;rw[Z6q,Z6q,Z4u Z0]at h3;have hyl:j<y.cells.length:=by rw[<-hr.1];omega
      obtain⟨q1,u,q2,q3⟩:=hr.2 j y.cells[j] (Z4u hyl);rw[Z4u Z0,Z4s]at q2;subst q2;exact⟨_,by rw[<-Z61];exact h3,_,Z4u hyl,q1,q3⟩
     have hfit:∀y∈l,y.fits (P.cellsOf e):=λy hy=>by
      obtain⟨i,hi⟩:=Z4V hy;obtain⟨_,vs,hv,hr⟩:=hl2 i y hi;refine⟨by rw[<-hr.1,(Sf hv).1],λc hc=> ?_⟩;obtain⟨j,hj⟩:=Z4V hc;exact(hr.2 j c hj).1
     have hdiv:∀i,i<l.length*P.cellsOf e->∃y,l[i / P.cellsOf e]?=some y/\i%P.cellsOf e<P.cellsOf e/\i=i / P.cellsOf e*P.cellsOf e+i%P.cellsOf e:=by
      intro i hi;have h1:i / P.cellsOf e<l.length:=(Z8v hk2).2 hi;exact⟨_,Z4u h1,Z7A _ hk2,by rw[Nat.mul_comm];exact(Nat.div_add_mod _ _).symm⟩
     have hb:b<w.heap.size:=by
      obtain⟨y,hy⟩:∃y,l[0]?=some y:=⟨_,Z4u Z0⟩;obtain⟨u,hu,_⟩:=hcell 0 0 y hy hk2;exact MT hu
     have hsl:=Rd.sl (w:=w) (G:=λb=>b<w.heap.size) l b o cap (P.cellsOf e) (λi=>(w.cell? ⟨b,o+i,none⟩).getD undef) Z0 hcm hb hfit (λi hi=> ?_) (λi c hi=> ?_)
     ·rw[hl1,hlen]at hsl;exact hsl
     ·obtain⟨y,h1,h2,h3⟩:=hdiv i hi;obtain⟨u,hu,_⟩:=hcell _ _ y h1 h2;rw[<-h3]at hu;rw[hu];rfl
     ·have hil:i<l.length*P.cellsOf e:=by
       rw[<-Yb hfit];exact(Z4v.1 hi).1
      obtain⟨y,h1,h2,h3⟩:=hdiv i hil;obtain⟨u,hu,c',hc',_,hr⟩:=hcell _ _ y h1 h2;rw[<-h3]at hu;rw[h3,YJ hfit h1 _ h2,hc']at hi;cases hi;simp only[hu,Z4W];exact hr
  ·rename_i fs ht;simp only[Z4x,Z4D]at hk;obtain⟨hk1,hk2⟩:=hk;obtain⟨xs,m,_,_,hcl,hxl,hat⟩:=DataW.trod_struct ht h
   obtain⟨ys,hy1,hy2⟩:=WU (Q:=λi y=>∀f,fs.toList[i]?=some f->tyV P n f.type y/\RdC w (λb=>b<w.heap.size) y.cells ((cs.drop f.offset).take (P.cellsOf f.type))) fs.toList.length (by
    intro i hi;have hf:fs.toList[i]?=some fs.toList[i]:=Z4u hi;have h1:=hat i fs.toList[i] Z1;rw[Z4u (by rw[hxl];exact hi)]at h1;obtain⟨y,hy,hr⟩:=TN (hk2 _ (Z4J hi)) h1;exact⟨y,λf h2=>by rw[hf]at h2;cases h2;exact⟨hy,hr⟩⟩)
   refine⟨.agg (flat ys),⟨ys,rfl,hy1,λi f y hf hy=>(hy2 i y hy f hf).1⟩,?_⟩;have hcut:=(B3 (cs:=cs) hk1).2 hcl;rw[List.drop_zero]at hcut;rw[hcut];refine z8 (by simp[hy1]) λi y vs hy hv=> ?_;rw[Z4M,Z4w]at hv;obtain⟨f,hf,rfl⟩:=hv;exact(hy2 i y hy f hf).2
  ·rename_i m e ht;simp only[Z4x,Z59]at hk;obtain⟨hk1,hk2⟩:=hk;obtain⟨xs,q,_,_,hcl,hxl,hat⟩:=DataW.trod_array ht h
   obtain⟨ys,hy1,hy2⟩:=WU (Q:=λi y=>tyV P n e y/\RdC w (λb=>b<w.heap.size) y.cells ((cs.drop (i*P.cellsOf e)).take (P.cellsOf e))) m (by
    intro i hi;have h1:=hat i hi;rw[Z4u Z0]at h1;exact TN hk1 h1)
   refine⟨.agg (flat ys),⟨ys,rfl,hy1,λy hy=> ?_⟩,?_⟩
   ·obtain⟨i,hi⟩:=Z4V hy;exact(hy2 i y hi).1
   ·rw[MI (cs:=cs) (k:=P.cellsOf e) (m:=m) Z0];refine z8 (by simp[hy1]) λi y vs hy hv=> ?_;rw[Z4M,Z4w]at hv;obtain⟨j,hj,rfl⟩:=hv
    have:j=i:=by
     rw[Z4v]at hj;obtain⟨_,hj⟩:=hj;simpa using hj.symm
    subst this;exact(hy2 j y hy).2
  ·cases hk
def Io{n:Nat}{t:TypeId}{v:Value}{d:DataW H}{ps:List MemPlace}{r:Reach}{b0:Nat}(hk:okTy P n t=true)(hval:Value.okWide P w r b0 t v)(h:DataW.Trod enc P w 0 spare held t v d ps):
  ∃x,tyV P n t x/\Rd w (λb=>b<w.heap.size) x v:=by
 obtain⟨fuel,h⟩:=h;obtain⟨x,hx,hr⟩:=TN hk h;refine⟨x,hx,?_⟩
 have h1:∀ {c:V},x=c->c.cells=[c]->v.cells.toList=[v]->Rd w (λb=>b<w.heap.size) x v:=by
  intro c he hc hv;subst he;rw[hc,hv]at hr;obtain⟨_,u,q1,q2⟩:=hr.2 0 x rfl;simp at q1;subst q1;exact q2
 have h2:∀ {cs:List V} {vs:Array Value},x=.agg cs->v=.agg vs->Rd w (λb=>b<w.heap.size) x v:=by
  intro cs vs he hv;subst he hv;refine .agg cs vs (by have:=hr.1;simpa[Value.cells]using this) (λc hc=> ?_) λi c hi=> ?_
  ·obtain⟨i,hi⟩:=Z4V hc;exact(hr.2 i c hi).1
  ·obtain⟨_,u,q1,q2⟩:=hr.2 i c hi
   have:vs.getD i undef=u:=by
    have q3:vs[i]?=some u:=by simpa[Value.cells]using q1
    simp[Z4y,q3]
   grind
 cases n with
 |zero=>cases hk
 |succ n=>
  unfold okTy at hk;unfold tyV at hx;split at hk
  ·rename_i ht;rw[ht]at hx;obtain⟨b,rfl⟩:=hx;obtain⟨c,rfl⟩:=okWide_bool ht hval;exact h1 rfl rfl rfl
  ·rename_i k ht;rw[ht]at hx;obtain⟨b,rfl,_⟩:=hx;obtain⟨c,rfl⟩:=okWide_int ht hval;exact h1 rfl rfl rfl
  ·rename_i ht;rw[ht]at hx;obtain⟨b,rfl,_⟩:=hx;obtain⟨c,rfl⟩:=okWide_string ht hval;exact h1 rfl rfl rfl
  ·rename_i e ht;rw[ht]at hx;obtain⟨b,rfl,_⟩:=hx;obtain⟨c,_,_,rfl⟩:=okWide_slice ht hval;exact h1 rfl rfl rfl
  ·rename_i fs ht;rw[ht]at hx;obtain⟨b,rfl,_⟩:=hx;simp only[Value.okWide,ht]at hval
   grind
  ·rename_i m e ht;rw[ht]at hx;obtain⟨b,rfl,_⟩:=hx;simp only[Value.okWide,ht]at hval
   grind
  ·cases hk
def ql{n:Nat}{r:Reach}{b0:Nat}:∀ {ts:List TypeId} {vs:List Value} {ds:List (DataW H)} {ps:List MemPlace},DataW.TrodAll enc P w 0 spare held ts vs ds ps->(∀t∈ts,okTy P n t=true)->
  (∀(j:Nat) t v,ts[j]?=some t->vs[j]?=some v->Value.okWide P w r b0 t v)->
  ∃xs:List V,xs.length=vs.length/\vs.length=ts.length/\ds.length=ts.length/\(∀(i:Nat) (t:TypeId) (x:V),ts[i]?=some t->xs[i]?=some x->tyV P n t x)/\∀(i:Nat) (x:V) (v:Value),xs[i]?=some x->vs[i]?=some v->Rd w (λb=>b<w.heap.size) x v
 | [],vs,ds,ps,h,_,_=>by
   obtain⟨rfl,rfl,rfl⟩:=trodAll_nil h;simp
 |t::ts,vs,ds,ps,h,hk,hval=>by
  obtain⟨v,vs',d,ds',p,q,rfl,rfl,rfl,h1,h2⟩:=trodAll_cons h;obtain⟨x,hx1,hx2⟩:=Io (hk t Z1) (hval 0 t v rfl rfl) h1;obtain⟨xs,q1,q2,q5,q3,q4⟩:=ql h2 (λt ht=>hk t (by simp[ht])) λj t' v' ht hv=>hval (j+1) t' v' Z3L Z3L;refine⟨x::xs,by simp[q1],by simp[q2],by simp[q5],λi t' x' ht hx=> ?_,λi x' v' hx hv=> ?_⟩
  ·cases i with
   |zero=>simp at ht hx;subst ht hx;exact hx1
   |succ i=>exact q3 i t' x' Z3L (by simpa using hx)
  ·cases i with
   |zero=>simp at hv hx;subst hv hx;exact hx2
   |succ i=>exact q4 i x' v' (by simpa using hx) Z3L
def zA{W W':World}(hl:laidOutB P=true)(hb:Below W.heap.size W W'):∀ {ts:List TypeId} {vs:List Value} {ds:List (DataW H)} {ps:List MemPlace},DataW.TrodAll enc P W 0 (λ_=>true) true ts vs ds ps->
  (∀t∈ts,P.readableRec t=true/\t<P.types.size)->(∀x∈ps,x.block<W.heap.size)->DataW.TrodAll enc P W' 0 (λb=>decide (b<W.heap.size)) true ts vs ds ps
 | [],vs,ds,ps,h,_,_=>by
   obtain⟨rfl,rfl,rfl⟩:=trodAll_nil h;rfl
 |t::ts,vs,ds,ps,h,hk,hlt=>by
  obtain⟨v,vs',d,ds',p,q,rfl,rfl,rfl,h1,h2⟩:=trodAll_cons h;exact trodAll_cons_mk (Below.trod hl (hk t Z1).1 (hk t Z1).2 h1 hb λx hx=>hlt x (by simp[hx])) (zA hl hb h2 (λt ht=>hk t (by simp[ht])) λx hx=>hlt x (by simp[hx]))
end
def LE{P:Program} [Lg P]{f:FuncId}{fn:Func}{s:ChangeSpec}{tb:TypeId}(n:Nat)(hl:laidOutB P=true)(hok:(fn.params.toList.all λt=>okTy P n t)=true)(hread:(fn.params.toList.all λt=>P.readableRec t&&decide (t<P.types.size))=true)
  (hvars:s.vars=[]) (hres:fn.resultTypes=#[tb]) (hb:P.underlying tb=some .bool)
  (hfn:∀(H:Type) (ds:List (DataW H)),ds.length=fn.params.toList.length->s.fn H ds= {results:=[.lit (.bool true)],args:=ds})
  (hlaw:∀xs:List V,xs.length=fn.params.toList.length->(∀(i:Nat) (t:TypeId) (x:V),fn.params.toList[i]?=some t->xs[i]?=some x->tyV P n t x)->VC P f false xs (.bool true))
  (H:Type) (enc:TypeId×Value->H) (W:World) (base:Nat) (args:Array Value) (ds gs:List (DataW H)) (before:List MemPlace)
  (hval:∀(j:Nat) t v,fn.params[j]?=some t->args[j]?=some v->Value.okWide P W .any base t v)
  (hW:DataW.Whole enc P fn.params.toList s.vars false W args.toList ds gs before):
  Lg.calls P f args W λe W'=>∃v,e=.returned v/\s.post enc P fn false true false false W args v W':=by
 have hlt:∀x∈before,x.block<W.heap.size:=λx hx=>by simpa using hW.lt x hx
 have hW':=hW;obtain⟨p,q,hA,hV,rfl,_,_⟩:=hW;rw[hvars]at hV;obtain⟨rfl,rfl⟩:=trodVars_none hV;rw[Z5Z]at hlt hW';obtain⟨xs,q1,q2,q5,q3,q4⟩:=ql (n:=n) hA (Z4D.1 hok) λj t v ht hv=>hval j t v Z3L Z3L;obtain⟨_,hvc⟩:=hlaw xs (by rw[q1,q2]) q3;refine Lg.calls_mono (hvc W (λb=>b<W.heap.size) args (λb h=>h) Z3L λi x hx=> ?_) λe W' he=> ?_
 ·have hi:i<args.toList.length:=by rw[<-q1];exact(Z4v.1 hx).1
  have:args.getD i undef=args.toList[i]:=by
   have hi2:i<args.size:=by simpa using hi
   simp[Z4y,hi2]
  rw[this];exact q4 i x _ hx (Z4u hi)
 ·obtain⟨v,rfl,hbel,hrd⟩:=he;cases hrd;refine⟨_,rfl,ds,[],p,[],p,[],hW',?_,?_,?_,hbel.frame _,λh=>Z3V⟩
  ·rw[hfn H _ Z3L,hres];exact trodAll_mk1 (shut_bool hb true)
  ·rw[hfn H _ Z3L,Z5Z];exact zA hl hbel hA (λt ht=>by simpa using Z4D.1 hread t ht) hlt
  ·rw[hvars,hfn H _ Z3L];rfl
def EZ{α:Type}{enc:α->V}{Q:α->Prop}:∀ {l:List V},(∀y∈l,∃a,y=enc a/\Q a)->∃l':List α,l=l'.map enc/\∀a∈l',Q a
 | [],_=>⟨[],rfl,Z1⟩
 |y::l,h=>by
  obtain⟨a,rfl,ha⟩:=h y Z1;obtain⟨l',rfl,hl⟩:=EZ (l:=l) λz hz=>h z (Z53 _ hz)
  exact⟨a::l',rfl,λb hb=>by
   obtain rfl|hb:=Z4H.1 hb
   ·exact ha
   ·exact hl b hb⟩
def MA{P:Program}{n:Nat}{t:TypeId}{x:V}{k:IntKind}(ht:P.underlying t=some (.int k))(h:tyV P (n+1) t x):∃m,x=.int k m/\k.min<=m/\m<=k.max:=by
 unfold tyV at h;rw[ht]at h;obtain⟨m,rfl,hw⟩:=h;simp only[Lit.wf,Z4x,Z4N]at hw;exact⟨m,rfl,hw⟩
def zk{P:Program}{n:Nat}{t e:TypeId}{x:V}{α:Type}{enc:α->V}{Q:α->Prop}(ht:P.underlying t=some (.slice e))(h:tyV P (n+1) t x)(hQ:∀y,tyV P n e y->∃a,y=enc a/\Q a):∃l:List α,x=.sl (l.map enc)/\l.length<=maxLen/\∀a∈l,Q a:=by
 unfold tyV at h;rw[ht]at h;obtain⟨l,rfl,h1,h2⟩:=h;obtain⟨l',rfl,h3⟩:=EZ λy hy=>hQ y (h2 y hy)
 grind
def qM{P:Program}{n:Nat}{t:TypeId}{x:V}{fs:Array Field}(ht:P.underlying t=some (.struct fs))(h:tyV P (n+1) t x):∃ys,x=.agg (flat ys)/\ys.length=fs.toList.length/\∀(i:Nat) (f:Field) (y:V),fs.toList[i]?=some f->ys[i]?=some y->tyV P n f.type y:=by
 simp_all[tyV]
end
end Vm
end
section
namespace Vm
open Go
open Go.Proofs
section
def Vr(s:St):List (Nat×SV)->St
 | []=>s
 |(i,x)::l=>Vr (putS s i x) l
@[simp]def Z0n(s:St):Vr s []=s:=rfl
@[simp]def Oy(s:St)(i:Nat)(x:SV)(l:List (Nat×SV)):Vr s ((i,x)::l)=Vr (putS s i x) l:=rfl
section
variable {P:Program}[Lg P]{K K':St->Prop}
def BS(hK:∀s,K s->K' s){t:St}:∀ {l:List (Nat×OV)} {u:St},wpO l t u K->wpO l t u K'
 | [],_,h=>hK _ h
 | (i,o)::l,u,h=>by
   simp only[wpO]at h⊢;split
   ·rename_i x hx;rw[hx]at h;exact BS hK h
   ·rename_i hx;rw[hx]at h;exact h
def Wp(hK:∀s,K s->K' s):∀ {l:List EF} {s:St},wpE P l s K->wpE P l s K'
 | [],_,h=>hK _ h
 | .lt i C e::l,s,h=>by
   simp only[wpE]at h⊢;split
   ·rename_i hc;rw[if_pos hc]at h;split
    ·rename_i x hx;rw[hx]at h;exact Wp hK h
    ·rename_i hx;rw[hx]at h;exact h
   ·rename_i hc;rw[if_neg hc]at h;exact Wp hK h
 | .call i C f fr fl es::l,s,h=>by
   simp only[wpE]at h⊢;split
   ·rename_i hc;rw[if_pos hc]at h;split
    ·rename_i x n hx hn;rw[hx,hn]at h;obtain⟨r,h1,h2,h3⟩:=h;exact⟨r,h1,h2,Wp hK h3⟩
    ·rename_i hne;split at h
     ·rename_i x n hx hn;exact(hne x n hx hn).elim
     ·exact h
   ·rename_i hc;rw[if_neg hc]at h;exact Wp hK h
 | .callm i C f ks es::l,s,h=>by
   simp only[wpE]at h⊢;split
   ·rename_i hc;rw[if_pos hc]at h;split
    ·rename_i x n hx hn;rw[hx,hn]at h;obtain⟨r,h1,h3⟩:=h;exact⟨r,h1,Wp hK h3⟩
    ·rename_i hx;split at h
     ·rename_i x n h1 h2;exact(hx x n h1 h2).elim
     ·exact h
   ·rename_i hc;rw[if_neg hc]at h;split at h
    ·exact Wp hK h
    ·exact Wp hK h
    ·exact h.elim
def XH:∀ {a:Stm} {s:St} {N N' R R':St->Prop} {X X':Nat->St->Prop},wpS P a s N X R->(∀s,N s->N' s)->(∀i s,X i s->X' i s)->(∀s,R s->R' s)->wpS P a s N' X' R'
 |.reg r,s,_,_,_,_,_,_,h,hN,_,_=>Wp (λt ht=>⟨ht.1,BS hN ht.2⟩) h
 |.skip,s,_,_,_,_,_,_,h,hN,_,_=>hN _ h
 |.seq a b,s,_,_,_,_,_,_,h,hN,hX,hR=>XH (a:=a) (s:=s) h (λt ht=>XH (a:=b) (s:=t) ht hN hX hR) hX hR
 | .cond c a b,s,_,_,_,_,_,_,h,hN,hX,hR=>by
   simp only[wpS]at h⊢;split
   ·rename_i hc;rw[hc]at h;exact XH h hN hX hR
   ·rename_i hc;rw[hc]at h;exact XH h hN hX hR
   ·rename_i h1 h2;split at h
    ·rename_i hc;exact(h1 hc).elim
    ·rename_i hc;exact(h2 hc).elim
    ·exact h
 | .block id a,s,_,_,_,_,_,_,h,hN,hX,hR=>XH (a:=a) (s:=s) h hN (λi t ht=>by
   split
   ·rename_i hi;rw[if_pos hi]at ht;exact hN _ ht
   ·rename_i hi;rw[if_neg hi]at ht;exact hX _ _ ht) hR
 | .loop keep a,s,_,_,_,_,_,_,h,hN,hX,hR=>by
   obtain⟨I,m,h1,h2⟩:=h;exact⟨I,m,h1,λt ht=>XH (a:=a) (s:=t) (h2 t ht) (λ_ h=>h) hX hR⟩
 |.exit id,s,_,_,_,_,_,_,h,_,hX,_=>hX _ _ h
 |.ret,s,_,_,_,_,_,_,h,_,_,hR=>hR _ h
end
def Xc{P:Program} [Lg P]{keep:List Nat}{a:Stm}{s:St}{N R:St->Prop}{X:Nat->St->Prop}{ι:Type}(L:ι->List (Nat×SV))(Inv:ι->Prop)(m:St->Nat)(p0:ι)
  (h0:Yj keep s=Vr (Yj keep s) (L p0)) (hI:Inv p0)
  (h1:∀p,Inv p->wpS P a (Vr (Yj keep s) (L p)) (λs'=>∃q,Inv q/\Yj keep s'=Vr (Yj keep s) (L q)/\m (Vr (Yj keep s) (L q))<m (Vr (Yj keep s) (L p))) X R):
  wpS P (.loop keep a) s N X R:=by
 refine⟨λt=>∃p,Inv p/\t=Vr (Yj keep s) (L p),m,⟨p0,hI,h0⟩,?_⟩;rintro t ⟨p,hp,rfl⟩;refine XH (h1 p hp) (λs' hs=> ?_) (λ_ _ h=>h) (λ_ h=>h);obtain⟨q,hq,he,hm⟩:=hs;rw[he];exact⟨⟨q,hq,rfl⟩,hm⟩
def cnt(c:Nat)(n:Nat)(t:St):Nat:=match get t c with|.v (.int _ k)=>n-k.toNat|_=>0
def Xb{P:Program} [Lg P]{keep:List Nat}{a:Stm}{s:St}{N R:St->Prop}{X:Nat->St->Prop}(c n:Nat)(L:Nat->List (Nat×SV))(Inv:Nat->Prop)
  (h0:Yj keep s=Vr (Yj keep s) (L 0)) (hc:∀i,get (Vr (Yj keep s) (L i)) c=.v (vi i)) (hI:Inv 0)
  (h1:∀i,i<=n->Inv i->wpS P a (Vr (Yj keep s) (L i)) (λs'=>i<n/\Inv (i+1)/\Yj keep s'=Vr (Yj keep s) (L (i+1))) X R):
  wpS P (.loop keep a) s N X R:=by
 refine Xc L (λi=>i<=n/\Inv i) (cnt c n) 0 h0 ⟨Z0,hI⟩ ?_;rintro i ⟨hi,hv⟩;refine XH (h1 i hi hv) (λs' hs=> ?_) (λ_ _ h=>h) (λ_ h=>h);obtain⟨h,hv',he⟩:=hs;refine⟨i+1,⟨Z0,hv'⟩,he,?_⟩;simp only[cnt,hc];simp;omega
def S7{P:Program} [Lg P]{keep:List Nat}{a:Stm}{s:St}{N R:St->Prop}{X:Nat->St->Prop}(c n:Nat)(Inv:Nat->Prop)
  (h0:Yj keep s=putS (Yj keep s) c (.v (vi 0))) (hc:∀x,get (putS (Yj keep s) c x) c=x) (hI:Inv 0)
  (h1:∀i,i<=n->Inv i->wpS P a (putS (Yj keep s) c (.v (vi i))) (λs'=>i<n/\Inv (i+1)/\Yj keep s'=putS (Yj keep s) c (.v (vi (i+1)))) X R):
  wpS P (.loop keep a) s N X R:=
 Xb c n (λi=>[(c,.v (vi i))]) Inv h0 (λi=>hc _) hI h1
def BU{P:Program} [Lg P]{keep:List Nat}{a:Stm}{s:St}{N R:St->Prop}{X:Nat->St->Prop}{α:Type}(c n:Nat)(L:Nat->α->List (Nat×SV))(Inv:Nat->α->Prop)(x0:α)
  (h0:Yj keep s=Vr (Yj keep s) (L 0 x0)) (hc:∀i x,get (Vr (Yj keep s) (L i x)) c=.v (vi i)) (hI:Inv 0 x0)
  (h1:∀i x,i<=n->Inv i x->wpS P a (Vr (Yj keep s) (L i x)) (λs'=>i<n/\∃y,Inv (i+1) y/\Yj keep s'=Vr (Yj keep s) (L (i+1) y)) X R):
  wpS P (.loop keep a) s N X R:=by
 refine Xc (λp:Nat×α=>L p.1 p.2) (λp=>p.1<=n/\Inv p.1 p.2) (cnt c n) (0,x0) h0 ⟨Z0,hI⟩ ?_;rintro⟨i,x⟩ ⟨hi,hv⟩;refine XH (h1 i x hi hv) (λs' hs=> ?_) (λ_ _ h=>h) (λ_ h=>h);obtain⟨h,y,hv',he⟩:=hs;refine⟨(i+1,y),⟨by simp only;omega,hv'⟩,he,?_⟩;simp only[cnt,hc];simp;omega
end
def p44:Fn:=⟨5,[0,2,3,5,12],
pQ [pR [pV 1 (pU 0),pV 2 (pI 0)],pQ [pR [pV 3 (.bin .eql (.s 0) (pU 0))]] (.cond (.s 3) (pQ [pR [pV 1 (pU 0),pV 2 (pI 6)]] .ret) .skip),pQ [.reg ⟨[.lt 5 [] (.bin .eql (.bin .rem (.s 0) (pU 2)) (pU 0))],[([(5,false)],.bin .eql (.s 0) (pU 1))],[pV 4 (.ite (.s 5) pT (.bin .eql (.s 0) (pU 1)))]⟩] (.cond (.s 4) (pQ [pR [pV 1 (pU 0),pV 2 (pI 3)]] .ret) .skip),pR [pV 1 (.bin .quo (.s 0) (pU 2)),pV 2 (pI 0)]] .ret,[(1,.v),(2,.v)]⟩
def c44:Zf Sol.prog fresh sig [.fz] [] Try.f44=some p44:=Z2
def p69:Fn:=⟨5,[0,2,3,4,20],
pQ [pR [(1,.m [pI 0,pI 0]),pV 2 (pI 0)],pR [(3,pM (.ag [.conv .i64 (.bin .rem (.bin .shr (.s 0) (pU 1)) (pU 65536)),.conv .i64 (.bin .shr (.s 0) (pU 17))]) 2)],pQ [.reg ⟨[.lt 5 [] (.bin .neq (.bin .rem (.s 0) (pU 2)) (pU 0)),.call 6 [(5,false)] (.id 94) false false [.mm 3 0 2]],[([(5,false)],.un .not (.s 6))],[pV 4 (.ite (.s 5) pT (.un .not (.s 6)))]⟩] (.cond (.s 4) (pQ [pR [(1,pM (.ag [pI 0,pI 0]) 2),pV 2 (pI 3)]] .ret) .skip),pR [(1,pM (.mm 3 0 2) 2),pV 2 (pI 0)]] .ret,[(1,(.ag 2)),(2,.v)]⟩
def c69:Zf Sol.prog fresh sig [.fz] [] Try.f69=some p69:=Z2
def p94:Fn:=⟨3,[0,1,2],
pQ [pR [(1,pS 0 2),pV 2 pF],.reg ⟨[.lt 3 [] (.bin .geq (.m 1 0) (pI 0)),.lt 4 [] (.ite (.s 3) (.bin .leq (.m 1 0) (pI 255)) pF),.lt 5 [] (.ite (.s 4) (.bin .geq (.m 1 1) (pI 0)) pF)],[([(3,true)],.bin .leq (.m 1 0) (pI 255)),([(4,true)],.bin .geq (.m 1 1) (pI 0)),([(5,true)],.bin .leq (.m 1 1) (.m 1 0))],[pV 2 (.ite (.s 5) (.bin .leq (.m 1 1) (.m 1 0)) pF)]⟩] .ret,[(2,.v)]⟩
def c94:Zf Sol.prog fresh sig [.fz] [] Try.f94=some p94:=Z2
def p99:Fn:=⟨6,[0,1,2,3,4,8],
pQ [pR [(1,pS 0 2),pV 2 (pU 0),pV 3 (pI 0)],pC [pK 6 116 [.mm 1 0 2]] [pV 4 (.s 6)],pQ [pR [pV 5 (.un .not (.s 4))]] (.cond (.s 5) (pQ [pR [pV 2 (pU 0),pV 3 (pI 1)]] .ret) .skip),pR [pV 2 (.bin .mul (pU 2) (.bin .add (.conv .u64 (.m 1 0)) (.bin .mul (pU 65536) (.conv .u64 (.m 1 1))))),pV 3 (pI 0)]] .ret,[(2,.v),(3,.v)]⟩
def c99:Zf Sol.prog fresh sig [.fz] [] Try.f99=some p99:=Z2
def p101:Fn:=⟨4,[0,2,3,9],
pQ [pR [pV 1 (pU 0),pV 2 (pI 0)],pQ [.reg ⟨[.lt 4 [] (.bin .lss (.s 0) (pU 1))],[([(4,false)],.bin .gtr (.s 0) (pU 9223372036854775807))],[pV 3 (.ite (.s 4) pT (.bin .gtr (.s 0) (pU 9223372036854775807)))]⟩] (.cond (.s 3) (pQ [pR [pV 1 (pU 0),pV 2 (pI 1)]] .ret) .skip),pR [pV 1 (.bin .add (.bin .mul (pU 2) (.s 0)) (pU 1)),pV 2 (pI 0)]] .ret,[(1,.v),(2,.v)]⟩
def c101:Zf Sol.prog fresh sig [.fz] [] Try.f101=some p101:=Z2
def p116:Fn:=⟨3,[0,1,2],
pQ [pR [(1,pS 0 2),pV 2 pF],.reg ⟨[.lt 3 [] (.bin .geq (.m 1 0) (pI 0)),.lt 4 [] (.ite (.s 3) (.bin .leq (.m 1 0) (pI 255)) pF),.lt 5 [] (.ite (.s 4) (.bin .geq (.m 1 1) (pI 0)) pF)],[([(3,true)],.bin .leq (.m 1 0) (pI 255)),([(4,true)],.bin .geq (.m 1 1) (pI 0)),([(5,true)],.bin .leq (.m 1 1) (.m 1 0))],[pV 2 (.ite (.s 5) (.bin .leq (.m 1 1) (.m 1 0)) pF)]⟩] .ret,[(2,.v)]⟩
def c116:Zf Sol.prog fresh sig [.fz] [] Try.f116=some p116:=Z2
end Vm
end
section
namespace Vm
open Go Go.Proofs
def Fit(n:Int):Prop:= -9223372036854775808<=n/\n<=9223372036854775807
def U64(n:Int):Prop:=0<=n/\n<18446744073709551616
def Zp(n:Int)(h1:0<=n)(h2:n<=18446744073709551615):IntKind.u64.wrap n=n:=by
 rw[Z87];omega
def ZA{α:Type}{l:List α}{i:Nat}{x:α}(h:l[i]?=some x):∀hl:i<l.length,l[i]'hl=x:=λhl=>by
 rw[Z4u hl]at h;exact Z6c h
def Zo(size ptrs:Int):Bool:=decide (0<=size)&&decide (size<=255)&&decide (0<=ptrs)&&decide (ptrs<=size)
theorem Zc{s p:Int}:Zo s p=true↔0<=s/\s<=255/\0<=p/\p<=s:=by simp[Zo,and_assoc]
abbrev shV(s p:Int):V:=.agg [vi s,vi p]
def qr{s p:Int}:VC Sol.prog 94 false [shV s p] (.bool (Zo s p)):=by
 refine Z8 Sol.func94 follows Z2 c94 rfl ?_;by_cases h1:0<=s<;>by_cases h2:s<=255<;>by_cases h3:0<=p<;>by_cases h4:p<=s<;>simp[p94,Zo,h1,h2,h3,h4]
def qo{s p:Int}:VC Sol.prog 116 false [shV s p] (.bool (Zo s p)):=by
 refine Z8 Sol.func116 follows Z2 c116 rfl ?_;by_cases h1:0<=s<;>by_cases h2:s<=255<;>by_cases h3:0<=p<;>by_cases h4:p<=s<;>simp[p116,Zo,h1,h2,h3,h4]
def adr(w:Int):Int×Int:=if w=0 then(0,6)else if w%2=0\/w=1 then(0,3)else(w / 2,0)
def zu{w:Int}(hw:U64 w):VC Sol.prog 44 false [vu w] (.tup [vu (adr w).1,vi (adr w).2]):=by
 refine Z8 Sol.func44 follows Z2 c44 rfl ?_;obtain⟨h1,h2⟩:=hw;have e1:w.tmod 2=w%2:=Z5p h1;have e2:w.tdiv 2=w / 2:=Z7N h1;have e3:=Zp (w / 2) Z0 Z0;by_cases h0:w=0
 ·simp[p44,adr,h0]
 ·by_cases h3:w%2=0
  ·simp[p44,adr,h0,e1,h3]
  ·by_cases h4:w=1
   ·subst h4;simp[p44,adr]
   ·simp[p44,adr,h0,e1,e2,h3,h4,e3]
def RF(a:Int):Int×Int:=if a<1\/9223372036854775807<a then(0,1)else(2*a+1,0)
def Ai{a:Int}(hw:U64 a):VC Sol.prog 101 false [vu a] (.tup [vu (RF a).1,vi (RF a).2]):=by
 refine Z8 Sol.func101 follows Z2 c101 rfl ?_;obtain⟨h1,h2⟩:=hw;by_cases h3:a<1
 ·simp[p101,RF,h3]
 ·by_cases h4:9223372036854775807<a
  ·simp[p101,RF,h3,h4]
  ·have e1:=Zp (2*a) Z0 Z0;have e2:=Zp (2*a+1) Z0 Z0;simp[p101,RF,h3,h4,e1,e2]
def RD(s p:Int):Int×Int:=if Zo s p then(2*(s+65536*p),0)else(0,1)
def CR{s p:Int}:VC Sol.prog 99 false [shV s p] (.tup [vu (RD s p).1,vi (RD s p).2]):=by
 refine Z8 Sol.func99 follows Z2 c99 rfl ?_;simp[p99];refine Z4 qo Z1 ?_;cases h:Zo s p
 ·simp[RD,h]
 ·obtain⟨h1,h2,h3,h4⟩:=Zc.1 h;have e1:=Zp s Z0 Z0;have e2:=Zp p Z0 Z0;have e3:=Zp (65536*p) Z0 Z0;have e4:=Zp (s+65536*p) Z0 Z0;have e5:=Zp (2*(s+65536*p)) Z0 Z0;simp[RD,h,e1,e2,e3,e4,e5]
def unpk(w:Int):Int×Int×Int:=if w%2=0/\Zo (w / 2%65536) (w / 131072)=true then(w / 2%65536,w / 131072,0)else(0,0,3)
def Gx{w:Int}(hw:U64 w):VC Sol.prog 69 false [vu w] (.tup [shV (unpk w).1 (unpk w).2.1,vi (unpk w).2.2]):=by
 refine Z8 Sol.func69 follows Z2 c69 rfl ?_;obtain⟨h1,h2⟩:=hw
 have s1:w.fdiv (2 ^ min 1 IntKind.u64.bits)=w / 2:=by
  rw[show(2:Int) ^ min 1 IntKind.u64.bits=2 by decide];exact Z7M _ Z0
 have s2:w.fdiv (2 ^ min 17 IntKind.u64.bits)=w / 131072:=by
  rw[show(2:Int) ^ min 17 IntKind.u64.bits=131072 by decide];exact Z7M _ Z0
 have m1:=Zp (w / 2) Z0 Z0;have m2:=Zp (w / 131072) Z0 Z0;have e1:w.tmod 2=w%2:=Z5p h1;have e2:(w / 2).tmod 65536=w / 2%65536:=Z5p Z0;have e3:=Z7 (w / 2%65536) Z0 Z0;have e4:=Z7 (w / 131072) Z0 Z0;simp[p69,binV,s1,s2,e1,e2,e3,e4,m1,m2];by_cases h3:w%2=0
 ·simp[h3];refine Z4 qr Z1 ?_;cases h4:Zo (w / 2%65536) (w / 131072)
  ·simp[unpk,h3,h4]
  ·simp[unpk,h3,h4]
 ·simp[h3,unpk]
end Vm
end
section
namespace Vm
open Go
open Go.Proofs
def p31:Fn:=⟨11,[0,1,2,3,4,5,6,12,7,8,28],
pQ [pR [(2,pS 0 7),(3,pS 1 2),pV 4 (pU 0),pV 5 (pI 0)],pC [pK 11 62 [.mm 2 0 7]] [pV 6 (.s 11)],pQ [pR [pV 7 (.un .not (.s 6))]] (.cond (.s 7) (pQ [pR [pV 4 (pU 0),pV 5 (pI 1)]] .ret) .skip),pC [pK 12 63 [.mm 2 0 7,.m 3 0]] [pV 8 (.ext (.s 12) 0),pV 9 (.ext (.s 12) 1)],pQ [.reg ⟨[.lt 13 [] (.bin .lss (.m 3 1) (pI 0))],[([(13,false)],.bin .geq (.m 3 1) (.s 9))],[pV 10 (.ite (.s 13) pT (.bin .geq (.m 3 1) (.s 9)))]⟩] (.cond (.s 10) (pQ [pR [pV 4 (pU 0),pV 5 (pI 6)]] .ret) .skip),pR [pV 4 (.bin .add (.s 8) (.conv .u64 (.m 3 1))),pV 5 (pI 0)]] .ret,[(4,.v),(5,.v)]⟩
def c31:Zf Sol.prog fresh sig [.fz,.fz] [] Try.f31=some p31:=Z2
def p62:Fn:=⟨5,[0,1,2,35,53],
pQ [pR [(1,pS 0 7),pV 2 pF],pQ [.reg ⟨[.lt 5 [] (.bin .lss (.m 1 0) (pU 1)),.lt 6 [] (.ite (.s 5) pT (.bin .lss (.m 1 1) (pI 0))),.lt 7 [] (.ite (.s 6) pT (.bin .gtr (.m 1 1) (pI 4096))),.lt 8 [] (.ite (.s 7) pT (.bin .gtr (.m 1 0) (.bin .sub (pU 9223372036854775808) (.bin .mul (pU 2) (.conv .u64 (.m 1 1)))))),.lt 9 [] (.ite (.s 8) pT (.bin .lss (.m 1 2) (pI 0)))],[([(5,false)],.bin .lss (.m 1 1) (pI 0)),([(6,false)],.bin .gtr (.m 1 1) (pI 4096)),([(7,false)],.bin .gtr (.m 1 0) (.bin .sub (pU 9223372036854775808) (.bin .mul (pU 2) (.conv .u64 (.m 1 1))))),([(8,false)],.bin .lss (.m 1 2) (pI 0)),([(9,false)],.bin .gtr (.m 1 2) (pI 1))],[pV 3 (.ite (.s 9) pT (.bin .gtr (.m 1 2) (pI 1)))]⟩] (.cond (.s 3) (pQ [pR [pV 2 pF]] .ret) .skip),pQ [.reg ⟨[.lt 10 [] (.bin .lss (.m 1 3) (pI 0)),.lt 11 [] (.ite (.s 10) pT (.bin .lss (.m 1 4) (pI 0))),.lt 12 [] (.ite (.s 11) pT (.bin .lss (.m 1 5) (pI 0)))],[([(10,false)],.bin .lss (.m 1 4) (pI 0)),([(11,false)],.bin .lss (.m 1 5) (pI 0)),([(12,false)],.bin .lss (.m 1 6) (pI 0))],[pV 4 (.ite (.s 12) pT (.bin .lss (.m 1 6) (pI 0)))]⟩] (.cond (.s 4) (pQ [pR [pV 2 pF]] .ret) .skip),.reg ⟨[.lt 13 [] (.bin .leq (.m 1 3) (.m 1 1)),.lt 14 [] (.ite (.s 13) (.bin .leq (.m 1 4) (.bin .sub (.m 1 1) (.m 1 3))) pF),.lt 15 [] (.ite (.s 14) (.bin .leq (.m 1 5) (.m 1 1)) pF)],[([(13,true)],.bin .leq (.m 1 4) (.bin .sub (.m 1 1) (.m 1 3))),([(14,true)],.bin .leq (.m 1 5) (.m 1 1)),([(15,true)],.bin .leq (.m 1 6) (.bin .sub (.m 1 1) (.m 1 5)))],[pV 2 (.ite (.s 15) (.bin .leq (.m 1 6) (.bin .sub (.m 1 1) (.m 1 5))) pF)]⟩] .ret,[(2,.v)]⟩
def c62:Zf Sol.prog fresh sig [.fz] [] Try.f62=some p62:=Z2
def p63:Fn:=⟨12,[0,1,2,4,5,6,7,28,27,33,45,50],
pQ [pR [(2,pS 0 7),pV 3 (pU 0),pV 4 (pI 0)],pR [pV 5 (.bin .add (.m 2 0) (.conv .u64 (.bin .mul (.m 2 2) (.m 2 1))))],pR [pV 6 (.bin .add (.m 2 0) (.conv .u64 (.bin .mul (.bin .sub (pI 1) (.m 2 2)) (.m 2 1))))],pQ [pR [pV 8 (.s 1)]] (.block 0 (pQ [pR [pV 7 (.bin .eql (.s 8) (pI 1))]] (.cond (.s 7) (pQ [pR [pV 3 (.s 5),pV 4 (.m 2 3)]] .ret) (pQ [pR [pV 9 (.bin .eql (.s 8) (pI 2))]] (.cond (.s 9) (pQ [pR [pV 3 (.bin .add (.s 5) (.conv .u64 (.bin .sub (.m 2 1) (.m 2 4)))),pV 4 (.m 2 4)]] .ret) (pQ [pR [pV 10 (.bin .eql (.s 8) (pI 3))]] (.cond (.s 10) (pQ [pR [pV 3 (.s 6),pV 4 (.m 2 5)]] .ret) (pQ [pR [pV 11 (.bin .eql (.s 8) (pI 4))]] (.cond (.s 11) (pQ [pR [pV 3 (.bin .add (.s 6) (.conv .u64 (.bin .sub (.m 2 1) (.m 2 6)))),pV 4 (.m 2 6)]] .ret) .skip))))))))),pR [pV 3 (pU 0),pV 4 (pI 0)]] .ret,[(3,.v),(4,.v)]⟩
def c63:Zf Sol.prog fresh sig [.fz,.fz] [] Try.f63=some p63:=Z2
def p65:Fn:=⟨4,[0,1,2,25],
pQ [pR [(1,pS 0 7),pV 2 pF],pQ [.reg ⟨[.lt 4 [] (.bin .lss (.m 1 1) (pI 0)),.lt 5 [] (.ite (.s 4) pT (.bin .gtr (.m 1 1) (pI 4096))),.lt 6 [] (.ite (.s 5) pT (.bin .lss (.m 1 0) (pU 1)))],[([(4,false)],.bin .gtr (.m 1 1) (pI 4096)),([(5,false)],.bin .lss (.m 1 0) (pU 1)),([(6,false)],.bin .gtr (.m 1 0) (.bin .sub (pU 9223372036854775808) (.bin .mul (pU 2) (.conv .u64 (.m 1 1)))))],[pV 3 (.ite (.s 6) pT (.bin .gtr (.m 1 0) (.bin .sub (pU 9223372036854775808) (.bin .mul (pU 2) (.conv .u64 (.m 1 1))))))]⟩] (.cond (.s 3) (pQ [pR [pV 2 pF]] .ret) .skip),.reg ⟨[.lt 7 [] (.bin .eql (.m 1 2) (pI 0)),.lt 8 [] (.ite (.s 7) pT (.bin .eql (.m 1 2) (pI 1))),.call 9 [(8,true)] (.id 91) false false [.m 1 3,.m 1 4,.m 1 1],.lt 10 [] (.ite (.s 8) (.s 9) pF),.call 11 [(10,true)] (.id 91) false false [.m 1 5,.m 1 6,.m 1 1]],[([(7,false)],.bin .eql (.m 1 2) (pI 1))],[pV 2 (.ite (.s 10) (.s 11) pF)]⟩] .ret,[(2,.v)]⟩
def c65:Zf Sol.prog fresh sig [.fz] [] Try.f65=some p65:=Z2
def p75:Fn:=⟨10,[0,1,2,3,4,5,9,17,6,33],
pQ [pR [(2,pS 0 7),(3,pS 1 2),pV 4 (pU 0),pV 5 (pI 0)],pQ [pC [pK 10 65 [.mm 2 0 7]] [pV 6 (.un .not (.s 10))]] (.cond (.s 6) (pQ [pR [pV 4 (pU 0),pV 5 (pI 1)]] .ret) .skip),pQ [.reg ⟨[.lt 11 [] (.bin .lss (.m 3 0) (pI 1))],[([(11,false)],.bin .gtr (.m 3 0) (pI 4))],[pV 7 (.ite (.s 11) pT (.bin .gtr (.m 3 0) (pI 4)))]⟩] (.cond (.s 7) (pQ [pR [pV 4 (pU 0),pV 5 (pI 6)]] .ret) .skip),pC [pK 12 93 [.mm 2 0 7]] [(8,pM (.sz (.ai (.s 12) (.bin .sub (.m 3 0) (pI 1)) 4 2 true) 2) 2)],pQ [.reg ⟨[.lt 13 [] (.bin .lss (.m 3 1) (pI 0))],[([(13,false)],.bin .geq (.m 3 1) (.m 8 1))],[pV 9 (.ite (.s 13) pT (.bin .geq (.m 3 1) (.m 8 1)))]⟩] (.cond (.s 9) (pQ [pR [pV 4 (pU 0),pV 5 (pI 6)]] .ret) .skip),pR [pV 4 (.bin .add (.m 8 0) (.conv .u64 (.m 3 1))),pV 5 (pI 0)]] .ret,[(4,.v),(5,.v)]⟩
def c75:Zf Sol.prog fresh sig [.fz,.fz] [] Try.f75=some p75:=Z2
def p91:Fn:=⟨4,[0,1,2,6],
pQ [pR [pV 3 pF],.reg ⟨[.lt 4 [] (.bin .geq (.s 0) (pI 0)),.lt 5 [] (.ite (.s 4) (.bin .geq (.s 1) (pI 0)) pF),.lt 6 [] (.ite (.s 5) (.bin .leq (.s 0) (.s 2)) pF)],[([(4,true)],.bin .geq (.s 1) (pI 0)),([(5,true)],.bin .leq (.s 0) (.s 2)),([(6,true)],.bin .leq (.s 1) (.bin .sub (.s 2) (.s 0)))],[pV 3 (.ite (.s 6) (.bin .leq (.s 1) (.bin .sub (.s 2) (.s 0))) pF)]⟩] .ret,[(3,.v)]⟩
def c91:Zf Sol.prog fresh sig [.fz,.fz,.fz] [] Try.f91=some p91:=Z2
def p93:Fn:=⟨3,[0,1,2],
pQ [pR [(1,pS 0 7),(2,.m [pU 0,pI 0,pU 0,pI 0,pU 0,pI 0,pU 0,pI 0])],pC [pK 3 113 [.mm 1 0 7,pI 1],pK 4 113 [.mm 1 0 7,pI 2],pK 5 113 [.mm 1 0 7,pI 3],pK 6 113 [.mm 1 0 7,pI 4]] [(2,pM (.ag [.fld (.ag [.one (.s 3),.m 1 3]) 0,.fld (.ag [.one (.s 3),.m 1 3]) 1,.fld (.ag [.one (.s 4),.m 1 4]) 0,.fld (.ag [.one (.s 4),.m 1 4]) 1,.fld (.ag [.one (.s 5),.m 1 5]) 0,.fld (.ag [.one (.s 5),.m 1 5]) 1,.fld (.ag [.one (.s 6),.m 1 6]) 0,.fld (.ag [.one (.s 6),.m 1 6]) 1]) 8)]] .ret,[(2,(.ag 8))]⟩
def c93:Zf Sol.prog fresh sig [.fz] [] Try.f93=some p93:=Z2
def p113:Fn:=⟨10,[0,1,2,4,5,9,8,11,13,15],
pQ [pR [(2,pS 0 7),pV 3 (pU 0)],pR [pV 4 (.m 2 0)],pQ [pR [pV 6 (.s 1)]] (.block 0 (pQ [.block 4 (pQ [.block 3 (pQ [.block 2 (pQ [.block 1 (pQ [pQ [pQ [pR [pV 5 (.bin .eql (.s 6) (pI 2))]] (.cond (.s 5) (.exit 1) .skip),pQ [pR [pV 7 (.bin .eql (.s 6) (pI 1))]] (.cond (.s 7) (.exit 2) .skip),pQ [pR [pV 8 (.bin .eql (.s 6) (pI 4))]] (.cond (.s 8) (.exit 3) .skip),pR [pV 9 (.bin .eql (.s 6) (pI 3))]] (.cond (.s 9) (.exit 4) .skip)] (.exit 0))] (pR [pV 4 (.bin .add (.s 4) (.conv .u64 (.bin .sub (.m 2 1) (.m 2 4))))])),pR [pV 4 (.bin .add (.s 4) (.conv .u64 (.bin .mul (.m 2 2) (.m 2 1))))]] (.exit 0))] (pR [pV 4 (.bin .add (.s 4) (.conv .u64 (.bin .sub (.m 2 1) (.m 2 6))))])),pR [pV 4 (.bin .add (.s 4) (.conv .u64 (.bin .mul (.bin .sub (pI 1) (.m 2 2)) (.m 2 1))))]] (.exit 0))),pR [pV 3 (.s 4)]] .ret,[(3,.v)]⟩
def c113:Zf Sol.prog fresh sig [.fz,.fz] [] Try.f113=some p113:=Z2
end Vm
end
section
namespace Vm
open Go Go.Proofs
structure Ly where
 base:Int
 cap:Int
 to:Int
 low:Int
 high:Int
 old:Int
 far:Int
 deriving DecidableEq,Inhabited
def lyV(l:Ly):V:=.agg [vu l.base,vi l.cap,vi l.to,vi l.low,vi l.high,vi l.old,vi l.far]
@[simp]def Z2C(l:Ly):szV (lyV l) 7=some (lyV l):=rfl
@[simp]def m4(l:Ly):(lyV l).cells=[vu l.base,vi l.cap,vi l.to,vi l.low,vi l.high,vi l.old,vi l.far]:=rfl
@[simp]def PL(l:Ly):fldV (lyV l) 0=some (vu l.base):=rfl
@[simp]def PM(l:Ly):fldV (lyV l) 1=some (vi l.cap):=rfl
@[simp]def PN(l:Ly):fldV (lyV l) 2=some (vi l.to):=rfl
@[simp]def PO(l:Ly):fldV (lyV l) 3=some (vi l.low):=rfl
@[simp]def PP(l:Ly):fldV (lyV l) 4=some (vi l.high):=rfl
@[simp]def PQ(l:Ly):fldV (lyV l) 5=some (vi l.old):=rfl
@[simp]def PR(l:Ly):fldV (lyV l) 6=some (vi l.far):=rfl
def Ly.fits(l:Ly):Prop:=U64 l.base/\Fit l.cap/\Fit l.to/\Fit l.low/\Fit l.high/\Fit l.old/\Fit l.far
def Ws(a b words:Int):Bool:=decide (0<=a)&&decide (0<=b)&&decide (a<=words)&&decide (b<=words-a)
def Zi(l:Ly):Bool:=decide (0<=l.cap)&&decide (l.cap<=4096)&&decide (1<=l.base)&&decide (l.base<=9223372036854775808-2*l.cap)&&(decide (l.to=0)||decide (l.to=1))&&Ws l.low l.high l.cap&&Ws l.old l.far l.cap
theorem Yv{l:Ly}:Zi l=true↔0<=l.cap/\l.cap<=4096/\1<=l.base/\l.base<=9223372036854775808-2*l.cap/\(l.to=0\/l.to=1)/\(0<=l.low/\0<=l.high/\l.low<=l.cap/\l.high<=l.cap-l.low)/\(0<=l.old/\0<=l.far/\l.old<=l.cap/\l.far<=l.cap-l.old):=by
 simp[Zi,Ws,and_assoc]
theorem ZR{l:Ly}:Zi l=false↔ ¬(0<=l.cap/\l.cap<=4096/\1<=l.base/\l.base<=9223372036854775808-2*l.cap/\(l.to=0\/l.to=1)/\(0<=l.low/\0<=l.high/\l.low<=l.cap/\l.high<=l.cap-l.low)/\(0<=l.old/\0<=l.far/\l.old<=l.cap/\l.far<=l.cap-l.old)):=by
 grind [Yv]
def qU{a b w:Int}(ha:Fit a)(hb:Fit b)(hw:Fit w):VC Sol.prog 91 false [vi a,vi b,vi w] (.bool (Ws a b w)):=by
 refine Z8 Sol.func91 follows Z2 c91 rfl ?_;obtain⟨a1,a2⟩:=ha;obtain⟨w1,w2⟩:=hw;by_cases h1:0<=a
 ·by_cases h2:a<=w
  ·have e:=Z7 (w-a) Z0 Z0;simp_all[p91,Ws]
  ·by_cases h3:0<=b<;>simp[p91,Ws,h1,h2,h3]
 ·simp[p91,Ws,h1]
def qs{l:Ly}(hl:l.fits):VC Sol.prog 65 false [lyV l] (.bool (Zi l)):=by
 refine Z8 Sol.func65 follows Z2 c65 rfl ?_;obtain⟨⟨hb1,hb2⟩,hc,ht,h1,h2,h3,h4⟩:=hl;obtain⟨c1,c2⟩:=hc;simp[p65];by_cases g1:l.cap<0
 ·grind [Zi,ZR]
 by_cases g2:4096<l.cap
 ·grind [Zi,ZR]
 by_cases g3:l.base<1
 ·grind [Zi,ZR]
 have e1:=Zp l.cap Z0 Z0;have e2:=Zp (2*l.cap) Z0 Z0;have e3:=Zp (9223372036854775808-2*l.cap) Z0 Z0;by_cases g4:9223372036854775808-2*l.cap<l.base
 ·grind [Zi,ZR]
 by_cases g5:l.to=0\/l.to=1
 ·have k1:=qU h1 h2 ⟨c1,c2⟩;have k2:=qU h3 h4 ⟨c1,c2⟩
  have hr:Zi l=(Ws l.low l.high l.cap&&Ws l.old l.far l.cap):=by
   obtain h|h:=g5<;>simp[Zi,show 0<=l.cap by omega,show l.cap<=4096 by omega,show 1<=l.base by omega,show l.base<=9223372036854775808-2*l.cap by omega,h]
  rw[hr];obtain g5|g5:=g5
  all_goals
   cases hw:Ws l.low l.high l.cap
   ·rw[hw]at k1;simp[g1,g2,g3,e1,e2,e3,g4,g5];refine Z4 k1 Z1 ?_;simp
   ·rw[hw]at k1;simp[g1,g2,g3,e1,e2,e3,g4,g5];refine Z4 k1 Z1 ?_;simp;refine Z4 k2 Z1 ?_;simp
 simp_all[Zi,ZR]
def qp{l:Ly}(hl:l.fits):VC Sol.prog 62 false [lyV l] (.bool (Zi l)):=by
 refine Z8 Sol.func62 follows Z2 c62 rfl ?_;obtain⟨⟨hb1,hb2⟩,hc,ht,h1,h2,h3,h4⟩:=hl;obtain⟨c1,c2⟩:=hc;simp[p62];by_cases g3:l.base<1
 ·grind [Zi,ZR]
 by_cases g1:l.cap<0
 ·grind [Zi,ZR]
 by_cases g2:4096<l.cap
 ·grind [Zi,ZR]
 have e1:=Zp l.cap Z0 Z0;have e2:=Zp (2*l.cap) Z0 Z0;have e3:=Zp (9223372036854775808-2*l.cap) Z0 Z0;by_cases g4:9223372036854775808-2*l.cap<l.base
 ·grind [Zi,ZR]
 by_cases g5:l.to<0
 ·grind [Zi,ZR]
 by_cases g6:1<l.to
 ·grind [Zi,ZR]
 by_cases q1:l.low<0
 ·grind [Zi,ZR]
 by_cases q2:l.high<0
 ·grind [Zi,ZR]
 by_cases q3:l.old<0
 ·grind [Zi,ZR]
 by_cases q4:l.far<0
 ·grind [Zi,ZR]
 obtain⟨l1,l2⟩:=h1;obtain⟨o1,o2⟩:=h3;have w1:=Z7 (l.cap-l.low) Z0 Z0;have w2:=Z7 (l.cap-l.old) Z0 Z0
 grind [Zi,Yv,ZR]
def fstL(l:Ly)(part:Int):Int:=
 if part=1 then l.base+l.to*l.cap else if part=2 then l.base+l.to*l.cap+(l.cap-l.high)else if part=3 then l.base+(1-l.to)*l.cap else l.base+(1-l.to)*l.cap+(l.cap-l.far)
def sizL(l:Ly)(part:Int):Int:=if part=1 then l.low else if part=2 then l.high else if part=3 then l.old else l.far
def IJ{l:Ly}(hr:Zi l=true):(l.to*l.cap=0/\(1-l.to)*l.cap=l.cap)\/(l.to*l.cap=l.cap/\(1-l.to)*l.cap=0):=by
 grind [Yv]
def Y1{l:Ly}(hr:Zi l=true)(k:Int):1<=fstL l k/\fstL l k+sizL l k<=9223372036854775808/\0<=sizL l k/\sizL l k<=4096:=by
 have h:=Yv.1 hr;have ht:=IJ hr;unfold fstL sizL;omega
def RM{l:Ly}(hr:Zi l=true){k:Int}(hk:1<=k/\k<=4):VC Sol.prog 113 false [lyV l,vi k] (vu (fstL l k)):=by
 refine Z8 Sol.func113 follows Z2 c113 rfl ?_;have h:=Yv.1 hr;have ht:=IJ hr;have w1:=Z7 (l.to*l.cap) Z0 Z0;have w2:=Z7 (1-l.to) Z0 Z0;have w3:=Z7 ((1-l.to)*l.cap) Z0 Z0;have w4:=Z7 (l.cap-l.high) Z0 Z0;have w5:=Z7 (l.cap-l.far) Z0 Z0;have u1:=Zp (l.to*l.cap) Z0 Z0;have u3:=Zp ((1-l.to)*l.cap) Z0 Z0;have u4:=Zp (l.cap-l.high) Z0 Z0;have u5:=Zp (l.cap-l.far) Z0 Z0;have v1:=Zp (l.base+l.to*l.cap) Z0 Z0;have v2:=Zp (l.base+(l.cap-l.high)) Z0 Z0;have v3:=Zp (l.base+(l.cap-l.high)+l.to*l.cap) Z0 Z0;have v4:=Zp (l.base+(1-l.to)*l.cap) Z0 Z0;have v5:=Zp (l.base+(l.cap-l.far)) Z0 Z0;have v6:=Zp (l.base+(l.cap-l.far)+(1-l.to)*l.cap) Z0 Z0;have hk':k=1\/k=2\/k=3\/k=4:=Z0;obtain rfl|rfl|rfl|rfl:=hk'
 ·simp[p113,Ux,fstL,w1,u1,v1]
 ·simp[p113,Ux,fstL,w1,u1,w4,u4,v2,v3];omega
 ·simp[p113,Ux,fstL,w2,w3,u3,v4]
 ·simp[p113,Ux,fstL,w2,w3,u3,w5,u5,v5,v6];omega
def L2(l:Ly):V:=.agg [vu (fstL l 1),vi l.low,vu (fstL l 2),vi l.high,vu (fstL l 3),vi l.old,vu (fstL l 4),vi l.far]
def IG{l:Ly}(hr:Zi l=true):VC Sol.prog 93 false [lyV l] (L2 l):=by
 refine Z8 Sol.func93 follows Z2 c93 rfl ?_;simp[p93];refine Z4 (RM hr (k:=1) Z0) (by simp[lyV]) ?_;simp;refine Z4 (RM hr (k:=2) Z0) (by simp[lyV]) ?_;simp;refine Z4 (RM hr (k:=3) Z0) (by simp[lyV]) ?_;simp;refine Z4 (RM hr (k:=4) Z0) (by simp[lyV]) ?_;simp[L2]
@[simp]def Z0z(l:Ly):sizL l 1=l.low:=rfl
@[simp]def Z0A(l:Ly):sizL l 2=l.high:=rfl
@[simp]def Z0B(l:Ly):sizL l 3=l.old:=rfl
@[simp]def Z0C(l:Ly):sizL l 4=l.far:=rfl
def ZG(l:Ly)(part at_:Int):Int×Int:=
 if Zi l=false then(0,1)else if part<1\/4<part then(0,6)else if at_<0\/sizL l part<=at_ then(0,6)else(fstL l part+at_,0)
def AG{l:Ly}(hl:l.fits){part at_:Int}:VC Sol.prog 75 false [lyV l,.agg [vi part,vi at_]] (.tup [vu (ZG l part at_).1,vi (ZG l part at_).2]):=by
 refine Z8 Sol.func75 follows Z2 c75 rfl ?_;simp[p75];refine Z4 (qs hl) Z1 ?_;cases hr:Zi l
 ·simp[ZG,hr]
 ·simp;by_cases h1:part<1
  ·grind [ZG]
  by_cases h2:4<part
  ·simp_all[ZG]
  have hk:part=1\/part=2\/part=3\/part=4:=Z0;simp[h1,h2];refine Z4 (IG hr) Z1 ?_;obtain rfl|rfl|rfl|rfl:=hk
  ·have hw:=Y1 hr 1;simp only[Z0z]at hw;simp[L2,aiV,Z7];by_cases h3:at_<0
   ·grind [ZG]
   by_cases h4:l.low<=at_
   ·simp_all[ZG]
   ·have u1:=Zp at_ Z0 Z0;have u2:=Zp (fstL l 1+at_) Z0 Z0;simp_all[ZG]
  ·have hw:=Y1 hr 2;simp only[Z0A]at hw;simp[L2,aiV,Z7];by_cases h3:at_<0
   ·grind [ZG]
   by_cases h4:l.high<=at_
   ·simp_all[ZG]
   ·have u1:=Zp at_ Z0 Z0;have u2:=Zp (fstL l 2+at_) Z0 Z0;simp_all[ZG]
  ·have hw:=Y1 hr 3;simp only[Z0B]at hw;simp[L2,aiV,Z7];by_cases h3:at_<0
   ·grind [ZG]
   by_cases h4:l.old<=at_
   ·simp_all[ZG]
   ·have u1:=Zp at_ Z0 Z0;have u2:=Zp (fstL l 3+at_) Z0 Z0;simp_all[ZG]
  ·have hw:=Y1 hr 4;simp only[Z0C]at hw;simp[L2,aiV,Z7];by_cases h3:at_<0
   ·grind [ZG]
   by_cases h4:l.far<=at_
   ·simp_all[ZG]
   ·have u1:=Zp at_ Z0 Z0;have u2:=Zp (fstL l 4+at_) Z0 Z0;simp_all[ZG]
def X5{l:Ly}(hr:Zi l=true){k:Int}(hk:1<=k/\k<=4):VC Sol.prog 63 false [lyV l,vi k] (.tup [vu (fstL l k),vi (sizL l k)]):=by
 refine Z8 Sol.func63 follows Z2 c63 rfl ?_;have h:=Yv.1 hr;have ht:=IJ hr;have w1:=Z7 (l.to*l.cap) Z0 Z0;have w2:=Z7 (1-l.to) Z0 Z0;have w3:=Z7 ((1-l.to)*l.cap) Z0 Z0;have w4:=Z7 (l.cap-l.high) Z0 Z0;have w5:=Z7 (l.cap-l.far) Z0 Z0;have u1:=Zp (l.to*l.cap) Z0 Z0;have u3:=Zp ((1-l.to)*l.cap) Z0 Z0;have u4:=Zp (l.cap-l.high) Z0 Z0;have u5:=Zp (l.cap-l.far) Z0 Z0;have v1:=Zp (l.base+l.to*l.cap) Z0 Z0;have v2:=Zp (l.base+l.to*l.cap+(l.cap-l.high)) Z0 Z0;have v4:=Zp (l.base+(1-l.to)*l.cap) Z0 Z0;have v5:=Zp (l.base+(1-l.to)*l.cap+(l.cap-l.far)) Z0 Z0;have hk':k=1\/k=2\/k=3\/k=4:=Z0;obtain rfl|rfl|rfl|rfl:=hk'
 all_goals simp[p63,Ux,fstL,w1,u1,w2,w3,u3,w4,u4,w5,u5,v1,v2,v4,v5]
def Jg{l:Ly}(hr:Zi l=true){k:Int}(hk:k<1\/4<k):VC Sol.prog 63 false [lyV l,vi k] (.tup [vu 0,vi 0]):=by
 refine Z8 Sol.func63 follows Z2 c63 rfl ?_;simp[p63,Ux,show k≠1 by omega,show k≠2 by omega,show k≠3 by omega,show k≠4 by omega]
def Ah{l:Ly}(hl:l.fits){part at_:Int}:VC Sol.prog 31 false [lyV l,.agg [vi part,vi at_]] (.tup [vu (ZG l part at_).1,vi (ZG l part at_).2]):=by
 refine Z8 Sol.func31 follows Z2 c31 rfl ?_;simp[p31];refine Z4 (qp hl) Z1 ?_;cases hr:Zi l
 ·simp[ZG,hr]
 ·simp;by_cases hp:part<1\/4<part
  ·refine Z4 (Jg hr hp) Z1 ?_;by_cases h3:at_<0
   ·simp[ZG,hr,hp,h3]
   ·simp[ZG,hr,hp,h3,show 0<=at_ by omega]
  have hk:part=1\/part=2\/part=3\/part=4:=Z0;obtain rfl|rfl|rfl|rfl:=hk
  ·have hw:=Y1 hr 1;simp only[Z0z]at hw;refine Z4 (X5 hr (k:=1) Z0) Z1 ?_;by_cases h3:at_<0
   ·simp[ZG,hr,h3]
   by_cases h4:l.low<=at_
   ·simp[ZG,hr,h3,h4]
   ·have u1:=Zp at_ Z0 Z0;have u2:=Zp (fstL l 1+at_) Z0 Z0;simp[ZG,hr,h3,h4,u1,u2]
  ·have hw:=Y1 hr 2;simp only[Z0A]at hw;refine Z4 (X5 hr (k:=2) Z0) Z1 ?_;by_cases h3:at_<0
   ·simp[ZG,hr,h3]
   by_cases h4:l.high<=at_
   ·simp[ZG,hr,h3,h4]
   ·have u1:=Zp at_ Z0 Z0;have u2:=Zp (fstL l 2+at_) Z0 Z0;simp[ZG,hr,h3,h4,u1,u2]
  ·have hw:=Y1 hr 3;simp only[Z0B]at hw;refine Z4 (X5 hr (k:=3) Z0) Z1 ?_;by_cases h3:at_<0
   ·simp[ZG,hr,h3]
   by_cases h4:l.old<=at_
   ·simp[ZG,hr,h3,h4]
   ·have u1:=Zp at_ Z0 Z0;have u2:=Zp (fstL l 3+at_) Z0 Z0;simp[ZG,hr,h3,h4,u1,u2]
  ·have hw:=Y1 hr 4;simp only[Z0C]at hw;refine Z4 (X5 hr (k:=4) Z0) Z1 ?_;by_cases h3:at_<0
   ·simp[ZG,hr,h3]
   by_cases h4:l.far<=at_
   ·simp[ZG,hr,h3,h4]
   ·have u1:=Zp at_ Z0 Z0;have u2:=Zp (fstL l 4+at_) Z0 Z0;simp[ZG,hr,h3,h4,u1,u2]
def inL(l:Ly)(a k:Int):Bool:=decide (fstL l k<=a)&&decide (a<fstL l k+sizL l k)
def Hd(l:Ly)(a:Int):Int×Int×Int:=
 if Zi l=false then(0,0,1)else if inL l a 1 then(1,a-fstL l 1,0)else if inL l a 2 then(2,a-fstL l 2,0)else if inL l a 3 then(3,a-fstL l 3,0)else if inL l a 4 then(4,a-fstL l 4,0)else(0,0,6)
end Vm
end
section
namespace Vm
open Go
open Go.Proofs
def p28:Fn:=⟨8,[0,1,2,4,6,5,10,14],
pQ [pR [(2,pS 0 10),pV 3 pN],pQ [pR [pV 5 (.s 1)]] (.block 0 (pQ [pR [pV 4 (.bin .eql (.s 5) (pI 1))]] (.cond (.s 4) (pQ [pR [pV 3 (.m 2 5)]] .ret) (pQ [pR [pV 6 (.bin .eql (.s 5) (pI 2))]] (.cond (.s 6) (pQ [pR [pV 3 (.m 2 6)]] .ret) (pQ [pR [pV 7 (.bin .eql (.s 5) (pI 3))]] (.cond (.s 7) (pQ [pR [pV 3 (.m 2 7)]] .ret) .skip))))))),pR [pV 3 (.m 2 8)]] .ret,[(3,.v)]⟩
def c28:Zf Sol.prog fresh sig [.fz,.fz] [] Try.f28=some p28:=Z2
def p29:Fn:=⟨9,[0,1,2,3,6,10,7,14,18],
pQ [pR [(3,pS 0 10),(4,pZ)],pQ [pR [pV 6 (.s 1)]] (.block 0 (pQ [pR [pV 5 (.bin .eql (.s 6) (pI 1))]] (.cond (.s 5) (pR [(3,.m [.m 3 0,.m 3 1,.m 3 2,.m 3 3,.m 3 4,.one (.s 2),.m 3 6,.m 3 7,.m 3 8,.m 3 9])]) (pQ [pR [pV 7 (.bin .eql (.s 6) (pI 2))]] (.cond (.s 7) (pR [(3,.m [.m 3 0,.m 3 1,.m 3 2,.m 3 3,.m 3 4,.m 3 5,.one (.s 2),.m 3 7,.m 3 8,.m 3 9])]) (pQ [pR [pV 8 (.bin .eql (.s 6) (pI 3))]] (.cond (.s 8) (pR [(3,.m [.m 3 0,.m 3 1,.m 3 2,.m 3 3,.m 3 4,.m 3 5,.m 3 6,.one (.s 2),.m 3 8,.m 3 9])]) (pR [(3,.m [.m 3 0,.m 3 1,.m 3 2,.m 3 3,.m 3 4,.m 3 5,.m 3 6,.m 3 7,.one (.s 2),.m 3 9])])))))))),pR [(4,pM (.mm 3 0 10) 10)]] .ret,[(4,(.ag 10))]⟩
def c29:Zf Sol.prog fresh sig [.fz,.fz,.fz] [] Try.f29=some p29:=Z2
def p32:Fn:=⟨3,[0,1,2],
pQ [pR [(1,pS 0 10),(2,.m [pU 0,pI 0,pI 0,pI 0,pI 0,pI 0,pI 0])],pR [(2,pM (.ag [.m 1 0,.m 1 1,.m 1 2,.len (.m 1 5),.len (.m 1 6),.len (.m 1 7),.len (.m 1 8)]) 7)]] .ret,[(2,(.ag 7))]⟩
def c32:Zf Sol.prog fresh sig [.fz] [] Try.f32=some p32:=Z2
def p49:Fn:=⟨7,[0,1,4,10,5,14,25],
pQ [pR [pV 2 pF],pQ [pR [pV 3 (.bin .neq (.len (.s 0)) (.len (.s 1)))]] (.cond (.s 3) (pQ [pR [pV 2 pF]] .ret) .skip),pQ [pR [pV 4 (pI 0)]] (.block 0 (.loop [0,1,2,3,4] (pQ [pQ [pR [pV 5 (.bin .lss (.s 4) (.len (.s 0)))]] (.cond (.s 5) .skip (.exit 0)),.block 1 (pQ [pR [pV 6 (.bin .neq (.fld (.idx (.s 0) (.s 4) 1) 0) (.fld (.idx (.s 1) (.s 4) 1) 0))]] (.cond (.s 6) (pQ [pR [pV 2 pF]] .ret) .skip))] (pR [pV 4 (.bin .add (.s 4) (pI 1))])))),pR [pV 2 pT]] .ret,[(2,.v)]⟩
def c49:Zf Sol.prog fresh sig [.fz,.fz] [] Try.f49=some p49:=Z2
def p53:Fn:=⟨4,[0,1,4,6],
pQ [pR [pV 2 (pI 0)],pQ [pR [pV 3 (.bin .lss (.s 0) (pI 0))]] (.cond (.s 3) (pR [pV 0 (.un .neg (.bin .add (.s 0) (pI 1)))]) .skip),pR [pV 2 (.bin .rem (.s 0) (.s 1))]] .ret,[(2,.v)]⟩
def c53:Zf Sol.prog fresh sig [.fz,.fz] [] Try.f53=some p53:=Z2
def p64:Fn:=⟨3,[0,1,2],
pQ [pR [(1,pS 0 10),(2,.m [pU 0,pI 0,pI 0,pI 0,pI 0,pI 0,pI 0])],pR [(2,pM (.ag [.m 1 0,.m 1 1,.m 1 2,.len (.m 1 5),.len (.m 1 6),.len (.m 1 7),.len (.m 1 8)]) 7)]] .ret,[(2,(.ag 7))]⟩
def c64:Zf Sol.prog fresh sig [.fz] [] Try.f64=some p64:=Z2
def p77:Fn:=⟨4,[0,1,4,6],
pQ [pR [pV 2 (pI 0)],pQ [pR [pV 3 (.bin .lss (.s 0) (pI 0))]] (.cond (.s 3) (pR [pV 0 (.un .neg (.bin .add (.s 0) (pI 1)))]) .skip),pR [pV 2 (.bin .rem (.s 0) (.s 1))]] .ret,[(2,.v)]⟩
def c77:Zf Sol.prog fresh sig [.fz,.fz] [] Try.f77=some p77:=Z2
end Vm
end
section
namespace Vm
open Go Go.Proofs
structure Hp where
 base:Int
 cap:Int
 to:Int
 cycle:Bool
 scan:Int
 low:List Int
 high:List Int
 old:List Int
 far:List Int
 roots:List Int
 deriving DecidableEq,Inhabited
def hpV(h:Hp):V:=.agg [vu h.base,vi h.cap,vi h.to,.bool h.cycle,vi h.scan,.sl (h.low.map vu),.sl (h.high.map vu),.sl (h.old.map vu),.sl (h.far.map vu),.sl (h.roots.map vu)]
@[simp]def Z2B(h:Hp):szV (hpV h) 10=some (hpV h):=rfl
@[simp]def k9(h:Hp):(hpV h).cells=[vu h.base,vi h.cap,vi h.to,.bool h.cycle,vi h.scan,.sl (h.low.map vu),.sl (h.high.map vu),.sl (h.old.map vu),.sl (h.far.map vu),.sl (h.roots.map vu)]:=rfl
@[simp]def PA(h:Hp):fldV (hpV h) 0=some (vu h.base):=rfl
@[simp]def PB(h:Hp):fldV (hpV h) 1=some (vi h.cap):=rfl
@[simp]def PC(h:Hp):fldV (hpV h) 2=some (vi h.to):=rfl
@[simp]def PD(h:Hp):fldV (hpV h) 3=some (.bool h.cycle):=rfl
@[simp]def PE(h:Hp):fldV (hpV h) 4=some (vi h.scan):=rfl
@[simp]def PF(h:Hp):fldV (hpV h) 5=some (.sl (h.low.map vu)):=rfl
@[simp]def PG(h:Hp):fldV (hpV h) 6=some (.sl (h.high.map vu)):=rfl
@[simp]def PH(h:Hp):fldV (hpV h) 7=some (.sl (h.old.map vu)):=rfl
@[simp]def PI(h:Hp):fldV (hpV h) 8=some (.sl (h.far.map vu)):=rfl
@[simp]def PJ(h:Hp):fldV (hpV h) 9=some (.sl (h.roots.map vu)):=rfl
def layH(h:Hp):Ly:=⟨h.base,h.cap,h.to,h.low.length,h.high.length,h.old.length,h.far.length⟩
structure Hp.ok (h:Hp):Prop where
 base:U64 h.base
 cap:Fit h.cap
 to:Fit h.to
 scan:Fit h.scan
 low:h.low.length<=1000000
 high:h.high.length<=1000000
 old:h.old.length<=1000000
 far:h.far.length<=1000000
 roots:h.roots.length<=1000000
 lowW:∀w∈h.low,U64 w
 highW:∀w∈h.high,U64 w
 oldW:∀w∈h.old,U64 w
 farW:∀w∈h.far,U64 w
 rootsW:∀w∈h.roots,U64 w
def Ls{α:Type}{l:List α}(h:l.length<=1000000):Fit (l.length:Int):=⟨Z0,Z0⟩
def Hp.ok.lay{h:Hp}(hh:h.ok):(layH h).fits:=⟨hh.base,hh.cap,hh.to,Ls hh.low,Ls hh.high,Ls hh.old,Ls hh.far⟩
def zq{h:Hp}:VC Sol.prog 64 false [hpV h] (lyV (layH h)):=by
 refine Z8 Sol.func64 follows Z2 c64 rfl ?_;simp[p64,lyV,layH]
def qn{h:Hp}:VC Sol.prog 32 false [hpV h] (lyV (layH h)):=by
 refine Z8 Sol.func32 follows Z2 c32 rfl ?_;simp[p32,lyV,layH]
def Zd(h:Hp)(n:Int):List Int:=if n=1 then h.low else if n=2 then h.high else if n=3 then h.old else h.far
@[simp] theorem Mi(h:Hp):Zd h 1=h.low:=rfl
@[simp] theorem Mj(h:Hp):Zd h 2=h.high:=rfl
@[simp] theorem Mk(h:Hp):Zd h 3=h.old:=rfl
@[simp] theorem Ml(h:Hp):Zd h 4=h.far:=rfl
def qZ{h:Hp}{n:Int}:VC Sol.prog 28 false [hpV h,vi n] (.sl ((Zd h n).map vu)):=by
 refine Z8 Sol.func28 follows Z2 c28 rfl ?_;by_cases h1:n=1
 ·simp[p28,Zd,h1]
 by_cases h2:n=2
 ·simp[p28,Zd,h2]
 by_cases h3:n=3<;>simp[p28,Zd,h1,h2,h3]
def Xa(h:Hp)(n:Int)(l:List Int):Hp:=if n=1 then {h with low:=l}else if n=2 then {h with high:=l}else if n=3 then {h with old:=l}else {h with far:=l}
@[simp]def Z3l(h:Hp)(l:List Int):Xa h 1 l= {h with low:=l}:=rfl
@[simp]def Z3m(h:Hp)(l:List Int):Xa h 2 l= {h with high:=l}:=rfl
@[simp]def Z3n(h:Hp)(l:List Int):Xa h 3 l= {h with old:=l}:=rfl
@[simp]def Z3o(h:Hp)(l:List Int):Xa h 4 l= {h with far:=l}:=rfl
def j0{h:Hp}{n:Int}{l:List Int}:VC Sol.prog 29 false [hpV h,vi n,.sl (l.map vu)] (hpV (Xa h n l)):=by
 refine Z8 Sol.func29 follows Z2 c29 rfl ?_;by_cases h1:n=1
 ·simp[p29,Xa,h1,hpV]
 by_cases h2:n=2
 ·simp[p29,Xa,h2,hpV]
 by_cases h3:n=3<;>simp[p29,Xa,h1,h2,h3,hpV]
theorem YX{α:Type}{a b:List α}{i:Nat}(h:a.take i=b.take i)(hx:a[i]?=b[i]?):a.take (i+1)=b.take (i+1):=by
 rw[Z5n,Z5n,h,hx]
def Z2a{α:Type}{a b:List α}{i:Nat}(h:a[i]? ≠b[i]?):a≠b:=λe=>h (by rw[e])
def NI{a b:List Int}(ha:a.length<=1000000):VC Sol.prog 49 false [.sl (a.map vu),.sl (b.map vu)] (.bool (decide (a=b))):=by
 refine Z8 Sol.func49 follows Z2 c49 rfl ?_;by_cases hl:a.length=b.length
 ·simp[p49,hl];refine S7 4 b.length (λi=>a.take i=b.take i) Z1 Z1 Z1 ?_;intro i hi heq;have hw:=Z7 ((i:Int)+1) Z0 Z0;by_cases h:i<b.length
  ·have h':i<a.length:=Z0;by_cases hx:a[i]=b[i]
   ·simp[h,h',hx,hw];exact YX heq (by simp[h,h',hx])
   ·simp[h,h',hx];exact Z2a (i:=i) (by simp[h,h',hx])
  ·have:i=b.length:=Z0;subst this;rw[Z5D,Z52 Z0]at heq;simp[heq]
 ·simp[p49,show ¬((a.length:Int)=(b.length:Int))by omega];intro e;subst e;exact hl rfl
def pick(c n:Int):Int:=(if c<0 then-(c+1)else c) %n
def Xw{c n:Int}(hn:0<n):0<=pick c n/\pick c n<n:=⟨Z8o _ Z0,Z7R _ hn⟩
def VP{c n:Int}(hc:Fit c)(hn:0<n):VC Sol.prog 77 false [vi c,vi n] (vi (pick c n)):=by
 refine Z8 Sol.func77 follows Z2 c77 rfl ?_;obtain⟨h1,h2⟩:=hc;by_cases h:c<0
 ·simp[p77,h];simp(disch:=omega) only[Z7];refine⟨Z0,?_⟩;unfold pick;rw[if_pos h,Z5p Z0]
 ·simp[p77,h];refine⟨Z0,?_⟩;unfold pick;rw[if_neg h,Z5p Z0]
def qc{c n:Int}(hc:Fit c)(hn:0<n):VC Sol.prog 53 false [vi c,vi n] (vi (pick c n)):=by
 refine Z8 Sol.func53 follows Z2 c53 rfl ?_;obtain⟨h1,h2⟩:=hc;by_cases h:c<0
 ·simp[p53,h];simp(disch:=omega) only[Z7];refine⟨Z0,?_⟩;unfold pick;rw[if_pos h,Z5p Z0]
 ·simp[p53,h];refine⟨Z0,?_⟩;unfold pick;rw[if_neg h,Z5p Z0]
end Vm
end
section
namespace Vm
open Go
open Go.Proofs
def p23:Fn:=⟨13,[0,1,4,5,6,7,16,8,9,30,10,78,97],
pQ [pR [(2,.m [pN,pN])],pR [pV 3 (.mn (.len (.s 0)) (pI 10))],pR [(4,.m [pN,pN])],pQ [pR [pV 5 (pI 0)]] (.block 0 (.loop [0,1,2,3,4,5] (pQ [pQ [pR [pV 6 (.bin .lss (.s 5) (.s 3))]] (.cond (.s 6) .skip (.exit 0)),.block 1 (pQ [pR [(7,.m [pN,pN])],pQ [pR [pV 8 (pI 0)]] (.block 2 (.loop [0,1,2,3,4,5,6,7,8] (pQ [pQ [.reg ⟨[.lt 13 [] (.bin .lss (.s 8) (.len (.fld (.idx (.s 0) (.s 5) 2) 0)))],[([(13,true)],.bin .lss (.s 8) (pI 4))],[pV 9 (.ite (.s 13) (.bin .lss (.s 8) (pI 4)) pF)]⟩] (.cond (.s 9) .skip (.exit 2)),.block 3 (pC [pK 14 53 [.fld (.idx (.fld (.idx (.s 0) (.s 5) 2) 0) (.s 8) 1) 0,.bin .add (.s 3) (pI 1)]] [(7,.m [.app (.m 7 0) (.lit [.bin .sub (.s 14) (pI 1)]) 1,.m 7 1])])] (pR [pV 8 (.bin .add (.s 8) (pI 1))])))),pR [(7,.m [.m 7 0,.app pN (.slc (.fld (.idx (.s 0) (.s 5) 2) 1) (pI 0) (.mn (.len (.fld (.idx (.s 0) (.s 5) 2) 1)) (pI 4)) 1) 1])]] (pR [(4,.m [.app (.m 4 0) (.lit [.mm 7 0 2]) 2,.m 4 1])]))] (pR [pV 5 (.bin .add (.s 5) (pI 1))])))),pQ [pR [pV 10 (pI 0)]] (.block 4 (.loop [0,1,2,3,4,5,6,10] (pQ [pQ [.reg ⟨[.lt 15 [] (.bin .lss (.s 10) (.len (.s 1)))],[([(15,true)],.bin .lss (.s 10) (pI 5))],[pV 11 (.ite (.s 15) (.bin .lss (.s 10) (pI 5)) pF)]⟩] (.cond (.s 11) .skip (.exit 4)),.block 5 (pC [pK 16 53 [.fld (.idx (.s 1) (.s 10) 1) 0,.bin .add (.s 3) (pI 1)]] [(4,.m [.m 4 0,.app (.m 4 1) (.lit [.bin .sub (.s 16) (pI 1)]) 1])])] (pR [pV 10 (.bin .add (.s 10) (pI 1))])))),pQ [pR [pV 12 (.bin .eql (.len (.m 4 1)) (pI 0))]] (.cond (.s 12) (pR [(4,.m [.m 4 0,.app (.m 4 1) (.lit [.bin .sub (.s 3) (pI 1)]) 1])]) .skip),pR [(2,pM (.mm 4 0 2) 2)]] .ret,[(2,(.ag 2))]⟩
def c23:Zf Sol.prog fresh sig [.fz,.fz] [] Try.f23=some p23:=Z2
def p76:Fn:=⟨10,[0,1,2,3,6,7,8,14,9,31],
pQ [pR [(3,pS 0 7),pV 4 (pI 0),pV 5 pF],pR [pV 6 (.s 1)],pQ [pR [pV 7 (.bin .gtr (.len (.m 3 2)) (pI 0))]] (.cond (.s 7) (pR [pV 6 (.fld (.idx (.m 3 2) (.bin .rem (.s 1) (.len (.m 3 2))) 1) 0)]) .skip),pC [pK 10 77 [.s 6,pI 3]] [pV 8 (.s 10)],pQ [.reg ⟨[.lt 11 [] (.bin .eql (.s 8) (pI 2))],[([(11,true)],.un .not (.s 2))],[pV 9 (.ite (.s 11) (.un .not (.s 2)) pF)]⟩] (.cond (.s 9) (pR [pV 8 (pI 1)]) .skip),pC [pK 12 77 [.bin .quo (.s 6) (pI 3),pI 2]] [pV 4 (.s 8),pV 5 (.bin .eql (.s 12) (pI 1))]] .ret,[(4,.v),(5,.v)]⟩
def c76:Zf Sol.prog fresh sig [.fz,.fz,.fz] [] Try.f76=some p76:=Z2
def p78:Fn:=⟨15,[0,1,2,3,4,5,6,8,9,10,11,12,44,13,76],
pQ [pR [(4,pS 0 14),(5,pS 1 2),(6,pS 2 2),(7,.m [pU 0,pI 0,pI 0,pF,pI 0,pN,pN,pN,pN,pN,pN,pN,pN,pN])],pC [pK 15 28 [.mm 4 0 10,.m 5 0]] [pV 8 (.app pN (.s 15) 1)],pC [pK 16 99 [.ag [.bin .add (.len (.m 6 0)) (.len (.m 6 1)),.len (.m 6 0)]]] [pV 9 (.ext (.s 16) 0),pV 10 (.ext (.s 16) 1)],.reg ⟨[],[([],.idx (.s 8) (.m 5 1) 1)],[pV 8 (.upd (.s 8) (.m 5 1) 0 (.one (.s 9)))]⟩,pQ [pR [pV 11 (pI 0)]] (.block 0 (.loop [0,1,2,3,4,5,6,7,8,9,10,11] (pQ [pQ [pR [pV 12 (.bin .lss (.s 11) (.len (.m 6 0)))]] (.cond (.s 12) .skip (.exit 0)),.block 1 (.reg ⟨[pK 17 100 [.mm 4 0 14,.ag [.m 5 0,.bin .add (.bin .add (.m 5 1) (pI 1)) (.s 11)],.fld (.idx (.m 6 0) (.s 11) 1) 0,.bin .add (.s 3) (.s 11)]],[([],.idx (.s 8) (.bin .add (.bin .add (.m 5 1) (pI 1)) (.s 11)) 1)],[pV 8 (.upd (.s 8) (.bin .add (.bin .add (.m 5 1) (pI 1)) (.s 11)) 0 (.one (.s 17)))]⟩)] (pR [pV 11 (.bin .add (.s 11) (pI 1))])))),pQ [pR [pV 13 (pI 0)]] (.block 2 (.loop [0,1,2,3,4,5,6,7,8,9,10,11,12,13] (pQ [pQ [pR [pV 14 (.bin .lss (.s 13) (.len (.m 6 1)))]] (.cond (.s 14) .skip (.exit 2)),.block 3 (.reg ⟨[],[([],.idx (.s 8) (.bin .add (.bin .add (.bin .add (.m 5 1) (pI 1)) (.len (.m 6 0))) (.s 13)) 1)],[pV 8 (.upd (.s 8) (.bin .add (.bin .add (.bin .add (.m 5 1) (pI 1)) (.len (.m 6 0))) (.s 13)) 0 (.fld (.idx (.m 6 1) (.s 13) 1) 0))]⟩)] (pR [pV 13 (.bin .add (.s 13) (pI 1))])))),pC [pK 18 29 [.mm 4 0 10,.m 5 0,.s 8]] [(4,.m [.fld (.sz (.s 18) 10) 0,.fld (.sz (.s 18) 10) 1,.fld (.sz (.s 18) 10) 2,.fld (.sz (.s 18) 10) 3,.fld (.sz (.s 18) 10) 4,.fld (.sz (.s 18) 10) 5,.fld (.sz (.s 18) 10) 6,.fld (.sz (.s 18) 10) 7,.fld (.sz (.s 18) 10) 8,.fld (.sz (.s 18) 10) 9,.m 4 10,.m 4 11,.m 4 12,.m 4 13])],pR [(7,pM (.mm 4 0 14) 14)]] .ret,[(7,(.ag 14))]⟩
def c78:Zf Sol.prog fresh sig [.fz,.fz,.fz,.fz] [] Try.f78=some p78:=Z2
def p79:Fn:=⟨10,[0,1,2,3,4,11,5,6,7,8],
pQ [pR [(2,pS 0 14),(3,pS 1 2),pV 4 (pU 0)],pQ [pR [pV 5 (.bin .eql (.m 3 0) (pI 0))]] (.cond (.s 5) (pQ [pR [pV 4 (pU 0)]] .ret) .skip),pC [pK 10 32 [.mm 2 0 10],pK 11 31 [.s 10,.mm 3 0 2]] [pV 6 (.ext (.s 11) 0),pV 7 (.ext (.s 11) 1)],pC [pK 12 101 [.s 6]] [pV 8 (.ext (.s 12) 0),pV 9 (.ext (.s 12) 1)],pR [pV 4 (.s 8)]] .ret,[(4,.v)]⟩
def c79:Zf Sol.prog fresh sig [.fz,.fz] [] Try.f79=some p79:=Z2
def p100:Fn:=⟨10,[0,1,2,3,4,5,8,10,13,54],
pQ [pR [(4,pS 0 14),(5,pS 1 2),pV 6 (pU 0)],pQ [pR [pV 7 (.bin .lss (.s 2) (pI 0))]] (.cond (.s 7) (pQ [pR [pV 6 (pU 0)]] .ret) .skip),pQ [pR [pV 8 (.bin .gtr (.m 5 0) (pI 2))]] (.cond (.s 8) (pQ [pC [pK 10 79 [.mm 4 0 14,.flds (.idx (.m 4 13) (.s 2) 2) 0 2]] [pV 6 (.s 10)]] .ret) .skip),pQ [.reg ⟨[.lt 11 [] (.bin .eql (.m 5 0) (pI 1)),.lt 12 [] (.ite (.s 11) (.bin .geq (.m 5 1) (.m 4 4)) pF),.lt 13 [(12,true)] (.bin .eql (.fld (.idx (.m 4 12) (.s 2) 2) 0) (pI 0)),.lt 14 [(12,true),(13,false)] (.bin .gtr (.fld (.idx (.m 4 13) (.s 2) 2) 0) (pI 0))],[([(11,true)],.bin .geq (.m 5 1) (.m 4 4)),([(12,true),(13,false),(14,true)],.bin .eql (.bin .rem (.s 3) (pI 2)) (pI 0)),([(12,true),(13,false)],.ite (.s 14) (.bin .eql (.bin .rem (.s 3) (pI 2)) (pI 0)) pF),([(12,true)],.ite (.s 13) pT (.ite (.s 14) (.bin .eql (.bin .rem (.s 3) (pI 2)) (pI 0)) pF))],[pV 9 (.ite (.s 12) (.ite (.s 13) pT (.ite (.s 14) (.bin .eql (.bin .rem (.s 3) (pI 2)) (pI 0)) pF)) pF)]⟩] (.cond (.s 9) (pQ [pC [pK 15 79 [.mm 4 0 14,.flds (.idx (.m 4 13) (.s 2) 2) 0 2]] [pV 6 (.s 15)]] .ret) .skip),pC [pK 16 79 [.mm 4 0 14,.flds (.idx (.m 4 12) (.s 2) 2) 0 2]] [pV 6 (.s 16)]] .ret,[(6,.v)]⟩
def c100:Zf Sol.prog fresh sig [.fz,.fz,.fz,.fz] [] Try.f100=some p100:=Z2
end Vm
end
section
namespace Vm
open Go Go.Proofs
structure Nd where
 ptrs:List Int
 data:List Int
 deriving DecidableEq,Inhabited
structure Gr where
 nodes:List Nd
 roots:List Int
 deriving DecidableEq,Inhabited
def ndV(n:Nd):V:=.agg [.sl (n.ptrs.map vi),.sl (n.data.map vu)]
def grV(g:Gr):V:=.agg [.sl (g.nodes.map ndV),.sl (g.roots.map vi)]
@[simp]def m8(n:Nd):(ndV n).cells=[.sl (n.ptrs.map vi),.sl (n.data.map vu)]:=rfl
@[simp]def OC(l:List Nd):Ya 2 (l.map ndV)=true:=XM λ_=>rfl
@[simp]def f9(n:Nd):Ry (ndV n) 0 2=some (ndV n):=rfl
@[simp]def PS(n:Nd):fldV (ndV n) 0=some (.sl (n.ptrs.map vi)):=rfl
@[simp]def PT(n:Nd):fldV (ndV n) 1=some (.sl (n.data.map vu)):=rfl
@[simp]def Z2D(n:Nd):szV (ndV n) 2=some (ndV n):=rfl
@[simp]def f8(g:Gr):Ry (grV g) 0 2=some (grV g):=rfl
@[simp]def Py(g:Gr):fldV (grV g) 0=some (.sl (g.nodes.map ndV)):=rfl
@[simp]def Pz(g:Gr):fldV (grV g) 1=some (.sl (g.roots.map vi)):=rfl
@[simp]def Z2A(g:Gr):szV (grV g) 2=some (grV g):=rfl
@[simp]def i8(g:Gr):(grV g).cells=[.sl (g.nodes.map ndV),.sl (g.roots.map vi)]:=rfl
@[simp]def Z0E{k:IntKind}{l:List V}(j n:Nat):slcV n (.sl l) (.int k 0) (.int k (j:Int))=if j<=l.length/\Ya n l=true then some (.sl (l.take j))else none:=by
 have:=IB (k:=k) (l:=l) 0 j n;simpa using this
def rp(n:Nat)(p:Int):Int:=pick p (n+1) -1
def mkNd(n:Nat)(x:Nd):Nd:=⟨(x.ptrs.take 4).map (rp n),x.data.take 4⟩
def mkN(l:List Nd):Nat:=min l.length 10
def mkG(l:List Nd)(roots:List Int):Gr:=⟨(l.take (mkN l)).map (mkNd (mkN l)),if roots.take 5=[]then [(mkN l:Int) -1]else(roots.take 5).map (rp (mkN l))⟩
def GR{l:List Nd}{roots:List Int}(hl:∀x∈l,∀p∈x.ptrs,Fit p)(hr:∀p∈roots,Fit p):VC Sol.prog 23 false [.sl (l.map ndV),.sl (roots.map vi)] (grV (mkG l roots)):=by
 refine Z8 Sol.func23 follows Z2 c23 rfl ?_;have hn10:mkN l<=10:=by unfold mkN;omega
 have hnl:mkN l<=l.length:=by unfold mkN;omega
 have hmin:(if(10:Int)< (l.length:Int)then(10:Int)else(l.length:Int))=(mkN l:Int):=by
  unfold mkN;split<;>omega
 simp[p23,hmin];generalize hn:mkN l=n at*;have hwn:=Z7 ((n:Int)+1) Z0 Z0;refine Yp (λt=>∃i:Nat,i<=n/\t=[.v (.sl (l.map ndV)),.v (.sl (roots.map vi)),.m [.sl [],.sl []],.v (vi n),.m [.sl (((l.take i).map (mkNd n)).map ndV),.sl []],.v (vi i)]) (λt=>match get t 5 with|.v (.int _ i)=>n-i.toNat|_=>0) ?_ ?_
 ·exact⟨0,Z1,Z1⟩
 ·rintro t ⟨i,hi,rfl⟩;have hw:=Z7 ((i:Int)+1) Z0 Z0;by_cases h:i<n
  ·have hil:i<l.length:=Z0;have hx:l[i]?=some l[i]:=Z4u hil;simp[h];generalize hnd:l[i]=x at hx;have hxp:∀p∈x.ptrs,Fit p:=hl x (Z4B hx);have hdm:(if(4:Int)< (x.data.length:Int)then(4:Int)else(x.data.length:Int))=((min x.data.length 4:Nat):Int):=by split<;>omega
   refine Yp (λt=>∃k:Nat,k<=x.ptrs.length/\k<=4/\t=[.v (.sl (l.map ndV)),.v (.sl (roots.map vi)),.m [.sl [],.sl []],.v (vi n),.m [.sl (((l.take i).map (mkNd n)).map ndV),.sl []],.v (vi i),.v (.bool true),.m [.sl (((x.ptrs.take k).map (rp n)).map vi),.sl []],.v (vi k)]) (λt=>match get t 8 with|.v (.int _ i)=>4-i.toNat|_=>0) ?_ ?_
   ·exact⟨0,Z1,Z1,Z1⟩
   ·rintro t ⟨k,hk,hk4,rfl⟩;have hwk:=Z7 ((k:Int)+1) Z0 Z0;by_cases h4:k<x.ptrs.length/\k<4
    ·obtain⟨ha,hb⟩:=h4;have hp:x.ptrs[k]?=some x.ptrs[k]:=Z4u ha;have hkb:(k:Int)<4:=Z0;simp[hil,hnd,ha,hkb,hwn];refine Z4 (qc (hxp _ (Z4J ha)) Z0) Z1 ?_;have hpl:=Xw (c:=x.ptrs[k]) (n:=(n:Int)+1) Z0;have hwp:=Z7 (pick x.ptrs[k] ((n:Int)+1) -1) Z0 Z0;simp[hwk,hwp];refine⟨Z3Y,⟨k+1,Z0,Z0,?_,Z1⟩,Z0⟩;rw[Z5n,Z4M,hp];rfl
    ·have hend:(x.ptrs.take k)=x.ptrs.take 4:=by
      by_cases ha:k<x.ptrs.length
      ·have:k=4:=Z0;rw[this]
      ·rw[Z52 Z0,Z52 Z0]
     have hfin:(l.take (i+1)).map (ndV∘mkNd n)=(l.take i).map (ndV∘mkNd n)++[V.agg [.sl ((x.ptrs.take k).map (vi∘rp n)),.sl ((x.data.take (min x.data.length 4)).map vu)]]:=by
      rw[Z5n,hx,Z5F,hend]
      have hmd:x.data.take (min x.data.length 4)=x.data.take 4:=by
       by_cases hd:x.data.length<=4
       ·rw[Z52 Z0,Z52 Z0]
       ·congr 1;omega
      rw[hmd];simp[ndV,mkNd]
     have hsz:Ya 1 ((x.data.take (min x.data.length 4)).map vu)=true:=TY _;have hl1:min x.data.length 4<=lim:=Z3Y;have hl2:min i l.length+1<=lim:=Z3Y;have hl3:min x.data.length 4<=x.data.length:=Z0;simp only[List.map_take]at hfin hsz;have hkb:k<x.ptrs.length->¬(k:Int)<4:=Z0;by_cases ha:k<x.ptrs.length
     all_goals (
      simp[hil,hnd,ha,hkb,hdm,hl1,hl2,hsz,hw,hl3];exact⟨⟨i+1,Z0,hfin.symm,Z1⟩,Z0⟩)
  ·have:i=n:=Z0;subst this;simp;have hwn1:=Z7 ((i:Int) -1) Z0 Z0;refine Yp (λt=>∃k:Nat,k<=roots.length/\k<=5/\t=[.v (.sl (l.map ndV)),.v (.sl (roots.map vi)),.m [.sl [],.sl []],.v (vi i),.m [.sl ((l.take i).map (ndV∘mkNd i)),.sl ((roots.take k).map (vi∘rp i))],.v (vi i),.v (.bool false),.no,.no,.no,.v (vi k)]) (λt=>match get t 10 with|.v (.int _ i)=>5-i.toNat|_=>0) ?_ ?_
   ·exact⟨0,Z1,Z1,Z1⟩
   ·rintro t ⟨k,hk,hk5,rfl⟩;have hwk:=Z7 ((k:Int)+1) Z0 Z0;by_cases h5:k<roots.length/\k<5
    ·obtain⟨ha,hb⟩:=h5;have hp:roots[k]?=some roots[k]:=Z4u ha;have hkb:(k:Int)<5:=Z0;simp[ha,hkb,hwn];refine Z4 (qc (hr _ (Z4J ha)) Z0) Z1 ?_;have hpl:=Xw (c:=roots[k]) (n:=(i:Int)+1) Z0;have hwp:=Z7 (pick roots[k] ((i:Int)+1) -1) Z0 Z0;simp[hwk,hwp];refine⟨Z3Y,⟨k+1,Z0,Z0,?_,Z1⟩,Z0⟩;rw[Z5n,Z4M,hp];rfl
    ·have hend:(roots.take k)=roots.take 5:=by
      by_cases ha:k<roots.length
      ·have:k=5:=Z0;rw[this]
      ·rw[Z52 Z0,Z52 Z0]
     have hkb:k<roots.length->¬(k:Int)<5:=Z0
     have hg:mkG l roots=⟨(l.take i).map (mkNd i),if roots.take 5=[]then [(i:Int) -1]else(roots.take 5).map (rp i)⟩:=by
      unfold mkG;rw[hn]
     have hlen:(roots.take k).length=k:=by rw[Z5Q];omega
     by_cases hz:k=0
     ·subst hz;have hnil:roots.take 5=[]:=by rw[<-hend];rfl
      rw[hg,if_pos hnil];have ha:¬0<roots.length:=Z0;have hl1:1<=lim:=by simp[lim]
      simp[ha,grV,hwn1,hl1]
     ·have hnil:roots.take 5≠[]:=by
       rw[<-hend];intro h;rw[h]at hlen;simp at hlen;omega
      rw[hg,if_neg hnil,<-hend];have hr0:¬roots=[]:=by intro h;rw[h]at hk;simp at hk;omega
      by_cases ha:k<roots.length
      all_goals simp[ha,hkb,grV,hz,hr0]
def Z0u{n:Nat}{p:Int}: -1<=rp n p/\rp n p<n:=by
 have:=Xw (c:=p) (n:=(n:Int)+1) Z0;unfold rp;omega
def TE(l:List Nd)(roots:List Int):(mkG l roots).nodes.length=mkN l:=by
 simp[mkG,mkN]
def SB(l:List Nd)(roots:List Int):mkN l<=10/\(mkG l roots).roots.length<=5/\∀x∈(mkG l roots).nodes,x.ptrs.length<=4/\x.data.length<=4:=by
 refine⟨by unfold mkN;omega,?_,λx hx=> ?_⟩
 ·simp only[mkG];split
  ·simp
  ·simp;omega
 ·simp only[mkG,Z4I]at hx;obtain⟨y,_,rfl⟩:=hx;simp only[mkNd,Z56,Z5Q];omega
end Vm
end
section
namespace Vm
open Go
open Go.Proofs
def p16:Fn:=⟨5,[0,1,2,3,10],
pQ [pR [(1,pS 0 7),(2,pZ)],pC [pK 5 45 [.mm 1 0 7,pT]] [(3,pS 5 14)],pQ [pR [pV 4 (.bin .eql (.len (.m 3 5)) (pI 0))]] (.cond (.s 4) (pQ [pC [pK 6 35 [.mm 1 0 7]] [(2,pS 6 10)]] .ret) .skip),pC [pK 7 46 [.mm 3 0 14,.mm 1 0 7]] [(2,pS 7 10)]] .ret,[(2,(.ag 10))]⟩
def c16:Zf Sol.prog fresh sig [.fz] [] Try.f16=some p16:=Z2
def p35:Fn:=⟨3,[0,1,2],
pQ [pR [(1,pS 0 7),(2,pZ)],pC [pK 3 45 [.mm 1 0 7,pF],pK 4 46 [.s 3,.mm 1 0 7]] [(2,pS 4 10)]] .ret,[(2,(.ag 10))]⟩
def c35:Zf Sol.prog fresh sig [.fz] [] Try.f35=some p35:=Z2
def p45:Fn:=⟨19,[0,1,2,4,5,6,7,8,26,9,10,11,12,13,57,81,14,82,165],
pQ [pR [(2,pS 0 7),(3,.m [pU 0,pI 0,pI 0,pF,pI 0,pN,pN,pN,pN,pN,pN,pN,pN,pN])],.reg ⟨[pK 19 23 [.m 2 0,.m 2 1]],[([],.ag [pU 0,pI 0,pI 0,pF,pI 0,pN,pN,pN,pN,pN,.fld (.sz (.s 19) 2) 0,.fld (.sz (.s 19) 2) 1,pN,pN])],[(4,.m [pU 0,pI 0,pI 0,pF,pI 0,pN,pN,pN,pN,pN,.fld (.sz (.s 19) 2) 0,.fld (.sz (.s 19) 2) 1,pN,pN])]⟩,pR [(5,.m [pI 0,pI 0,pI 0,pI 0,pI 0])],pR [pV 6 (pI 0)],pQ [pR [pV 7 (pI 0)]] (.block 0 (.loop [0,1,2,3,4,5,6,7] (pQ [pQ [pR [pV 8 (.bin .lss (.s 7) (.len (.m 4 10)))]] (.cond (.s 8) .skip (.exit 0)),.block 1 (pQ [pC [pK 20 76 [.mm 2 0 7,.s 7,.s 1]] [pV 9 (.ext (.s 20) 0),pV 10 (.ext (.s 20) 1)],pR [pV 11 (.bin .add (.bin .add (pI 1) (.len (.fld (.idx (.m 4 10) (.s 7) 2) 0))) (.len (.fld (.idx (.m 4 10) (.s 7) 2) 1)))],pR [(12,pM (.ag [pI 0,pI 0]) 2)],pR [(13,pM (.ag [pI 0,pI 0]) 2)],pQ [pR [pV 14 (.bin .lss (.s 9) (pI 2))]] (.cond (.s 14) (pQ [.reg ⟨[],[([],.ai (.c (.agg [(.bool true),(.bool true),(.bool true),(.bool true),(.bool true)])) (.bin .sub (pI 2) (.s 9)) 5 1 false)],[(12,pM (.ag [.bin .sub (pI 2) (.s 9),.one (.ai (.mm 5 0 5) (.bin .sub (pI 2) (.s 9)) 5 1 false)]) 2)]⟩] (.reg ⟨[],[([],.ai (.c (.agg [(.bool true),(.bool true),(.bool true),(.bool true),(.bool true)])) (.bin .sub (pI 2) (.s 9)) 5 1 false)],[(5,pM (.aput (.mm 5 0 5) (.bin .sub (pI 2) (.s 9)) 5 1 (.bin .add (.ai (.mm 5 0 5) (.bin .sub (pI 2) (.s 9)) 5 1 false) (.s 11))) 5)]⟩)) (pR [pV 6 (.bin .add (.s 6) (.s 11))])),pQ [pC [.lt 21 [] (.bin .gtr (.s 9) (pI 0))] [pV 15 (.ite (.s 21) (.s 1) pF)]] (.cond (.s 15) (pQ [pR [pV 16 (pI 3)],pQ [pR [pV 17 (.s 10)]] (.cond (.s 17) (pR [pV 16 (pI 4)]) .skip),.reg ⟨[],[([],.ai (.c (.agg [(.bool true),(.bool true),(.bool true),(.bool true),(.bool true)])) (.s 16) 5 1 false)],[(13,pM (.ag [.one (.s 16),.one (.ai (.mm 5 0 5) (.s 16) 5 1 false)]) 2)]⟩] (.reg ⟨[],[([],.ai (.c (.agg [(.bool true),(.bool true),(.bool true),(.bool true),(.bool true)])) (.s 16) 5 1 false)],[(5,pM (.aput (.mm 5 0 5) (.s 16) 5 1 (.bin .add (.ai (.mm 5 0 5) (.s 16) 5 1 false) (.s 11))) 5)]⟩)) .skip),pR [(4,.m [.m 4 0,.m 4 1,.m 4 2,.m 4 3,.m 4 4,.m 4 5,.m 4 6,.m 4 7,.m 4 8,.m 4 9,.m 4 10,.m 4 11,.app (.m 4 12) (.lit [.mm 12 0 2]) 2,.m 4 13])]] (pR [(4,.m [.m 4 0,.m 4 1,.m 4 2,.m 4 3,.m 4 4,.m 4 5,.m 4 6,.m 4 7,.m 4 8,.m 4 9,.m 4 10,.m 4 11,.m 4 12,.app (.m 4 13) (.lit [.mm 13 0 2]) 2])]))] (pR [pV 7 (.bin .add (.s 7) (pI 1))])))),.reg ⟨[pK 22 77 [.m 2 6,pI 2]],[([],.ai (.c (.agg [(.bool true),(.bool true),(.bool true),(.bool true),(.bool true)])) (pI 1) 5 1 false),([],.ai (.c (.agg [(.bool true),(.bool true),(.bool true),(.bool true),(.bool true)])) (pI 2) 5 1 false),([],.ai (.c (.agg [(.bool true),(.bool true),(.bool true),(.bool true),(.bool true)])) (pI 3) 5 1 false),([],.ai (.c (.agg [(.bool true),(.bool true),(.bool true),(.bool true),(.bool true)])) (pI 4) 5 1 false),([],.ag [pU 0,pI 0,.one (.s 22),.one (.s 1),pI 0,.mk (.int .u64 0) (.ai (.mm 5 0 5) (pI 1) 5 1 false),.mk (.int .u64 0) (.ai (.mm 5 0 5) (pI 2) 5 1 false),.mk (.int .u64 0) (.ai (.mm 5 0 5) (pI 3) 5 1 false),.mk (.int .u64 0) (.ai (.mm 5 0 5) (pI 4) 5 1 false),pN])],[(4,.m [pU 0,pI 0,.one (.s 22),.one (.s 1),pI 0,.mk (.int .u64 0) (.ai (.mm 5 0 5) (pI 1) 5 1 false),.mk (.int .u64 0) (.ai (.mm 5 0 5) (pI 2) 5 1 false),.mk (.int .u64 0) (.ai (.mm 5 0 5) (pI 3) 5 1 false),.mk (.int .u64 0) (.ai (.mm 5 0 5) (pI 4) 5 1 false),pN,.m 4 10,.m 4 11,.m 4 12,.m 4 13])]⟩,.reg ⟨[pK 23 77 [.m 2 4,pI 12]],[([],.ai (.c (.agg [(.bool true),(.bool true),(.bool true),(.bool true),(.bool true)])) (pI 1) 5 1 false),([],.ai (.c (.agg [(.bool true),(.bool true),(.bool true),(.bool true),(.bool true)])) (pI 2) 5 1 false),([],.ai (.c (.agg [(.bool true),(.bool true),(.bool true),(.bool true),(.bool true)])) (pI 3) 5 1 false),([],.ai (.c (.agg [(.bool true),(.bool true),(.bool true),(.bool true),(.bool true)])) (pI 4) 5 1 false)],[(4,.m [.m 4 0,.bin .add (.mx (.bin .add (.bin .add (.ai (.mm 5 0 5) (pI 1) 5 1 false) (.ai (.mm 5 0 5) (pI 2) 5 1 false)) (.s 6)) (.bin .add (.ai (.mm 5 0 5) (pI 3) 5 1 false) (.ai (.mm 5 0 5) (pI 4) 5 1 false))) (.s 23),.m 4 2,.m 4 3,.m 4 4,.m 4 5,.m 4 6,.m 4 7,.m 4 8,.m 4 9,.m 4 10,.m 4 11,.m 4 12,.m 4 13])]⟩,pR [(4,.m [.bin .add (pU 1) (.bin .rem (.m 2 3) (.bin .sub (pU 9223372036854775808) (.bin .mul (pU 2) (.conv .u64 (.m 4 1))))),.m 4 1,.m 4 2,.m 4 3,.m 4 4,.m 4 5,.m 4 6,.m 4 7,.m 4 8,.m 4 9,.m 4 10,.m 4 11,.m 4 12,.m 4 13])],.reg ⟨[],[([],.ai (.c (.agg [(.bool true),(.bool true),(.bool true),(.bool true),(.bool true)])) (pI 1) 5 1 false)],[(4,.m [.m 4 0,.m 4 1,.m 4 2,.m 4 3,.one (.ai (.mm 5 0 5) (pI 1) 5 1 false),.m 4 5,.m 4 6,.m 4 7,.m 4 8,.m 4 9,.m 4 10,.m 4 11,.m 4 12,.m 4 13])]⟩,pQ [.reg ⟨[.lt 24 [] (.s 1)],[([(24,true)],.ai (.c (.agg [(.bool true),(.bool true),(.bool true),(.bool true),(.bool true)])) (pI 1) 5 1 false),([(24,true)],.bin .gtr (.ai (.mm 5 0 5) (pI 1) 5 1 false) (pI 0))],[pV 18 (.ite (.s 24) (.bin .gtr (.ai (.mm 5 0 5) (pI 1) 5 1 false) (pI 0)) pF)]⟩] (.cond (.s 18) (.reg ⟨[pK 25 77 [.m 2 5,.ai (.mm 5 0 5) (pI 1) 5 1 false]],[([],.ai (.c (.agg [(.bool true),(.bool true),(.bool true),(.bool true),(.bool true)])) (pI 1) 5 1 false)],[(4,.m [.m 4 0,.m 4 1,.m 4 2,.m 4 3,.one (.s 25),.m 4 5,.m 4 6,.m 4 7,.m 4 8,.m 4 9,.m 4 10,.m 4 11,.m 4 12,.m 4 13])]⟩) .skip),pR [(3,pM (.mm 4 0 14) 14)]] .ret,[(3,(.ag 14))]⟩
def c45:Zf Sol.prog fresh sig [.fz,.fz] [] Try.f45=some p45:=Z2
def p46:Fn:=⟨17,[0,1,2,3,4,5,16,6,31,59,83,7,8,9,125,10,134],
pQ [pR [(2,pS 0 14),(3,pS 1 7),(4,pZ)],pQ [pR [pV 5 (pI 0)]] (.block 0 (.loop [0,1,2,3,4,5] (pQ [pQ [pR [pV 6 (.bin .lss (.s 5) (.len (.m 2 10)))]] (.cond (.s 6) .skip (.exit 0)),.block 1 (pQ [pR [(7,pM (.flds (.idx (.m 2 10) (.s 5) 2) 0 2) 2)],pQ [pR [pV 8 (.bin .gtr (.fld (.idx (.m 2 12) (.s 5) 2) 0) (pI 0))]] (.cond (.s 8) (pC [pK 17 78 [.mm 2 0 14,.flds (.idx (.m 2 12) (.s 5) 2) 0 2,.mm 7 0 2,.bin .add (.m 3 4) (.s 5)]] [(2,pS 17 14)]) .skip),pQ [.reg ⟨[.lt 18 [] (.bin .gtr (.fld (.idx (.m 2 13) (.s 5) 2) 0) (pI 0))],[([(18,true)],.bin .eql (.fld (.idx (.m 2 12) (.s 5) 2) 0) (pI 0))],[pV 9 (.ite (.s 18) (.bin .eql (.fld (.idx (.m 2 12) (.s 5) 2) 0) (pI 0)) pF)]⟩] (.cond (.s 9) (pC [pK 19 78 [.mm 2 0 14,.flds (.idx (.m 2 13) (.s 5) 2) 0 2,.mm 7 0 2,pI 0]] [(2,pS 19 14)]) .skip),.reg ⟨[.lt 20 [] (.bin .gtr (.fld (.idx (.m 2 13) (.s 5) 2) 0) (pI 0))],[([(20,true)],.bin .gtr (.fld (.idx (.m 2 12) (.s 5) 2) 0) (pI 0))],[pV 10 (.ite (.s 20) (.bin .gtr (.fld (.idx (.m 2 12) (.s 5) 2) 0) (pI 0)) pF)]⟩] (.cond (.s 10) (pQ [pC [pK 21 28 [.mm 2 0 10,.fld (.idx (.m 2 13) (.s 5) 2) 0]] [pV 11 (.app pN (.s 21) 1)],.reg ⟨[pK 22 79 [.mm 2 0 14,.flds (.idx (.m 2 12) (.s 5) 2) 0 2]],[([],.idx (.s 11) (.fld (.idx (.m 2 13) (.s 5) 2) 1) 1)],[pV 11 (.upd (.s 11) (.fld (.idx (.m 2 13) (.s 5) 2) 1) 0 (.one (.s 22)))]⟩] (pC [pK 23 29 [.mm 2 0 10,.fld (.idx (.m 2 13) (.s 5) 2) 0,.s 11]] [(2,.m [.fld (.sz (.s 23) 10) 0,.fld (.sz (.s 23) 10) 1,.fld (.sz (.s 23) 10) 2,.fld (.sz (.s 23) 10) 3,.fld (.sz (.s 23) 10) 4,.fld (.sz (.s 23) 10) 5,.fld (.sz (.s 23) 10) 6,.fld (.sz (.s 23) 10) 7,.fld (.sz (.s 23) 10) 8,.fld (.sz (.s 23) 10) 9,.m 2 10,.m 2 11,.m 2 12,.m 2 13])])) .skip))] (pR [pV 5 (.bin .add (.s 5) (pI 1))])))),pR [pV 12 pN],pQ [pR [pV 13 (pI 0)]] (.block 2 (.loop [0,1,2,3,4,5,6,12,13] (pQ [pQ [pR [pV 14 (.bin .lss (.s 13) (.len (.m 2 11)))]] (.cond (.s 14) .skip (.exit 2)),.block 3 (pQ [pR [pV 15 (pU 0)],pQ [pR [pV 16 (.bin .geq (.fld (.idx (.m 2 11) (.s 13) 1) 0) (pI 0))]] (.cond (.s 16) (pC [pK 24 79 [.mm 2 0 14,.flds (.idx (.m 2 12) (.fld (.idx (.m 2 11) (.s 13) 1) 0) 2) 0 2]] [pV 15 (.s 24)]) .skip)] (pR [pV 12 (.app (.s 12) (.lit [.one (.s 15)]) 1)]))] (pR [pV 13 (.bin .add (.s 13) (pI 1))])))),pR [(2,.m [.m 2 0,.m 2 1,.m 2 2,.m 2 3,.m 2 4,.m 2 5,.m 2 6,.m 2 7,.m 2 8,.one (.s 12),.m 2 10,.m 2 11,.m 2 12,.m 2 13])],pR [(4,pM (.mm 2 0 10) 10)]] .ret,[(4,(.ag 10))]⟩
def c46:Zf Sol.prog fresh sig [.fz,.fz] [] Try.f46=some p46:=Z2
end Vm
end
section
namespace Vm
open Go Go.Proofs
structure Pl where
 part:Int
 at_:Int
 deriving DecidableEq,Inhabited
def plV(p:Pl):V:=.agg [vi p.part,vi p.at_]
@[simp]def Z0i(p:Pl):(plV p).cells=[vi p.part,vi p.at_]:=rfl
@[simp]def g8(p:Pl):Ry (plV p) 0 2=some (plV p):=rfl
@[simp]def PZ(p:Pl):fldV (plV p) 0=some (vi p.part):=rfl
@[simp]def b6(p:Pl):fldV (plV p) 1=some (vi p.at_):=rfl
@[simp]def Z2F(p:Pl):szV (plV p) 2=some (plV p):=rfl
@[simp]def OF(l:List Pl):Ya 2 (l.map plV)=true:=XM λ_=>rfl
structure Rw where
 nodes:List Nd
 roots:List Int
 cls:List Int
 base:Int
 slack:Int
 scan:Int
 to:Int
 deriving Inhabited
def rwV(x:Rw):V:=.agg [.sl (x.nodes.map ndV),.sl (x.roots.map vi),.sl (x.cls.map vi),vu x.base,vi x.slack,vi x.scan,vi x.to]
@[simp]def Z2G(x:Rw):szV (rwV x) 7=some (rwV x):=rfl
@[simp]def Z0w(x:Rw):(rwV x).cells=[.sl (x.nodes.map ndV),.sl (x.roots.map vi),.sl (x.cls.map vi),vu x.base,vi x.slack,vi x.scan,vi x.to]:=rfl
@[simp]def b7(x:Rw):fldV (rwV x) 0=some (.sl (x.nodes.map ndV)):=rfl
@[simp]def b8(x:Rw):fldV (rwV x) 1=some (.sl (x.roots.map vi)):=rfl
@[simp]def b9(x:Rw):fldV (rwV x) 2=some (.sl (x.cls.map vi)):=rfl
@[simp]def c5(x:Rw):fldV (rwV x) 3=some (vu x.base):=rfl
@[simp]def c7(x:Rw):fldV (rwV x) 4=some (vi x.slack):=rfl
@[simp]def c8(x:Rw):fldV (rwV x) 5=some (vi x.scan):=rfl
@[simp]def d6(x:Rw):fldV (rwV x) 6=some (vi x.to):=rfl
structure Rw.ok (x:Rw):Prop where
 ptrs:∀n∈x.nodes,∀p∈n.ptrs,Fit p
 data:∀n∈x.nodes,∀p∈n.data,U64 p
 roots:∀p∈x.roots,Fit p
 cls:∀p∈x.cls,Fit p
 base:U64 x.base
 slack:Fit x.slack
 scan:Fit x.scan
 to:Fit x.to
def rawC(x:Rw)(i:Nat):Int:=if x.cls.length=0 then i else(x.cls[i%x.cls.length]?).getD 0
def clsK(x:Rw)(i:Nat)(cycle:Bool):Int:=if pick (rawC x i) 3=2/\cycle=false then 1 else pick (rawC x i) 3
def clsF(x:Rw)(i:Nat):Bool:=decide (pick ((rawC x i).tdiv 3) 2=1)
def YU(x:Rw)(i:Nat)(cycle:Bool):clsK x i cycle=0\/clsK x i cycle=1\/(clsK x i cycle=2/\cycle=true):=by
 have:=Xw (c:=rawC x i) (n:=3) Z0;unfold clsK
 grind
def H8{x:Rw}(hx:x.ok){i:Nat}(hi:i<=1000){cycle:Bool}:VC Sol.prog 76 false [rwV x,vi i,.bool cycle] (.tup [vi (clsK x i cycle),.bool (clsF x i)]):=by
 refine Z8 Sol.func76 follows Z2 c76 rfl ?_
 have hc:Fit (rawC x i):=by
  unfold rawC;split
  ·exact⟨Z0,Z0⟩
  ·rename_i h;have:i%x.cls.length<x.cls.length:=Z7A _ Z0;rw[Z4u this];exact hx.cls _ (Z4J this)
 have hp3:=VP (c:=rawC x i) (n:=3) hc Z0
 have hd:Fit ((rawC x i).tdiv 3):=by
  obtain⟨h1,h2⟩:=hc;unfold Fit;rw[Int.tdiv_eq_ediv];have:Int.sign 3=1:=rfl;split<;>omega
 have hwd:=Z7 _ hd.1 hd.2;have hp2:=VP (c:=(rawC x i).tdiv 3) (n:=2) hd Z0;have fin:∀(b:Bool),(decide (pick ((rawC x i).tdiv 3) 2=1)=b)->clsF x i=b:=λb h=>h;by_cases hl:x.cls.length=0
 ·have hr:rawC x i=i:=by simp[rawC,hl]
  rw[hr]at hp3 hp2 hwd;rw[Z7N Z0]at hp2 hwd;simp[p76,hl];refine Z4 hp3 Z1 ?_;by_cases h2:pick (i:Int) 3=2
  ·cases cycle
   ·simp[h2,hwd];refine Z4 hp2 Z1 ?_;simp[clsK,clsF,hr,h2]
   ·simp[h2,hwd];refine Z4 hp2 Z1 ?_;simp[clsK,clsF,hr,h2]
  ·simp[h2,hwd];refine Z4 hp2 Z1 ?_;simp[clsK,clsF,hr,h2]
 ·have hlt:i%x.cls.length<x.cls.length:=Z7A _ Z0;have hg:x.cls[i%x.cls.length]?=some x.cls[i%x.cls.length]:=Z4u hlt;have hr:rawC x i=x.cls[i%x.cls.length]:=by simp[rawC,hl,hg]
  have hm:(i:Int).tmod (x.cls.length:Int)=((i%x.cls.length:Nat):Int):=by
   rw[Z5p Z0];rfl
  rw[hr]at hp3 hp2 hwd;have h0:0<x.cls.length:=Z0;have hne:x.cls≠[]:=λe=>Z3M;have hm':((i:Int) % (x.cls.length:Int))=((i%x.cls.length:Nat):Int):=rfl;generalize hcc:x.cls[i%x.cls.length]=c at*;generalize hii:i%x.cls.length=j at*;simp[p76,h0,hne,hm,hlt,hcc];refine Z4 hp3 Z1 ?_;by_cases h2:pick c 3=2
  ·cases cycle
   ·simp[h2,hwd];refine Z4 hp2 Z1 ?_;simp[clsK,clsF,hr,h2]
   ·simp[h2,hwd];refine Z4 hp2 Z1 ?_;simp[clsK,clsF,hr,h2]
  ·simp[h2,hwd];refine Z4 hp2 Z1 ?_;simp[clsK,clsF,hr,h2]
def sizN(n:Nd):Nat:=1+n.ptrs.length+n.data.length
structure St8 where
 n1:Nat
 n2:Nat
 n3:Nat
 n4:Nat
 wt:Nat
 here:List Pl
 old:List Pl
def ZV(x:Rw)(cycle:Bool)(sz:Nat)(i:Nat)(s:St8):St8:=
 let k:=clsK x i cycle
 let far:=clsF x i
 let o:Bool:=decide (0<k)&&cycle
 {n1:=if k=1 then s.n1+sz else s.n1
  n2:=if k=0 then s.n2+sz else s.n2
  n3:=if o&& !far then s.n3+sz else s.n3
  n4:=if o&&far then s.n4+sz else s.n4
  wt:=if k=2 then s.wt+sz else s.wt
  here:=s.here++[if k=0 then⟨2,s.n2⟩else if k=1 then⟨1,s.n1⟩else⟨0,0⟩]
  old:=s.old++[if o then(if far then⟨4,s.n4⟩else⟨3,s.n3⟩)else⟨0,0⟩]}
def stN(x:Rw)(cycle:Bool)(g:Gr):Nat->St8
 |0=>⟨0,0,0,0,0,[],[]⟩
 |i+1=>ZV x cycle (sizN ((g.nodes[i]?).getD default)) i (stN x cycle g i)
def qI{x:Rw}{cycle:Bool}{sz i:Nat}(hs:sz<=9)(s:St8)(h1:s.n1+s.n2+s.wt<=9*i)(h2:s.n3+s.n4<=9*i)(h3:s.here.length=i)(h4:s.old.length=i):
  (ZV x cycle sz i s).n1+(ZV x cycle sz i s).n2+(ZV x cycle sz i s).wt<=9*(i+1)/\(ZV x cycle sz i s).n3+(ZV x cycle sz i s).n4<=9*(i+1)/\(ZV x cycle sz i s).here.length=i+1/\(ZV x cycle sz i s).old.length=i+1:=by
 obtain hk|hk|⟨hk,rfl⟩:=YU x i cycle
 ·grind [ZV]
 ·grind [clsF,ZV]
 grind [clsF,ZV]
def U3{x:Rw}{cycle:Bool}{g:Gr}(hg:∀n∈g.nodes,sizN n<=9):∀i,i<=g.nodes.length->(stN x cycle g i).n1+(stN x cycle g i).n2+(stN x cycle g i).wt<=9*i/\(stN x cycle g i).n3+(stN x cycle g i).n4<=9*i/\(stN x cycle g i).here.length=i/\(stN x cycle g i).old.length=i
 |0,_=>by simp[stN]
 |i+1,hi=>by
  obtain⟨h1,h2,h3,h4⟩:=U3 (x:=x) (cycle:=cycle) hg i Z0;have hn:=hg _ (Z4J (Z0:i<g.nodes.length));simp only[stN,Z4u (Z0:i<g.nodes.length),Z4W];simp_all[qI]
structure Bt where
 h:Hp
 g:Gr
 here:List Pl
 old:List Pl
def btC(b:Bt):List V:=[vu b.h.base,vi b.h.cap,vi b.h.to,.bool b.h.cycle,vi b.h.scan,.sl (b.h.low.map vu),.sl (b.h.high.map vu),.sl (b.h.old.map vu),.sl (b.h.far.map vu),.sl (b.h.roots.map vu),.sl (b.g.nodes.map ndV),.sl (b.g.roots.map vi),.sl (b.here.map plV),.sl (b.old.map plV)]
def btV(b:Bt):V:=.agg [vu b.h.base,vi b.h.cap,vi b.h.to,.bool b.h.cycle,vi b.h.scan,.sl (b.h.low.map vu),.sl (b.h.high.map vu),.sl (b.h.old.map vu),.sl (b.h.far.map vu),.sl (b.h.roots.map vu),.sl (b.g.nodes.map ndV),.sl (b.g.roots.map vi),.sl (b.here.map plV),.sl (b.old.map plV)]
def Zy(x:Rw)(cycle:Bool):Bt:=
 let g:=mkG x.nodes x.roots
 let s:=stN x cycle g g.nodes.length
 let cap:Int:=max ((s.n1:Int)+s.n2+s.wt) ((s.n3:Int)+s.n4)+pick x.slack 12
 ⟨⟨1+x.base% (9223372036854775808-2*cap),cap,pick x.to 2,cycle,if cycle=true/\0<s.n1 then pick x.scan s.n1 else s.n1,List.replicate s.n1 0,List.replicate s.n2 0,List.replicate s.n3 0,List.replicate s.n4 0,[]⟩,g,s.here,s.old⟩
def BM{x:Rw}(hx:x.ok){cycle:Bool}:VC Sol.prog 45 false [rwV x,.bool cycle] (btV (Zy x cycle)):=by
 refine Z8 Sol.func45 follows Z2 c45 rfl ?_;simp[p45];refine Z4 (GR hx.ptrs hx.roots) Z1 ?_;obtain⟨hb1,hb2,hb3⟩:=SB x.nodes x.roots;have hb5:=TE x.nodes x.roots;unfold Zy;generalize mkG x.nodes x.roots=g at*;have hsz:∀n∈g.nodes,sizN n<=9:=λn hn=>by have:=hb3 n hn;unfold sizN;omega
 simp
 refine Xb 7 g.nodes.length (λi=>[(4,.m [.int .u64 0,.int .i64 0,.int .i64 0,.bool false,.int .i64 0,.sl [],.sl [],.sl [],.sl [],.sl [],.sl (g.nodes.map ndV),.sl (g.roots.map vi),.sl ((stN x cycle g i).here.map plV),.sl ((stN x cycle g i).old.map plV)]),
  (5,.m [vi 0,vi (stN x cycle g i).n1,vi (stN x cycle g i).n2,vi (stN x cycle g i).n3,vi (stN x cycle g i).n4]),(6,.v (vi (stN x cycle g i).wt)),(7,.v (vi i))]) (λ_=>True) (by simp[stN]) (λi=>Z1) trivial ?_
 rintro i hi-;have hw:=Z7 ((i:Int)+1) Z0 Z0;obtain⟨s1,s2,s3,s4⟩:=U3 (x:=x) (cycle:=cycle) hsz i hi;by_cases h:i<g.nodes.length
 ·have hn:g.nodes[i]?=some g.nodes[i]:=Z4u h;have hz:=hsz _ (Z4J h);simp only[stN,hn,Z4W];generalize stN x cycle g i=s at*;generalize g.nodes[i]=n at*;have hc:=H8 hx (i:=i) Z0 (cycle:=cycle);have hkr:=YU x i cycle;have w1:=Z7 (1+(n.ptrs.length:Int)) (by unfold sizN at hz;omega) (by unfold sizN at hz;omega);have w2:=Z7 (1+(n.ptrs.length:Int)+n.data.length) (by unfold sizN at hz;omega) (by unfold sizN at hz;omega);have e2:(1+(n.ptrs.length:Int)+n.data.length)=(sizN n:Nat):=by unfold sizN;omega
  rw[e2]at w2;simp[h];refine Z4 hc Z1 ?_;generalize hsz':sizN n=sz at*;unfold ZV;generalize clsF x i=fr at*;generalize clsK x i cycle=k at*;have u1:=Z7 ((s.n1:Int)+sz) Z0 Z0;have u2:=Z7 ((s.n2:Int)+sz) Z0 Z0;have u3:=Z7 ((s.n3:Int)+sz) Z0 Z0;have u4:=Z7 ((s.n4:Int)+sz) Z0 Z0;have u5:=Z7 ((s.wt:Int)+sz) Z0 Z0;have l1:s.here.length+1<=lim:=Z3Y;have l2:s.old.length+1<=lim:=Z3Y;obtain rfl|rfl|⟨rfl,rfl⟩:=hkr
  ·cases cycle<;>simp[hn,ZA hn,w1,e2,w2,aiV,Qm,Zx,Z7,u1,u2,u3,u4,u5,l1,l2,plV,hw]
  ·cases cycle
   ·simp[hn,ZA hn,w1,e2,w2,aiV,Qm,Zx,Z7,u1,u2,u3,u4,u5,l1,l2,plV,hw]
   ·cases fr<;>simp[hn,ZA hn,w1,e2,w2,aiV,Qm,Zx,Z7,u1,u2,u3,u4,u5,l1,l2,plV,hw]
  ·cases fr<;>simp[hn,ZA hn,w1,e2,w2,aiV,Qm,Zx,Z7,u1,u2,u3,u4,u5,l1,l2,plV,hw]
 ·have:i=g.nodes.length:=Z0;subst this;generalize hs8:stN x cycle g g.nodes.length=s at*;have hpt:=VP (c:=x.to) (n:=2) hx.to Z0;have hps:=VP (c:=x.slack) (n:=12) hx.slack Z0;have hsl:=Xw (c:=x.slack) (n:=12) Z0;simp;refine Z4 hpt Z1 ?_;have q1:s.n1<=lim:=Z3Y;have q2:s.n2<=lim:=Z3Y;have q3:s.n3<=lim:=Z3Y;have q4:s.n4<=lim:=Z3Y;simp[aiV,q1,q2,q3,q4];refine Z4 hps Z1 ?_;have w1:=Z7 ((s.n1:Int)+s.n2) Z0 Z0;have w2:=Z7 ((s.n1:Int)+s.n2+s.wt) Z0 Z0;have w3:=Z7 ((s.n3:Int)+s.n4) Z0 Z0;have hmax:(if(s.n1:Int)+s.n2+s.wt< (s.n3:Int)+s.n4 then(s.n3:Int)+s.n4 else(s.n1:Int)+s.n2+s.wt)=max ((s.n1:Int)+s.n2+s.wt) ((s.n3:Int)+s.n4):=by split<;>omega
  obtain⟨cap,hcap⟩:∃cap:Int,max ((s.n1:Int)+s.n2+s.wt) ((s.n3:Int)+s.n4)+pick x.slack 12=cap:=⟨_,rfl⟩;have hc0:0<=cap/\cap<=200:=Z0;have w4:=Z7 cap Z0 Z0;have w5:=Zp cap Z0 Z0;have w6:=Zp (2*cap) Z0 Z0;have w7:=Zp (9223372036854775808-2*cap) Z0 Z0;obtain⟨b1,b2⟩:=hx.base;have w8:x.base.tmod (9223372036854775808-2*cap)=x.base% (9223372036854775808-2*cap):=Z5p b1;have h1:=Z8o x.base (Z0:(9223372036854775808-2*cap)≠0);have h2:=Z7R x.base (Z0:0< (9223372036854775808-2*cap));have w9:=Zp (1+x.base% (9223372036854775808-2*cap)) Z0 Z0;have hne:¬((9223372036854775808-2*cap)=0):=Z0;simp[aiV,w1,w2,w3,hmax,hcap,w4,w5,w6,w7,w8,w9,hne];cases cycle
  ·simp[btV,hcap]
  ·by_cases h0:0<s.n1
   ·have hp:=VP (c:=x.scan) (n:=(s.n1:Int)) hx.scan Z0;simp[h0];refine Z4 hp Z1 ?_;simp[btV,hcap,h0,aiV]
   ·simp[btV,hcap,h0]
end Vm
namespace Vm
open Go Go.Proofs
@[simp]def Z2y(b:Bt):szV (btV b) 14=some (btV b):=rfl
@[simp]def OZ(b:Bt):(btV b).cells=btC b:=rfl
@[simp]def Z1g(b:Bt)(i:Nat):fldV (btV b) i=(btC b)[i]?.bind oneV:=rfl
def A1(s p:Int):0<=(RD s p).1/\(RD s p).1<100000000:=by
 grind [RD,Zc]
def j4(l:Ly)(hl:l.fits)(p a:Int):0<=(ZG l p a).1/\(ZG l p a).1<=9223372036854775807:=by
 unfold ZG;split
 ·simp
 ·rename_i hr;have hr':Zi l=true:=by simpa using hr
  split
  ·simp
  ·split
   ·simp
   ·have:=Y1 hr' p;omega
def Ab{a:Int}:0<=(RF a).1/\(RF a).1<18446744073709551616:=by
 unfold RF;split
 ·simp
 ·omega
def refB(h:Hp)(p:Pl):Int:=if p.part=0 then 0 else(RF (ZG (layH h) p.part p.at_).1).1
theorem SM(h:Hp)(p:Pl):U64 (refB h p):=by
 unfold refB;split
 ·exact⟨Z0,Z0⟩
 ·exact Ab
def Ji{b:Bt}(hb:(layH b.h).fits){p:Pl}:VC Sol.prog 79 false [btV b,plV p] (vu (refB b.h p)):=by
 refine Z8 Sol.func79 follows Z2 c79 rfl ?_;by_cases h0:p.part=0
 ·simp[p79,btC,refB,h0]
 ·have hr:=j4 (layH b.h) hb p.part p.at_;simp[p79,btC,h0];refine Z4 (qn (h:=b.h)) (by simp[hpV]) ?_;simp;refine Z4 (Ah hb (part:=p.part) (at_:=p.at_)) Z1 ?_;simp;refine Z4 (Ai (a:=(ZG (layH b.h) p.part p.at_).1) ⟨hr.1,Z0⟩) Z1 ?_;simp[refB,h0]
def UB(b:Bt)(p:Pl)(to tw:Int):Int:=
 if to<0 then 0 else if 2<p.part then refB b.h ((b.old[to.toNat]?).getD ⟨0,0⟩)
 else if p.part=1/\b.h.scan<=p.at_/\(((b.here[to.toNat]?).getD ⟨0,0⟩).part=0\/0< ((b.old[to.toNat]?).getD ⟨0,0⟩).part/\tw%2=0)then refB b.h ((b.old[to.toNat]?).getD ⟨0,0⟩)
 else refB b.h ((b.here[to.toNat]?).getD ⟨0,0⟩)
theorem Au(b:Bt)(p:Pl)(to tw:Int):U64 (UB b p to tw):=by
 unfold UB;split
 ·exact⟨Z0,Z0⟩
 grind [SM]
def Z0L(t:Int):t.tmod 2=0↔t%2=0:=by
 grind
def IC{b:Bt}(hb:(layH b.h).fits){p:Pl}{to tw:Int}(h1:to<b.here.length)(h2:to<b.old.length):VC Sol.prog 100 false [btV b,plV p,vi to,vi tw] (vu (UB b p to tw)):=by
 refine Z8 Sol.func100 follows Z2 c100 rfl ?_;by_cases h0:to<0
 ·simp[p100,btC,UB,h0]
 obtain⟨t,rfl⟩:=Z4P (Z0:0<=to);have g1:b.here[t]?=some (b.here[t]'Z0):=Z4u Z0;have g2:b.old[t]?=some (b.old[t]'Z0):=Z4u Z0;generalize b.here[t]'Z0=x at*;generalize b.old[t]'Z0=y at*;unfold UB;simp only[Z5f,g1,g2,Z4W,if_neg h0];by_cases q1:2<p.part
 ·simp[p100,btC,q1,g2];refine Z4 (Ji hb (p:=y)) (by simp[btV]) ?_;simp
 have k1:=Ji hb (p:=x);have k2:=Ji hb (p:=y);by_cases q2:p.part=1
 ·by_cases q3:b.h.scan<=p.at_
  ·by_cases q4:x.part=0
   ·simp[p100,btC,q1,q2,q3,q4,g1,g2];refine Z4 k2 (by simp[btV]) ?_;simp
   ·by_cases q5:0<y.part
    ·by_cases q6:tw%2=0
     ·have q6':=(Z0L tw).2 q6;simp[p100,btC,q1,q2,q3,q4,q5,q6,q6',g1,g2];refine Z4 k2 (by simp[btV]) ?_;simp
     ·have q6':=mt (Z0L tw).1 q6;simp[p100,btC,q1,q2,q3,q4,q5,q6,q6',g1,g2];refine Z4 k1 (by simp[btV]) ?_;simp
    ·simp[p100,btC,q1,q2,q3,q4,q5,g1,g2];refine Z4 k1 (by simp[btV]) ?_;simp
  ·simp[p100,btC,q1,q2,q3,g1,g2];refine Z4 k1 (by simp[btV]) ?_;simp
 ·simp[p100,btC,q1,q2,g1,g2];refine Z4 k1 (by simp[btV]) ?_;simp
@[simp]def Z0m(x y:Int):V.put (vu x) 0 [vu y]=vu y:=rfl
def ze{l pre:List Int}{m:Nat}(h:pre.length=m)(hm:m<l.length)(z:Int):(pre++l.drop m).set m z=pre++[z]++l.drop (m+1):=by
 subst h;rw[Z8u _ _ (Z4A _),Z6b,Z5r hm,List.set_cons_zero,Z5A];rfl
def Ys(b:Bt)(p:Pl)(a:Nat)(ps:List Int)(tw:Int):List Int:=(List.range ps.length).map λi=>UB b ⟨p.part,((a+1+i:Nat):Int)⟩ ((ps[i]?).getD 0) (IntKind.i64.wrap (tw+i))
def layL(b:Bt)(p:Pl)(a:Nat)(n:Nd)(tw:Int):List Int:=
 let l:=Zd b.h p.part
 l.take a++[(RD ((n.ptrs.length:Int)+n.data.length) n.ptrs.length).1]++Ys b p a n.ptrs tw++n.data++l.drop (a+sizN n)
def layB(b:Bt)(p:Pl)(n:Nd)(tw:Int):Bt:= {b with h:=Xa b.h p.part (layL b p p.at_.toNat n tw)}
def Mc{b:Bt}(hb:(layH b.h).fits){p:Pl}{n:Nd}{tw:Int}{a:Nat}(ha:p.at_=a)(hlen:(Zd b.h p.part).length<=1000000)(hfit:a+sizN n<=(Zd b.h p.part).length)
  (h1:∀q∈n.ptrs,q<b.here.length/\q<b.old.length):VC Sol.prog 78 false [btV b,plV p,ndV n,vi tw] (btV (layB b p n tw)):=by
 refine Z8 Sol.func78 follows Z2 c78 rfl ?_;have hlim:(Zd b.h p.part).length<=lim:=Z3Y;have w1:=Z7 ((n.ptrs.length:Int)+n.data.length) Z45 Z45;unfold layB;rw[show p.at_.toNat=a by omega];simp[p78,btC];refine Z4 (qZ (h:=b.h) (n:=p.part)) (by simp[hpV]) ?_;simp[hlim,w1];refine Z4 (CR (s:=(n.ptrs.length:Int)+n.data.length) (p:=n.ptrs.length)) Z1 ?_;have hpl:a< (Zd b.h p.part).length:=Z45;simp[ha,hpl];generalize hl0:Zd b.h p.part=l at*;generalize hhd:(RD ((n.ptrs.length:Int)+n.data.length) n.ptrs.length).1=hd at*
 have hset0:(l.map vu).set a (vu hd)=((l.take a++[hd])++l.drop (a+1)).map vu:=by
  rw[<-Z6f];congr 1;have:=ze (l:=l) (pre:=l.take a) (m:=a) Z3N hpl hd;rw[Z6t]at this;exact this
 simp only[Z0m,hset0];have hw1:=Z7 ((a:Int)+1) Z0 Z0;have hnp:n.ptrs.length<=l.length:=Z45;have hsl:(Ys b p a n.ptrs tw).length=n.ptrs.length:=by simp[Ys]
 refine Xb 11 n.ptrs.length (λk=>[(8,.v (.sl (((l.take a++[hd]++(Ys b p a n.ptrs tw).take k)++l.drop (a+1+k)).map vu))),(11,.v (vi k))]) (λ_=>True) Z1 (λi=>Z1) trivial ?_;rintro k hk-;have hwk:=Z7 ((k:Int)+1) Z0 Z0;have hw2:=Z7 ((a:Int)+1+k) Z0 Z0;by_cases hkl:k<n.ptrs.length
 ·have hq:n.ptrs[k]?=some n.ptrs[k]:=Z4u hkl;obtain⟨q1,q2⟩:=h1 _ (Z4J hkl);have hslot:=IC hb (p:=⟨p.part,((a+1+k:Nat):Int)⟩) (to:=n.ptrs[k]) (tw:=IntKind.i64.wrap (tw+k)) q1 q2
  have hsk:(Ys b p a n.ptrs tw)[k]?=some (UB b ⟨p.part,((a+1+k:Nat):Int)⟩ n.ptrs[k] (IntKind.i64.wrap (tw+k))):=by
   simp[Ys,hkl]
  generalize n.ptrs[k]=q at*;generalize UB b ⟨p.part,((a+1+k:Nat):Int)⟩ q (IntKind.i64.wrap (tw+k))=z at*;have htk:(Ys b p a n.ptrs tw).take (k+1)=(Ys b p a n.ptrs tw).take k++[z]:=by rw[Z5n,hsk];rfl
  have hpre:(l.take a++[hd]++(Ys b p a n.ptrs tw).take k).length=a+1+k:=by simp[hsl];omega
  have hm:a+1+k<l.length:=Z45;have hst:=ze (l:=l) hpre hm z;generalize hpp:l.take a++[hd]++(Ys b p a n.ptrs tw).take k=pre at*
  have hall:∃x,((pre++l.drop (a+1+k)).map vu)[a+1+k]?=some (vu x):=by
   refine⟨l[a+1+k],?_⟩;rw[Z4M,Z4S Z0,hpre,Z6b,Z5r hm];rfl
  have hset:((pre++l.drop (a+1+k)).map vu).set (a+1+k) (vu z)=(pre++[z]++l.drop (a+1+(k+1))).map vu:=by
   rw[<-Z6f,hst];rfl
  obtain⟨m,hmn⟩:∃m:Nat,a+1+k=m:=⟨_,rfl⟩;have hmi:(a:Int)+1+k=m:=Z0;have hwm:=Z7 (m:Int) Z0 Z0;rw[show a+1+(k+1)=a+1+k+1 by omega]at hset⊢;rw[hmn]at hall hset hslot⊢;generalize hLL:(pre++l.drop m).map vu=LL at hall hset⊢;rw[htk];obtain⟨y,hy⟩:=hall;simp[hkl,hq,ZA hq,hw1,hw2,hmi,hwm];refine Z4 hslot (by simp[btV]) ?_;simp[hy,hset,hwk,hkl,hw1,hmi,hwm];rw[<-hpp];simp
 ·have:k=n.ptrs.length:=Z0;subst this;rw[show(Ys b p a n.ptrs tw).take n.ptrs.length=Ys b p a n.ptrs tw from Z52 Z0];have hw3:=Z7 ((a:Int)+1+n.ptrs.length) Z0 Z0;have hw4:∀j:Nat,j<=1000+n.data.length->IntKind.i64.wrap ((a:Int)+1+n.ptrs.length+j)=(a:Int)+1+n.ptrs.length+j:=λj hj=>Z7 _ Z0 Z45;generalize hsp:l.take a++[hd]++Ys b p a n.ptrs tw=sp at*;have hspl:sp.length=a+1+n.ptrs.length:=by rw[<-hsp];simp[hsl];omega
  simp;refine Xb 13 n.data.length (λk=>[(8,.v (.sl (((sp++n.data.take k)++l.drop (a+1+n.ptrs.length+k)).map vu))),(13,.v (vi k))]) (λ_=>True) Z1 (λi=>Z1) trivial ?_;rintro k hk-;have hwk:=Z7 ((k:Int)+1) Z0 Z45;by_cases hkl:k<n.data.length
  ·have hq:n.data[k]?=some n.data[k]:=Z4u hkl;generalize n.data[k]=z at*;have htk:n.data.take (k+1)=n.data.take k++[z]:=by rw[Z5n,hq];rfl
   have hpre:(sp++n.data.take k).length=a+1+n.ptrs.length+k:=by simp[hspl];omega
   have hm:a+1+n.ptrs.length+k<l.length:=Z45;have hst:=ze (l:=l) hpre hm z;generalize hpp:sp++n.data.take k=pre at*
   have hall:∃x,((pre++l.drop (a+1+n.ptrs.length+k)).map vu)[a+1+n.ptrs.length+k]?=some (vu x):=by
    refine⟨l[a+1+n.ptrs.length+k],?_⟩;rw[Z4M,Z4S Z0,hpre,Z6b,Z5r hm];rfl
   have hset:((pre++l.drop (a+1+n.ptrs.length+k)).map vu).set (a+1+n.ptrs.length+k) (vu z)=(pre++[z]++l.drop (a+1+n.ptrs.length+k+1)).map vu:=by
    rw[<-Z6f,hst]
   rw[show a+1+n.ptrs.length+(k+1)=a+1+n.ptrs.length+k+1 by omega];have hw5:=hw4 k Z0;obtain⟨m,hmn⟩:∃m:Nat,a+1+n.ptrs.length+k=m:=⟨_,rfl⟩;have hmi:(a:Int)+1+n.ptrs.length+k=m:=Z0;have hwm:=Z7 (m:Int) Z0 Z0;rw[hmn]at hall hset⊢;generalize hLL:(pre++l.drop m).map vu=LL at hall hset⊢;rw[htk];obtain⟨y,hy⟩:=hall;simp[hkl,hq,ZA hq,hw1,hw3,hw5,hmi,hwm,hy,hset,hwk];rw[<-hpp];simp
  ·have:k=n.data.length:=Z0;subst this;rw[show n.data.take n.data.length=n.data from Z5D];have hwith:=j0 (h:=b.h) (n:=p.part) (l:=sp++n.data++l.drop (a+1+n.ptrs.length+n.data.length))
   have hlay:layL b p a n tw=sp++n.data++l.drop (a+1+n.ptrs.length+n.data.length):=by
    unfold layL;rw[hl0,hhd];dsimp only;rw[hsp,show a+sizN n=a+1+n.ptrs.length+n.data.length by unfold sizN;omega]
   rw[hlay];generalize sp++n.data++l.drop (a+1+n.ptrs.length+n.data.length)=fin at*;simp;refine Z4 hwith (by simp[hpV]) ?_;simp[btV]
end Vm
namespace Vm
open Go Go.Proofs
def wOk(h:Hp):Prop:=(∀k,∀w∈Zd h k,U64 w)/\∀w∈h.roots,U64 w
structure BOk (b:Bt):Prop where
 lay:(layH b.h).fits
 hl:b.here.length=b.g.nodes.length
 ol:b.old.length=b.g.nodes.length
 nn:b.g.nodes.length<=10
 ptr:∀n∈b.g.nodes,∀q∈n.ptrs,q< (b.g.nodes.length:Int)
 dat:∀n∈b.g.nodes,∀q∈n.data,U64 q
 rts:∀q∈b.g.roots,q< (b.g.nodes.length:Int)
 rl:b.g.roots.length<=5
 here:∀(i:Nat) (p:Pl) (n:Nd),b.here[i]?=some p->b.g.nodes[i]?=some n->p=⟨0,0⟩\/∃a:Nat,p.at_=a/\(p.part=1\/p.part=2)/\a+sizN n<=(Zd b.h p.part).length
 old:∀(i:Nat) (p:Pl) (n:Nd),b.old[i]?=some p->b.g.nodes[i]?=some n->p=⟨0,0⟩\/∃a:Nat,p.at_=a/\(p.part=3\/p.part=4)/\a+sizN n<=(Zd b.h p.part).length
 len:∀k,(Zd b.h k).length<=1000
 words:wOk b.h
theorem VN{h h':Hp}(hl:layH h'=layH h)(k:Int):(Zd h' k).length=(Zd h k).length:=by
 grind [layH,Ly.mk.injEq,Zd]
def BOk.keep{b:Bt}(hb:BOk b){h':Hp}(hl:layH h'=layH b.h)(hw:wOk h'):BOk {b with h:=h'} where
 lay:=by show(layH h').fits;rw[hl];exact hb.lay
 hl:=hb.hl
 ol:=hb.ol
 nn:=hb.nn
 ptr:=hb.ptr
 dat:=hb.dat
 rts:=hb.rts
 rl:=hb.rl
 here:=λi p n hp hn=>by
  obtain h|⟨a,h1,h2,h3⟩:=hb.here i p n hp hn
  ·grind
  grind [Zd,VN,hl]
 old:=λi p n hp hn=>by
  obtain h|⟨a,h1,h2,h3⟩:=hb.old i p n hp hn
  ·grind
  grind [Zd,VN,hl]
 len:=λk=>by show(Zd h' k).length<=1000;rw[VN hl];exact hb.len k
 words:=hw
def S6{h:Hp}{p:Int}{l:List Int}(hl:l.length=(Zd h p).length):layH (Xa h p l)=layH h:=by
 unfold Xa Zd at*;split
 ·simp_all[if_pos,layH]
 rename_i e1;rw[if_neg e1]at hl;split
 ·simp_all[if_pos,layH]
 rename_i e2;rw[if_neg e2]at hl;split
 ·simp_all[if_pos,layH]
 simp_all[if_neg,layH]
def AE{h:Hp}{p:Int}{l:List Int}(hh:wOk h)(hl:∀w∈l,U64 w):wOk (Xa h p l):=by
 have h1:=hh.1 1;have h2:=hh.1 2;have h3:=hh.1 3;have h4:=hh.1 4
 grind [Mi,Mj,Mk,Ml,U64,wOk,Zd,Xa]
def jK{b:Bt}{p:Pl}{a:Nat}{n:Nd}{tw:Int}(hf:a+sizN n<=(Zd b.h p.part).length):(layL b p a n tw).length=(Zd b.h p.part).length:=by
 grind [layL,sizN,Ys]
def CA{b:Bt}{p:Pl}{a:Nat}{n:Nd}{tw:Int}(hw:wOk b.h)(hn:∀q∈n.data,U64 q):∀w∈layL b p a n tw,U64 w:=by
 intro w hm;unfold layL at hm;simp only[Z4R,Z5x]at hm;obtain(((hm|hm)|hm)|hm)|hm:=hm
 ·exact hw.1 _ w (Z5o hm)
 ·subst hm;have:=A1 ((n.ptrs.length:Int)+n.data.length) n.ptrs.length;exact⟨this.1,Z0⟩
 ·simp only[Ys,Z4I]at hm;obtain⟨i,_,rfl⟩:=hm
  grind [Au]
 ·grind
 ·exact hw.1 _ w (Z64 hm)
def Ru(x:Rw)(b:Bt)(i:Nat)(n:Nd)(p:Pl):Bt:=if 0<p.part then layB b p n (IntKind.i64.wrap (x.slack+i))else b
def Rx(b:Bt)(n:Nd)(p o:Pl):Bt:=if 0<o.part/\p.part=0 then layB b o n 0 else b
def Sj(b:Bt)(p o:Pl):Bt:=if 0<o.part/\0<p.part then {b with h:=Xa b.h o.part ((Zd b.h o.part).set o.at_.toNat (refB b.h p))}else b
def Ch(x:Rw)(b:Bt)(i:Nat):Bt:=
 let n:=(b.g.nodes[i]?).getD default
 let p:=(b.here[i]?).getD ⟨0,0⟩
 let o:=(b.old[i]?).getD ⟨0,0⟩
 Sj (Rx (Ru x b i n p) n p o) p o
structure Like (b b':Bt):Prop where
 g:b'.g=b.g
 here:b'.here=b.here
 old:b'.old=b.old
 lay:layH b'.h=layH b.h
 words:wOk b'.h
 scan:b'.h.scan=b.h.scan
 cycle:b'.h.cycle=b.h.cycle
def Like.ok{b b':Bt}(hl:Like b b')(hb:BOk b):BOk b':=by
 obtain⟨h',g',here',old'⟩:=b';obtain⟨h1,h2,h3,h4,h5,_⟩:=hl;simp only at h1 h2 h3 h4 h5;subst h1 h2 h3;exact hb.keep h4 h5
theorem Like.trans{a b c:Bt}(h:Like a b)(k:Like b c):Like a c:=⟨k.g.trans h.g,k.here.trans h.here,k.old.trans h.old,k.lay.trans h.lay,k.words,k.scan.trans h.scan,k.cycle.trans h.cycle⟩
def Uw(h:Hp)(p:Int)(l:List Int):(Xa h p l).scan=h.scan/\(Xa h p l).cycle=h.cycle:=by
 unfold Xa
 grind
def yw{b:Bt}(hb:BOk b){p:Int}{l:List Int}(hl:l.length=(Zd b.h p).length)(hw:∀w∈l,U64 w):Like b {b with h:=Xa b.h p l}:=
 ⟨rfl,rfl,rfl,S6 hl,AE hb.words hw,(Uw _ _ _).1,(Uw _ _ _).2⟩
def TA{b:Bt}(hb:BOk b):Like b b:=⟨rfl,rfl,rfl,rfl,hb.words,rfl,rfl⟩
def Bh{b:Bt}(hb:BOk b){p:Pl}{n:Nd}{tw:Int}{a:Nat}(ha:p.at_=a)(hf:a+sizN n<=(Zd b.h p.part).length)(hn:∀q∈n.data,U64 q):Like b (layB b p n tw):=by
 unfold layB;rw[ha,Z5f];exact yw hb (jK hf) (CA hb.words hn)
def EX{x:Rw}{b:Bt}(hb:BOk b){i:Nat}{n:Nd}{p:Pl}(hn:b.g.nodes[i]?=some n)(hp:b.here[i]?=some p):Like b (Ru x b i n p):=by
 unfold Ru;split
 ·rename_i h0;obtain rfl|⟨a,h1,h2,h3⟩:=hb.here i p n hp hn
  ·simp at h0
  ·exact Bh hb h1 h3 (hb.dat n (Z4B hn))
 ·exact TA hb
def EY{b:Bt}(hb:BOk b){i:Nat}{n:Nd}{p o:Pl}(hn:b.g.nodes[i]?=some n)(ho:b.old[i]?=some o):Like b (Rx b n p o):=by
 unfold Rx;split
 ·rename_i h0;obtain rfl|⟨a,h1,h2,h3⟩:=hb.old i o n ho hn
  ·simp at h0
  ·exact Bh hb h1 h3 (hb.dat n (Z4B hn))
 ·exact TA hb
def l7{b:Bt}(hb:BOk b){p o:Pl}:Like b (Sj b p o):=by
 unfold Sj;split
 ·refine yw hb Z1 λw hw=> ?_;obtain h|rfl:=Z5z hw
  ·exact hb.words.1 _ w h
  ·exact SM _ _
 ·exact TA hb
def l8{x:Rw}{b:Bt}(hb:BOk b){i:Nat}(hi:i<b.g.nodes.length):Like b (Ch x b i):=by
 have hn:b.g.nodes[i]?=some b.g.nodes[i]:=Z4u hi;have hp:b.here[i]?=some (b.here[i]'(by rw[hb.hl];exact hi)):=Z4u _;have ho:b.old[i]?=some (b.old[i]'(by rw[hb.ol];exact hi)):=Z4u _;unfold Ch;simp only[hn,hp,ho,Z4W];have h1:=EX (x:=x) hb hn hp;have h2:=EY (p:=b.here[i]'(by rw[hb.hl];exact hi)) (h1.ok hb) (by rw[h1.g];exact hn) (by rw[h1.old];exact ho);exact(h1.trans h2).trans (l7 (h2.ok (h1.ok hb)))
def Sk(x:Rw)(b:Bt):Nat->Bt
 |0=>b
 |i+1=>Ch x (Sk x b i) i
def yu{x:Rw}{b:Bt}(hb:BOk b):∀i,i<=b.g.nodes.length->Like b (Sk x b i)
 |0,_=>TA hb
 |i+1,hi=>by
  have h:=yu (x:=x) hb i Z0;exact h.trans (l8 (h.ok hb) (by rw[h.g];omega))
def Y4(x:Rw)(b:Bt):Hp:=
 let b':=Sk x b b.g.nodes.length
 {b'.h with roots:=b.g.roots.map λr=>if 0<=r then refB b'.h ((b.here[r.toNat]?).getD ⟨0,0⟩)else 0}
def Ea{x:Rw}(hx:x.ok){b:Bt}(hb:BOk b):VC Sol.prog 46 false [btV b,rwV x] (hpV (Y4 x b)):=by
 refine Z8 Sol.func46 follows Z2 c46 rfl ?_;simp[p46,btC];refine Xb 5 b.g.nodes.length (λi=>[(2,.m (btC (Sk x b i))),(5,.v (vi i))]) (λ_=>True) (by simp[Sk,btC]) (λi=>Z1) trivial ?_;rintro i hi-;have hlk:=yu (x:=x) hb i hi;have hw:=Z7 ((i:Int)+1) (by have:=hb.nn;omega) (by have:=hb.nn;omega);by_cases h:i<b.g.nodes.length
 ·have hb':=hlk.ok hb;simp only[Sk];have hi':i< (Sk x b i).g.nodes.length:=by rw[hlk.g];exact h
  generalize hbb:Sk x b i=c at*;have hn:c.g.nodes[i]?=some c.g.nodes[i]:=Z4u hi';have hp:c.here[i]?=some (c.here[i]'(by rw[hb'.hl];exact hi')):=Z4u _;have ho:c.old[i]?=some (c.old[i]'(by rw[hb'.ol];exact hi')):=Z4u _;unfold Ch;simp only[hn,hp,ho,Z4W];generalize c.g.nodes[i]=n at*;generalize c.here[i]'(by rw[hb'.hl];exact hi')=p at*;generalize c.old[i]'(by rw[hb'.ol];exact hi')=o at*
  have hpn:∀q∈n.ptrs,q< (c.here.length:Int)/\q< (c.old.length:Int):=λq hq=>by
   have:=hb'.ptr n (Z4B hn) q hq;rw[hb'.hl,hb'.ol];exact⟨this,this⟩
  have kA:=EX (x:=x) hb' hn hp;have bA:=kA.ok hb';have kO:=EY (p:=p) bA (by rw[kA.g];exact hn) (by rw[kA.old];exact ho);have bO:=kO.ok bA;have hgl:c.g.nodes.length=b.g.nodes.length:=by rw[hlk.g]
  have hge:c.g=b.g:=hlk.g
  have hlay:0<p.part->VC Sol.prog 78 false [btV c,plV p,ndV n,vi (IntKind.i64.wrap (x.slack+i))] (btV (layB c p n (IntKind.i64.wrap (x.slack+i)))):=λh0=>by
   obtain rfl|⟨a,h1,h2,h3⟩:=hb'.here i p n hp hn
   ·simp at h0
   ·exact Mc hb'.lay h1 (by have:=hb'.len p.part;omega) h3 hpn
  have hlayO:0<o.part->VC Sol.prog 78 false [btV c,plV o,ndV n,vi 0] (btV (layB c o n 0)):=λh0=>by
   obtain rfl|⟨a,h1,h2,h3⟩:=hb'.old i o n ho hn
   ·simp at h0
   ·exact Mc hb'.lay h1 (by have:=hb'.len o.part;omega) h3 hpn
  have hpp:p.part=0\/0<p.part:=by
   obtain rfl|⟨a,h1,h2,h3⟩:=hb'.here i p n hp hn
   ·exact .inl rfl
   ·exact .inr Z0
  have hoo:o.part=0\/0<o.part:=by
   obtain rfl|⟨a,h1,h2,h3⟩:=hb'.old i o n ho hn
   ·exact .inl rfl
   ·exact .inr Z0
  obtain hp0|hp0:=hpp
  ·obtain ho0|ho0:=hoo
   ·simp[btC,h,hi',hgl,hn,hp,ho,ZA hn,ZA hp,ZA ho,Ru,Rx,Sj,hp0,ho0,hw]
   ·have hne:¬0<p.part:=Z0
    have hlk2:Like c (layB c o n 0):=by
     have:=EY (p:=p) hb' hn ho;unfold Rx at this;rwa[if_pos ⟨ho0,hp0⟩]at this
    have hlO:=hlayO ho0;simp[btC,h,hi',hgl,hn,hp,ho,ZA hn,ZA hp,ZA ho,Ru,Rx,Sj,hp0,ho0,hw];generalize layB c o n 0=d at*;obtain⟨d1,d2,d3,d4,d5,_,_⟩:=hlk2;refine Z4 hlO (by simp[btV]) ?_;simp[btC,d1,d2,d3,hn,hp,ho,ZA hn,ZA hp,ZA ho,hp0,ho0,hw,h]
  ·have hne0:¬p.part=0:=Z0
   have hlk2:Like c (layB c p n (IntKind.i64.wrap (x.slack+i))):=by
    have:=EX (x:=x) hb' hn hp;unfold Ru at this;rwa[if_pos hp0]at this
   have hlA:=hlay hp0;have bd:=hlk2.ok hb';obtain ho0|ho0:=hoo
   ·simp[btC,h,hi',hgl,hn,hp,ho,ZA hn,ZA hp,ZA ho,Ru,Rx,Sj,hp0,ho0,hne0,hw];generalize layB c p n (IntKind.i64.wrap (x.slack+i))=d at*;obtain⟨d1,d2,d3,d4,d5,_,_⟩:=hlk2;refine Z4 hlA (by simp[btV]) ?_;simp[btC,d1,d2,d3,hn,hp,ho,ZA hn,ZA hp,ZA ho,hp0,ho0,hne0,hw,h]
   ·simp[btC,h,hi',hgl,hn,hp,ho,ZA hn,ZA hp,ZA ho,Ru,Rx,Sj,hp0,ho0,hne0,hw];generalize layB c p n (IntKind.i64.wrap (x.slack+i))=d at*;obtain⟨d1,d2,d3,d4,d5,_,_⟩:=hlk2;refine Z4 hlA (by simp[btV]) ?_;simp[btC,d1,d2,d3,hn,hp,ho,ZA hn,ZA hp,ZA ho,hp0,ho0,hne0,hw,h];obtain rfl|⟨a,h1,h2,h3⟩:=hb'.old i o n ho hn
    ·simp at ho0
    have hdl:=bd.len o.part;have hlim:(Zd d.h o.part).length<=lim:=Z3Y
    have hal:a< (Zd d.h o.part).length:=by
     have:=VN d4 o.part;unfold sizN at h3;omega
    refine Z4 (qZ (h:=d.h) (n:=o.part)) (by simp[hpV]) ?_;simp[hlim,hp];refine Z4 (Ji (b:=⟨d.h,c.g,c.here,c.old⟩) bd.lay (p:=p)) Z1 ?_;simp[h1,hal,ho,ZA ho];have hwith:=j0 (h:=d.h) (n:=o.part) (l:=(Zd d.h o.part).set a (refB d.h p));rw[Z6f]at hwith;refine Z4 hwith (by simp[hpV]) ?_;simp[hw,h,d1,d2,d3]
 ·have:i=b.g.nodes.length:=Z0;subst this;have bd:=hlk.ok hb;unfold Y4;generalize Sk x b b.g.nodes.length=d at*;obtain⟨d1,d2,d3,d4,d5,_,_⟩:=hlk;simp[btC,d1,d2,d3];refine Xb 13 b.g.roots.length (λk=>[(12,.v (.sl ((b.g.roots.take k).map λr=>vu (if 0<=r then refB d.h ((b.here[r.toNat]?).getD ⟨0,0⟩)else 0)))),(13,.v (vi k))]) (λ_=>True) Z1 (λi=>Z1) trivial ?_;rintro k hk-;have hrl:=hb.rl;have hwk:=Z7 ((k:Int)+1) Z0 Z0;by_cases hkl:k<b.g.roots.length
  ·have hr:b.g.roots[k]?=some b.g.roots[k]:=Z4u hkl;have hrn:=hb.rts _ (Z4J hkl);generalize b.g.roots[k]=r at*;have htk:b.g.roots.take (k+1)=b.g.roots.take k++[r]:=by rw[Z5n,hr];rfl
   have hlim:min k b.g.roots.length+1<=lim:=Z3Y;by_cases h0:0<=r
   ·obtain⟨q,rfl⟩:=Z4P h0;have hq:b.here[q]?=some (b.here[q]'(by rw[hb.hl];omega)):=Z4u _;generalize b.here[q]'(by rw[hb.hl];omega)=p at*;simp[hkl,hr,ZA hr,hq,ZA hq];refine Z4 (Ji (b:=⟨d.h,b.g,b.here,b.old⟩) bd.lay (p:=p)) Z1 ?_;simp[hwk,hlim,hkl];rw[Z5n,Z4M,hr];simp[hq]
   ·simp[hkl,hr,ZA hr,h0,hwk,hlim,htk,hkl]
  ·have:k=b.g.roots.length:=Z0;subst this;simp[hpV]
end Vm
namespace Vm
open Go Go.Proofs
def PIn(s:St8)(p:Pl)(sz:Nat):Prop:=p=⟨0,0⟩\/∃a:Nat,p.at_=a/\((p.part=1/\a+sz<=s.n1)\/(p.part=2/\a+sz<=s.n2))
def POl(s:St8)(p:Pl)(sz:Nat):Prop:=p=⟨0,0⟩\/∃a:Nat,p.at_=a/\((p.part=3/\a+sz<=s.n3)\/(p.part=4/\a+sz<=s.n4))
def Gl{x:Rw}{cycle:Bool}{sz i:Nat}{s:St8}:s.n1<=(ZV x cycle sz i s).n1/\s.n2<=(ZV x cycle sz i s).n2/\s.n3<=(ZV x cycle sz i s).n3/\s.n4<=(ZV x cycle sz i s).n4:=by
 grind [ZV]
def PIn.mono{s t:St8}{p:Pl}{sz:Nat}(h:PIn s p sz)(h1:s.n1<=t.n1)(h2:s.n2<=t.n2):PIn t p sz:=by
 obtain h|⟨a,ha,⟨hp,h⟩|⟨hp,h⟩⟩:=h
 ·exact .inl h
 ·exact .inr ⟨a,ha,.inl ⟨hp,Z0⟩⟩
 ·exact .inr ⟨a,ha,.inr ⟨hp,Z0⟩⟩
def POl.mono{s t:St8}{p:Pl}{sz:Nat}(h:POl s p sz)(h1:s.n3<=t.n3)(h2:s.n4<=t.n4):POl t p sz:=by
 obtain h|⟨a,ha,⟨hp,h⟩|⟨hp,h⟩⟩:=h
 ·exact .inl h
 ·exact .inr ⟨a,ha,.inl ⟨hp,Z0⟩⟩
 ·exact .inr ⟨a,ha,.inr ⟨hp,Z0⟩⟩
def qJ{x:Rw}{cycle:Bool}{g:Gr}(hg:∀n∈g.nodes,sizN n<=9):∀i,i<=g.nodes.length->∀(j:Nat) (n:Nd),g.nodes[j]?=some n->
  (∀p,(stN x cycle g i).here[j]?=some p->PIn (stN x cycle g i) p (sizN n))/\(∀p,(stN x cycle g i).old[j]?=some p->POl (stN x cycle g i) p (sizN n))
 |0,_,j,n,hn=>⟨λp hp=>by simp[stN]at hp,λp hp=>by simp[stN]at hp⟩
 |i+1,hi,j,n,hn=>by
  obtain⟨h1,h2⟩:=qJ (x:=x) (cycle:=cycle) hg i Z0 j n hn;obtain⟨_,_,l1,l2⟩:=U3 (x:=x) (cycle:=cycle) hg i Z0;have hgi:g.nodes[i]?=some g.nodes[i]:=Z4u Z0;simp only[stN,hgi,Z4W];generalize stN x cycle g i=s at*;obtain⟨q1,q2,q3,q4⟩:=Gl (x:=x) (cycle:=cycle) (sz:=sizN g.nodes[i]) (i:=i) (s:=s);have hjl:j<g.nodes.length:=(Z4v.1 hn).1;constructor
  ·intro p hp;by_cases hj:j<i
   ·have:s.here[j]?=some p:=by
     simp only[ZV]at hp;rwa[Z57 Z0]at hp
    exact(h1 p this).mono q1 q2
   ·by_cases hji:j=i
    ·subst hji;rw[hgi]at hn;cases hn;simp only[ZV]at hp;rw[Z4S Z0,l1,Z6b]at hp;simp only[Z6e,Z4s]at hp;subst hp;unfold PIn;obtain hk|hk|⟨hk,rfl⟩:=YU x j cycle
     ·grind [ZV]
     ·grind [ZV]
     simp_all
    grind [ZV,List.getElem?_eq_some_iff]
  ·intro p hp;by_cases hj:j<i
   ·have:s.old[j]?=some p:=by
     simp only[ZV]at hp;rwa[Z57 Z0]at hp
    exact(h2 p this).mono q3 q4
   ·by_cases hji:j=i
    ·subst hji;rw[hgi]at hn;cases hn;simp only[ZV]at hp;rw[Z4S Z0,l2,Z6b]at hp
     grind [List.getElem?_cons_zero,Option.some.injEq,POl,decide,clsK,clsF,ZV]
    grind [ZV,List.getElem?_eq_some_iff]
def Fd(l:List Nd)(roots:List Int):∀n∈(mkG l roots).nodes,∀q∈n.ptrs,-1<=q/\q< ((mkG l roots).nodes.length:Int):=by
 intro n hn q hq;rw[TE];simp only[mkG,Z4I]at hn;obtain⟨y,_,rfl⟩:=hn;simp only[mkNd,Z4I]at hq;obtain⟨p,_,rfl⟩:=hq;exact Z0u
def NB(l:List Nd)(roots:List Int):∀q∈(mkG l roots).roots,-1<=q/\q< ((mkG l roots).nodes.length:Int):=by
 intro q hq;rw[TE];simp only[mkG]at hq;split at hq
 ·grind
 ·simp only[Z4I]at hq;obtain⟨p,_,rfl⟩:=hq;exact Z0u
def NA(l:List Nd)(roots:List Int)(hl:∀n∈l,∀q∈n.data,U64 q):∀n∈(mkG l roots).nodes,∀q∈n.data,U64 q:=by
 intro n hn q hq;simp only[mkG,Z4I]at hn;obtain⟨y,hy,rfl⟩:=hn
 grind [mkNd,List.mem_of_mem_take]
def S3{x:Rw}(hx:x.ok)(cycle:Bool):BOk (Zy x cycle)/\Fit (Zy x cycle).h.scan/\Zi (layH (Zy x cycle).h)=true:=by
 obtain⟨hb1,hb2,hb3⟩:=SB x.nodes x.roots;have hb5:=TE x.nodes x.roots;have hp:=Fd x.nodes x.roots;have hr:=NB x.nodes x.roots;have hd:=NA x.nodes x.roots hx.data;unfold Zy;generalize mkG x.nodes x.roots=g at*;have hsz:∀n∈g.nodes,sizN n<=9:=λn hn=>by grind [sizN]
 obtain⟨s1,s2,s3,s4⟩:=U3 (x:=x) (cycle:=cycle) hsz g.nodes.length (Z4A _);have hpl:=qJ (x:=x) (cycle:=cycle) hsz g.nodes.length (Z4A _);dsimp only;generalize stN x cycle g g.nodes.length=s at*;have hsl:=Xw (c:=x.slack) (n:=12) Z0;have hto:=Xw (c:=x.to) (n:=2) Z0;obtain⟨cap,hcap⟩:∃cap:Int,max ((s.n1:Int)+s.n2+s.wt) ((s.n3:Int)+s.n4)+pick x.slack 12=cap:=⟨_,rfl⟩;rw[hcap];have hc0:0<=cap/\cap<=200:=Z0;have h1:=Z8o x.base (Z0:(9223372036854775808-2*cap)≠0);have h2:=Z7R x.base (Z0:0< (9223372036854775808-2*cap));generalize x.base% (9223372036854775808-2*cap)=base at*
 have hscan:Fit (if cycle=true/\0<s.n1 then pick x.scan s.n1 else s.n1):=by
  split
  ·rename_i h;have:=Xw (c:=x.scan) (n:=s.n1) Z0;exact⟨Z0,Z0⟩
  ·exact⟨Z0,Z0⟩
 refine⟨⟨?_,?_,?_,?_,?_,?_,?_,?_,?_,?_,?_,?_⟩,hscan,?_⟩
 ·refine⟨⟨?_,?_⟩,⟨?_,?_⟩,⟨?_,?_⟩,⟨?_,?_⟩,⟨?_,?_⟩,⟨?_,?_⟩,⟨?_,?_⟩⟩<;>simp[layH]<;>omega
 ·exact s3
 ·exact s4
 ·simp_all
 ·grind
 ·exact hd
 ·simp_all
 ·exact hb2
 ·intro i p n hpi hni;rcases(hpl i n hni).1 p hpi with h|⟨a,ha,⟨hpp,h⟩|⟨hpp,h⟩⟩
  ·grind
  ·exact .inr ⟨a,ha,.inl hpp,Z3M⟩
  ·exact .inr ⟨a,ha,.inr hpp,Z3M⟩
 ·intro i p n hpi hni;rcases(hpl i n hni).2 p hpi with h|⟨a,ha,⟨hpp,h⟩|⟨hpp,h⟩⟩
  ·grind
  ·exact .inr ⟨a,ha,.inl hpp,Z3M⟩
  ·exact .inr ⟨a,ha,.inr hpp,Z3M⟩
 ·grind [Zd]
 ·refine⟨λk=> ?_,Z1⟩
  grind [List.replicate,U64,Zd]
 ·refine Yv.2 ?_;simp only[layH,Z8s];omega
def Gq(x:Rw):Hp:=Y4 x (Zy x false)
def So(x:Rw):Hp:=if(Zy x true).h.low.length=0 then Gq x else Y4 x (Zy x true)
def GW{x:Rw}(hx:x.ok):VC Sol.prog 35 false [rwV x] (hpV (Gq x)):=by
 refine Z8 Sol.func35 follows Z2 c35 rfl ?_;simp[p35];refine Z4 (BM hx (cycle:=false)) (by simp[rwV]) ?_;simp;refine Z4 (Ea hx (S3 hx false).1) Z1 ?_;simp;rfl
def MF{x:Rw}(hx:x.ok):VC Sol.prog 16 false [rwV x] (hpV (So x)):=by
 refine Z8 Sol.func16 follows Z2 c16 rfl ?_;simp[p16];refine Z4 (BM hx (cycle:=true)) (by simp[rwV]) ?_;unfold So;by_cases h0:(Zy x true).h.low.length=0
 ·simp[btC,h0];refine Z4 (GW hx) Z1 ?_;simp;rfl
 ·simp[btC,h0];refine Z4 (Ea hx (S3 hx true).1) Z1 ?_;simp;rfl
def B1{x:Rw}{b:Bt}(hb:BOk b)(hs:Fit b.h.scan):(Y4 x b).ok/\layH (Y4 x b)=layH b.h/\(Y4 x b).scan=b.h.scan/\(Y4 x b).cycle=b.h.cycle:=by
 have hl:=yu (x:=x) hb b.g.nodes.length (Z4A _);have bd:=hl.ok hb;unfold Y4;generalize Sk x b b.g.nodes.length=d at*;obtain⟨h1,h2,h3,h4,h5,h6,h7,h8,h9,h10,h11,h12⟩:=bd;have l1:=h11 1;have l2:=h11 2;have l3:=h11 3;have l4:=h11 4;have w1:=h12.1 1;have w2:=h12.1 2;have w3:=h12.1 3;have w4:=h12.1 4;simp only[Mi,Mj,Mk,Ml]at l1 l2 l3 l4 w1 w2 w3 w4;have hrl:=hb.rl;refine⟨⟨h1.1,h1.2.1,h1.2.2.1,by rw[hl.scan];exact hs,?_,?_,?_,?_,?_,w1,w2,w3,w4,?_⟩,hl.lay,hl.scan,hl.cycle⟩
 ·grind
 ·grind
 ·grind
 ·grind
 ·simp;omega
 ·intro w hw;simp only[Z4I]at hw;obtain⟨r,_,rfl⟩:=hw;split
  ·exact SM _ _
  ·exact⟨Z0,Z0⟩
end Vm
end
section

end
section
namespace Vm
open Go Go.Proofs
structure Ob where
 at_:Int
 size:Int
 ptrs:Int
 gone:Bool
 target:Int
 deriving DecidableEq,Inhabited
def obV(o:Ob):V:=.agg [vi o.at_,vi o.size,vi o.ptrs,.bool o.gone,vu o.target]
@[simp]def Z2E(o:Ob):szV (obV o) 5=some (obV o):=rfl
@[simp]def g7(o:Ob):Ry (obV o) 0 5=some (obV o):=rfl
@[simp]def s9(o:Ob):(obV o).cells=[vi o.at_,vi o.size,vi o.ptrs,.bool o.gone,vu o.target]:=rfl
@[simp]def PU(o:Ob):fldV (obV o) 0=some (vi o.at_):=rfl
@[simp]def PV(o:Ob):fldV (obV o) 1=some (vi o.size):=rfl
@[simp]def PW(o:Ob):fldV (obV o) 2=some (vi o.ptrs):=rfl
@[simp]def PX(o:Ob):fldV (obV o) 3=some (.bool o.gone):=rfl
@[simp]def PY(o:Ob):fldV (obV o) 4=some (vu o.target):=rfl
@[simp]def N8(o:Ob):Ry (obV o) 1 2=some (shV o.size o.ptrs):=rfl
@[simp]def OE(l:List Ob):Ya 5 (l.map obV)=true:=XM λ_=>rfl
def shP(s:Int×Int):V:=shV s.1 s.2
@[simp]def Z0x(s:Int×Int):(shP s).cells=[vi s.1,vi s.2]:=rfl
@[simp]def Z2H(s:Int×Int):szV (shP s) 2=some (shP s):=rfl
@[simp]def g9(s:Int×Int):Ry (shP s) 0 2=some (shP s):=rfl
@[simp]def d7(s:Int×Int):fldV (shP s) 0=some (vi s.1):=rfl
@[simp]def d8(s:Int×Int):fldV (shP s) 1=some (vi s.2):=rfl
@[simp]def OG(l:List (Int×Int)):Ya 2 (l.map shP)=true:=XM λ_=>rfl
def RC(w:Int):Bool:=decide (w=0)||decide ((adr w).2=0)
def ZO(l:List Int)(gone:Bool)(ptrs:Int)(i:Nat):Bool:=
 match l with
 | []=>true
 |w::l=>(!gone||decide (w=0))&&(!decide ((i:Int)<ptrs)||RC w)&&ZO l gone ptrs (i+1)
def qG{l:List Int}{gone:Bool}{ptrs:Int}{i:Nat}{w:Int}(h:l[i]?=some w):ZO (l.drop i) gone ptrs i=((!gone||decide (w=0))&&(!decide ((i:Int)<ptrs)||RC w)&&ZO (l.drop (i+1)) gone ptrs (i+1)):=by
 obtain⟨h1,h2⟩:=Z4v.1 h;rw[Z5r h1,h2];rfl
def objR(shs:List (Int×Int))(old:Bool)(at_ tk:Nat)(w:Int):Option (Ob×Nat):=
 if old=true/\(adr w).2=0 then
  match shs[tk]? with
  |none=>none
  |some s=>if Zo s.1 s.2 then some (⟨at_,s.1,s.2,true,(adr w).1⟩,tk+1)else none
 else if(unpk w).2.2=0 then some (⟨at_,(unpk w).1,(unpk w).2.1,false,0⟩,tk)else none
def Gv{w:Int}(h:(unpk w).2.2=0):Zo (unpk w).1 (unpk w).2.1=true:=by
 unfold unpk at*;split
 ·rename_i h1;exact h1.2
 ·rename_i h1;rw[if_neg h1]at h;simp at h
def Ud{shs:List (Int×Int)}{old:Bool}{at_ tk:Nat}{w:Int}{o:Ob}{t:Nat}(h:objR shs old at_ tk w=some (o,t)):Zo o.size o.ptrs=true/\o.at_=at_:=by
 unfold objR at h;split at h
 ·split at h
  ·cases h
  ·split at h
   ·rename_i s _ hs;cases h;exact⟨hs,rfl⟩
   ·cases h
 ·split at h
  ·rename_i h1;cases h;exact⟨Gv h1,rfl⟩
  ·cases h
def Xe(ws:List Int)(shs:List (Int×Int))(old:Bool):Nat->Nat->Nat->List Ob->List Ob×Int
 |0,_,_,_=>([],3)
 |f+1,at_,tk,acc=>
  match ws[at_]? with
  |none=>if tk<shs.length then([],3)else(acc,0)
  |some w=>match objR shs old at_ tk w with
   |none=>([],3)
   |some (o,t)=>
    if(ws.length:Int)<at_+1+o.size then([],2)
    else if ZO ((ws.drop (at_+1)).take o.size.toNat) o.gone o.ptrs 0=false then([],3)
    else Xe ws shs old f (at_+1+o.size.toNat) t (acc++[o])
def Zs(ws:List Int)(shs:List (Int×Int))(old:Bool):List Ob×Int:=Xe ws shs old (ws.length+1) 0 0 []
def ObIn(n:Nat)(o:Ob):Prop:=(∃a:Nat,o.at_=a/\(a:Int)+1+o.size<=n)/\Zo o.size o.ptrs=true
def jY{shs:List (Int×Int)}{old:Bool}{at_ tk:Nat}{w:Int}{o:Ob}{t:Nat}(hw:U64 w)(h:objR shs old at_ tk w=some (o,t)):U64 o.target:=by
 unfold objR at h;split at h
 ·split at h
  ·cases h
  ·split at h
   ·cases h;obtain⟨h1,h2⟩:=hw;show 0<=(adr w).1/\(adr w).1<18446744073709551616;unfold adr;split
    ·simp
    split
    ·simp
    ·simp only;omega
   ·cases h
 ·split at h
  ·cases h;show(0:Int)<=0/\(0:Int)<18446744073709551616;omega
  ·cases h
def BO{ws:List Int}{shs:List (Int×Int)}{old:Bool}(hw:∀w∈ws,U64 w):∀(f at_ tk:Nat) (acc:List Ob),(∀o∈acc,ObIn ws.length o/\U64 o.target)->∀o∈(Xe ws shs old f at_ tk acc).1,ObIn ws.length o/\U64 o.target
 |0,_,_,_,_=>by simp[Xe]
 |f+1,at_,tk,acc,hacc=>by
  simp only[Xe];split
  ·split
   ·simp
   ·exact hacc
  ·rename_i w hx;split
   ·simp
   ·rename_i o t ho;split
    ·simp
    ·rename_i hb;split
     ·simp
     ·refine BO hw f _ _ _ λo' ho'=> ?_;obtain h|h:=Z4R.1 ho'
      ·exact hacc o' h
      ·simp only[Z5x]at h;subst h;obtain⟨h1,h2⟩:=Ud ho;exact⟨⟨⟨at_,h2,Z0⟩,h1⟩,jY (hw w (Z4B hx)) ho⟩
def Uv{ws:List Int}{shs:List (Int×Int)}{old:Bool}(hw:∀w∈ws,U64 w):∀o∈(Zs ws shs old).1,ObIn ws.length o/\U64 o.target:=BO hw _ _ _ _ Z1
def qQ{ws:List Int}{shs:List (Int×Int)}{old:Bool}:∀(f at_ tk:Nat) (acc:List Ob),at_<=ws.length->acc.length<=at_->(Xe ws shs old f at_ tk acc).1.length<=ws.length
 |0,_,_,_,_,_=>by simp[Xe]
 |f+1,at_,tk,acc,ha,hacc=>by
  simp only[Xe];split
  ·split
   ·simp
   ·simp only;omega
  ·split
   ·simp
   ·rename_i o t ho;split
    ·simp
    ·rename_i hb;split
     ·simp
     ·have hsh:=Zc.1 (Ud ho).1;refine qQ f _ _ _ Z0 Z3N
def WT{ws:List Int}{shs:List (Int×Int)}{old:Bool}:(Zs ws shs old).1.length<=ws.length:=qQ _ _ _ _ Z0 Z1
end Vm
end
section

end
section
namespace Vm
open Go Go.Proofs
def ZM(h:Hp)(part at_:Int):Int:=(ZG (layH h) part at_).1
def atR(h:Hp)(part:Int)(l:List Ob)(a:Int):Option Ob:=l.find? λo=>ZM h part o.at_==a
theorem M0{h:Hp}{part a:Int}{l:List Ob}{o:Ob}(ho:atR h part l a=some o):o∈l:=Z75 ho
def YE(h:Hp)(ws:List Int)(low:List Ob):Nat->Nat->List (Int×Int)->Option (List (Int×Int))
 |0,_,_=>none
 |f+1,i,acc=>
  match ws[i]? with
  |none=>some acc
  |some w=>if(adr w).2=0 then(match atR h 1 low (adr w).1 with|none=>none|some o=>YE h ws low f (i+1+o.size.toNat) (acc++[(o.size,o.ptrs)]))
   else if(unpk w).2.2=0 then YE h ws low f (i+1+(unpk w).1.toNat) acc else none
def YS(h:Hp)(ws:List Int)(low:List Ob):Option (List (Int×Int)):=YE h ws low (ws.length+1) 0 []
structure Pts where
 low:List Ob
 high:List Ob
 old:List Ob
 far:List Ob
 deriving Inhabited
def Pts.at(p:Pts)(k:Int):List Ob:=if k=1 then p.low else if k=2 then p.high else if k=3 then p.old else p.far
@[simp]def Pts.at1(p:Pts):p.at 1=p.low:=rfl
@[simp]def Pts.at2(p:Pts):p.at 2=p.high:=rfl
@[simp]def Pts.at3(p:Pts):p.at 3=p.old:=rfl
@[simp]def Pts.at4(p:Pts):p.at 4=p.far:=rfl
structure Pts.ok (p:Pts) (h:Hp):Prop where
 ob:∀k,∀o∈p.at k,ObIn (Zd h k).length o/\U64 o.target
 len:∀k,(p.at k).length<=1000000
def Yc(h:Hp):Option Pts:=
 let low:=Zs h.low [] false
 let high:=Zs h.high [] false
 if low.2≠0\/high.2≠0 then none else
 let p:=YS h h.old low.1
 let q:=YS h h.far low.1
 let old:=Zs h.old (p.getD []) true
 let far:=Zs h.far (q.getD []) true
 if p=none\/q=none\/old.2≠0\/far.2≠0 then none else some ⟨low.1,high.1,old.1,far.1⟩
def Id{h:Hp}(hh:h.ok){p:Pts}(hp:Yc h=some p):p.ok h:=by
 unfold Yc at hp;dsimp only at hp;split at hp
 ·cases hp
 split at hp
 ·cases hp
 ·cases hp;refine⟨λk o ho=> ?_,λk=> ?_⟩
  ·unfold Pts.at at ho;unfold Zd;split at ho
   ·rename_i e;rw[if_pos e];exact Uv hh.lowW o ho
   rename_i e1;rw[if_neg e1];split at ho
   ·rename_i e;rw[if_pos e];exact Uv hh.highW o ho
   rename_i e2;rw[if_neg e2];split at ho
   ·rename_i e;rw[if_pos e];exact Uv hh.oldW o ho
   ·rename_i e;rw[if_neg e];exact Uv hh.farW o ho
  ·unfold Pts.at;split
   ·exact Z4Z WT hh.low
   split
   ·exact Z4Z WT hh.high
   split
   ·exact Z4Z WT hh.old
   ·exact Z4Z WT hh.far
def Xr(h:Hp)(p:Pts)(w one two:Int):Bool:=decide (w=0)||(decide ((adr w).2=0)&&((atR h one (p.at one) (adr w).1).isSome||(atR h two (p.at two) (adr w).1).isSome))
def wtO(o:Ob):Nat:=if o.gone then 0 else 1+o.size.toNat
def wtL(l:List Ob):Nat:=(l.map wtO).sum
def BV{l:List Ob}{i:Nat}{o:Ob}(h:l[i]?=some o):wtL (l.take (i+1))=wtL (l.take i)+wtO o:=by
 unfold wtL;rw[Z5n,h,Z5F,List.sum_append];simp
def L6{l:List Ob}(h:∀o∈l,Zo o.size o.ptrs=true):wtL l<=256*l.length:=by
 induction l with
 |nil=>simp[wtL]
 |cons o l ih=>
  have h1:=ih λx hx=>h x (by simp[hx]);have h2:=Zc.1 (h o Z1);have h3:wtO o<=256:=by unfold wtO;split<;>omega
  have h4:wtL (o::l)=wtO o+wtL l:=by simp[wtL]
  simp only[Z5B];omega
def IQ(p:Pts):Nat:=wtL p.old+wtL p.far
def tgL(l:List Ob)(a:Int):Nat:=(l.filter λo=>o.gone&&decide (o.target=a)).length
def Gs(p:Pts)(a:Int):Nat:=tgL p.old a+tgL p.far a
def numR(h:Hp):Bool:=
 Zi (layH h)&&decide (h.roots.length<=16)&&decide (0<=h.scan)&&decide (h.scan<=h.low.length)&&
  (if h.cycle then decide (h.scan<h.low.length)else decide (h.scan=h.low.length)&&decide (h.old.length=0)&&decide (h.far.length=0))
def SK(h:Hp)(p:Pts)(part:Int)(k:Nat):Bool:=
 let w:=((Zd h part)[k]?).getD 0
 let to:=Xr h p w 1 2
 let from_:=Xr h p w 3 4
 if 2<part then from_ else if part=1/\h.scan<=k then to||from_ else to
def Bl(h:Hp)(p:Pts)(part:Int)(o:Ob):Bool:=(List.range o.ptrs.toNat).all λj=>SK h p part (o.at_.toNat+1+j)
def WK(h:Hp)(p:Pts)(part:Int):Bool:=(p.at part).all (Bl h p part)
def AH{α:Type}{q:α->Bool}{l:List α}{i:Nat}{x:α}(h:l[i]?=some x):(l.take (i+1)).all q=((l.take i).all q&&q x):=by
 rw[Z5n,h,Z8p];simp
def IY{α:Type}{q:α->Bool}{l:List α}{i:Nat}{x:α}(h:l[i]?=some x)(hq:q x=false):l.all q=false:=by
 rw[Z6A];exact⟨x,Z4B h,by simp[hq]⟩
def tgOk(h:Hp)(p:Pts)(o:Ob):Bool:=decide (Gs p (ZM h 1 o.at_)=1)
def TP(h:Hp)(p:Pts):Bool:=
 (!h.cycle||p.low.all (tgOk h p))&&h.roots.all (λw=>Xr h p w 1 2)&&WK h p 1&&WK h p 2&&WK h p 3&&WK h p 4&&decide ((h.low.length:Int)+h.high.length+IQ p<=h.cap)
def YC(h:Hp):Bool:=numR h&&match Yc h with
 |none=>false
 |some p=>TP h p
def ZE{h:Hp}(hh:h.ok)(k:Int):(∀w∈Zd h k,U64 w)/\(Zd h k).length<=1000000:=by
 unfold Zd;split
 ·exact⟨hh.lowW,hh.low⟩
 split
 ·exact⟨hh.highW,hh.high⟩
 split
 ·exact⟨hh.oldW,hh.old⟩
 ·exact⟨hh.farW,hh.far⟩
def Jm{h:Hp}(hr:YC h=true):∃p,Yc h=some p/\TP h p=true/\numR h=true:=by
 unfold YC at hr;simp only[Z4x]at hr;cases hp:Yc h with
 |none=>rw[hp]at hr;simp at hr
 |some p=>rw[hp]at hr;exact⟨p,rfl,hr.2,hr.1⟩
def Uz(h:Hp)(part:Int):List Ob×Int:=if YC h=true/\1<=part/\part<=4 then(((Yc h).getD default).at part,0)else([],1)
def Fm{h:Hp}(hh:h.ok)(part:Int):(Uz h part).1.length<=1000000:=by
 unfold Uz;split
 ·rename_i hr;obtain⟨p,hp,_,_⟩:=Jm hr.1;rw[hp];exact(Id hh hp).len part
 ·simp
end Vm
end
section

end
section
namespace Vm
open Go Go.Proofs
theorem WO{h:Hp}{k:Int}(hk:1<=k/\k<=4):sizL (layH h) k=(Zd h k).length:=by
 have:k=1\/k=2\/k=3\/k=4:=Z0;obtain rfl|rfl|rfl|rfl:=this<;>rfl
def Hp.zero:Hp:=⟨0,0,0,false,0,[],[],[],[],[]⟩
def zr(ws:List Int)(a:Nat):Nat->List Int
 |0=>ws
 |i+1=>(zr ws a i).set (a+i) 0
@[simp]def Z3r(ws:List Int)(a n:Nat):(zr ws a n).length=ws.length:=by
 induction n with
 |zero=>rfl
 |succ n ih=>simp[zr,ih]
end Vm
namespace Vm
open Go Go.Proofs
@[simp]def Z3s(k:IntKind)(a b c d e f:Int):aiV (.agg [.int k a,.int k b,.int k c,.int k d,.int k e,.int k f]) (.int .i64 0) 6 1 false=some (.int k a):=rfl
@[simp]def Z2W(a b c d e f:Bool):aiV (.agg [.bool a,.bool b,.bool c,.bool d,.bool e,.bool f]) (.int .i64 0) 6 1 false=some (.bool a):=rfl
@[simp]def Z3t(k:IntKind)(a b c d e f:Int):aiV (.agg [.int k a,.int k b,.int k c,.int k d,.int k e,.int k f]) (.int .i64 1) 6 1 false=some (.int k b):=rfl
@[simp]def Z2X(a b c d e f:Bool):aiV (.agg [.bool a,.bool b,.bool c,.bool d,.bool e,.bool f]) (.int .i64 1) 6 1 false=some (.bool b):=rfl
@[simp]def Z3u(k:IntKind)(a b c d e f:Int):aiV (.agg [.int k a,.int k b,.int k c,.int k d,.int k e,.int k f]) (.int .i64 2) 6 1 false=some (.int k c):=rfl
@[simp]def Z2Y(a b c d e f:Bool):aiV (.agg [.bool a,.bool b,.bool c,.bool d,.bool e,.bool f]) (.int .i64 2) 6 1 false=some (.bool c):=rfl
@[simp]def Z3v(k:IntKind)(a b c d e f:Int):aiV (.agg [.int k a,.int k b,.int k c,.int k d,.int k e,.int k f]) (.int .i64 3) 6 1 false=some (.int k d):=rfl
@[simp]def Z2Z(a b c d e f:Bool):aiV (.agg [.bool a,.bool b,.bool c,.bool d,.bool e,.bool f]) (.int .i64 3) 6 1 false=some (.bool d):=rfl
@[simp]def Z3w(k:IntKind)(a b c d e f:Int):aiV (.agg [.int k a,.int k b,.int k c,.int k d,.int k e,.int k f]) (.int .i64 4) 6 1 false=some (.int k e):=rfl
@[simp]def Z30(a b c d e f:Bool):aiV (.agg [.bool a,.bool b,.bool c,.bool d,.bool e,.bool f]) (.int .i64 4) 6 1 false=some (.bool e):=rfl
@[simp]def Z3x(k:IntKind)(a b c d e f:Int):aiV (.agg [.int k a,.int k b,.int k c,.int k d,.int k e,.int k f]) (.int .i64 5) 6 1 false=some (.int k f):=rfl
@[simp]def Z31(a b c d e f:Bool):aiV (.agg [.bool a,.bool b,.bool c,.bool d,.bool e,.bool f]) (.int .i64 5) 6 1 false=some (.bool f):=rfl
end Vm
namespace Vm
open Go Go.Proofs
def IR{h:Hp}(hh:h.ok){k:Int}{l:List Int}(h1:l.length<=1000000)(h2:∀w∈l,U64 w):(Xa h k l).ok:=by
 obtain⟨a1,a2,a3,a4,a5,a6,a7,a8,a9,b1,b2,b3,b4,b5⟩:=hh;unfold Xa;split
 ·exact⟨a1,a2,a3,a4,h1,a6,a7,a8,a9,h2,b2,b3,b4,b5⟩
 split
 ·exact⟨a1,a2,a3,a4,a5,h1,a7,a8,a9,b1,h2,b3,b4,b5⟩
 split
 ·exact⟨a1,a2,a3,a4,a5,a6,h1,a8,a9,b1,b2,h2,b4,b5⟩
 ·exact⟨a1,a2,a3,a4,a5,a6,a7,h1,a9,b1,b2,b3,h2,b5⟩
end Vm
end
section
namespace Vm
open Go Go.Proofs
def Di{n:Nat}{x:V}(h:tyV Try.prog (n+1) 3 x):∃m,x=vi m/\Fit m:=by
 obtain⟨m,rfl,h1,h2⟩:=MA Try.underlying3 h;exact⟨m,rfl,h1,h2⟩
def Oj{n:Nat}{x:V}(h:tyV Try.prog (n+1) 24 x):∃m,x=vu m/\U64 m:=by
 obtain⟨m,rfl,h1,h2⟩:=MA Try.underlying24 h;exact⟨m,rfl,h1,Int.lt_of_le_of_lt h2 (by decide)⟩
def Gu{n:Nat}{x:V}(h:tyV Try.prog (n+2) 23 x):∃l:List Int,x=.sl (l.map vi)/\l.length<=maxLen/\∀p∈l,Fit p:=
 zk Try.underlying23 h λy hy=>Di hy
def Z0O{n:Nat}{x:V}(h:tyV Try.prog (n+2) 35 x):∃l:List Int,x=.sl (l.map vu)/\l.length<=maxLen/\∀p∈l,U64 p:=
 zk Try.underlying35 h λy hy=>Oj hy
def Nd.fits(x:Nd):Prop:=(x.ptrs.length<=maxLen/\∀p∈x.ptrs,Fit p)/\x.data.length<=maxLen/\∀p∈x.data,U64 p
def Z0N{n:Nat}{x:V}(h:tyV Try.prog (n+3) 105 x):∃a:Nd,x=ndV a/\a.fits:=by
 obtain⟨ys,rfl,hl,hf⟩:=qM Try.underlying105 h
 match ys,hl with
 | [a,b],_=>
   obtain⟨ps,rfl,h1,h2⟩:=Gu (hf 0 _ a rfl rfl);obtain⟨ds,rfl,h3,h4⟩:=Z0O (hf 1 _ b rfl rfl);exact⟨⟨ps,ds⟩,rfl,⟨h1,h2⟩,h3,h4⟩
def Oi{n:Nat}{x:V}(h:tyV Try.prog (n+4) 22 x):∃l:List Nd,x=.sl (l.map ndV)/\l.length<=maxLen/\∀a∈l,a.fits:=
 zk Try.underlying22 h λy hy=>Z0N hy
def Z2J{n:Nat}{x:V}(h:tyV Try.prog (n+5) 26 x):∃r:Rw,x=rwV r/\r.ok:=by
 obtain⟨ys,rfl,hl,hf⟩:=qM Try.underlying26 h
 match ys,hl with
 | [a,b,c,d,e,f,g],_=>
   obtain⟨ns,rfl,_,h0⟩:=Oi (hf 0 _ a rfl rfl);obtain⟨rs,rfl,_,h1⟩:=Gu (hf 1 _ b rfl rfl);obtain⟨cs,rfl,_,h2⟩:=Gu (hf 2 _ c rfl rfl);obtain⟨d,rfl,h3⟩:=Oj (hf 3 _ d rfl rfl);obtain⟨e,rfl,h4⟩:=Di (hf 4 _ e rfl rfl);obtain⟨f,rfl,h5⟩:=Di (hf 5 _ f rfl rfl);obtain⟨g,rfl,h6⟩:=Di (hf 6 _ g rfl rfl);exact⟨⟨ns,rs,cs,d,e,f,g⟩,rfl,λn hn p hp=>(h0 n hn).1.2 p hp,λn hn p hp=>(h0 n hn).2.2 p hp,h1,h2,h3,h4,h5,h6⟩
def own:ownKnob Try.prog.godebug=none:=Z2
def laidOut:laidOutB Try.prog=true:=Z2
end Vm
end
section
namespace Vm
open Go Go.Conc Go.ConcN
section
section
variable {P:Program}{Stop:Frame->List Frame->World->Prop}{b:Frame}{k:List Item}{cs:List Frame}{a:Act}{w:World}
def Walk.two{x y:Code}(h:Walk P Stop (b.at a (.code x:: .code y::k)) cs w):Walk P Stop (b.at a (.code (.seq x y)::k)) cs w:=.go (λw=>stepG_seq) h
def Walk.region{id:Nat}{ops:Array Oper}(h:Walk P Stop (b.at a (.inRegion ops (List.range ops.size)::k)) cs w):Walk P Stop (b.at a (.code (.region id ops false)::k)) cs w:=.go (λw=>stepG_region) h
def Walk.regEnd{ops:Array Oper}(h:Walk P Stop (b.at a k) cs w):Walk P Stop (b.at a (.inRegion ops []::k)) cs w:=.go (λw=>stepG_region_end) h
def Walk.val{ops:Array Oper}{i:Nat}{rest:List Nat}{o:Oper}{v:Value}(ho:ops[i]?=some o)(hw:Region.wanted o (yielded ops a.tmps)=true)(hk:b.kind≠.early)(hf:C6 P o.op=true)(hr:∀w':World,w'.heap=w.heap->(execOp a.eval o).run P w'=.ok (.value v) w')
  (h:Walk P Stop (b.at (a.put o.dst v) (.inRegion ops rest::k)) cs w):Walk P Stop (b.at a (.inRegion ops (i::rest)::k)) cs w:=by
 refine .one λd=> ?_;have hev:EvsB (wdR ((execOp a.eval o).run P (w.at d))).heap.size (listed P b.fn a o (w.at d)):=λe he=>B0 hf a (w.at d) e (mem_listed he);rw[hr (w.at d) rfl]at hev;exact⟨_,_,_,_,stepG_value ho hw hk (hr (w.at d) rfl),Z4A _,hev,h.at d⟩
def Walk.chan{ops:Array Oper}{i:Nat}{rest:List Nat}{o:Oper}{t el:TypeId}{dir:ChanDir}{inf:TypeInfo}{kk:IntKind}(ho:ops[i]?=some o)(hw:Region.wanted o (yielded ops a.tmps)=true)(hk:b.kind≠.early)(hop:o.op=.makeChan t (.const (.int kk 0)))(ht:P.underlying t=some (.chan dir el))(hi:P.info? el=some inf)
  (h:Walk P Stop (b.at (a.put o.dst (.chan (some w.heap.size))) (.inRegion ops rest::k)) cs (w.alloc (.chan 0 #[] false 0 0 false))):Walk P Stop (b.at a (.inRegion ops (i::rest)::k)) cs w:=by
 refine .one λd=> ?_;have e0:execOp a.eval o=(do pure (.value (<-Instr.makeChan t (.int kk (0:Nat)))):Sem Next):=by unfold execOp;simp only[hop];rfl
 have hr:(execOp a.eval o).run P (w.at d)=.ok (.value (.chan (some w.heap.size))) ((w.alloc (.chan 0 #[] false 0 0 false)).at d):=by
  rw[e0];simp only[Z54,run_makeChan (w:=w.at d) ht hi kk 0 Z0 Z0,Z51];rfl
 have hev:(execOp a.eval o).events P (w.at d) #[]=#[]:=by
  rw[e0];have h1:=events_makeChan (P:=P) (w:=w.at d) ht hi kk 0 Z0 Z0 #[]
  have h2:(Instr.makeChan t (.int kk (0:Nat))).runT P (w.at d) #[]=(.ok (.chan (some w.heap.size)) ((w.alloc (.chan 0 #[] false 0 0 false)).at d), #[]):=by
   refine Z6R ?_ h1;rw[Z6r];exact run_makeChan (w:=w.at d) ht hi kk 0 Z0 Z0
  show((Sem.bind _ _).runT P (w.at d) #[]).2=_;rw[Z6w,h2];rfl
 refine⟨_,_,_,_,stepG_value ho hw hk hr,by show w.heap.size<=(w.alloc _).heap.size;simp,λe he=> ?_,h.at d⟩;have:=mem_listed he;simp_all
def Walk.fork{fr fr2:Frame}{child:Goroutine}(hst:∀w:World,stepG P true (G fr cs) w=.spawn (G fr2 cs) child w #[])
  (H:∀(n d:Nat) (gs:Array Goroutine) (sl:Option (Nat×Nat)) (t:Trace) (q:Nat->Nat),0<n->gs.size=n+1->gs[0]?=some (G fr2 cs)->gs[n]?=some child->Lvs P n gs q->(∀OA OB KB,TI n OA OB KB w.heap.size t)->Win P (AtS P Stop) gs (w.at d) sl t):Walk P Stop fr cs w:=by
 intro d0 gs sl t q hl h0 ht
 have hnone:∀(gs':Array Goroutine) g,gs'[gs'.size]? ≠some g:=λgs' g e=>by
  simp_all
 refine skip hl (λi g hi hg=> ?_) ⟨0,_,.inl rfl,h0,rfl⟩ λgs' d sl' q' i g hsz' hsame hl' hi hgi hrun=> ?_
 ·obtain rfl|rfl:=hi
  ·rw[h0]at hg;cases hg;exact⟨awake_of (.inl rfl),λg1 g2 d=>woken_run rfl⟩
  simp_all
 ·obtain rfl|rfl:=hi
  ·have h0':gs'[0]?=some (G fr cs):=by rw[hsame 0 (.inl rfl)];exact h0
   have hpos:0<gs'.size:=(Z4z.1 h0').1;have hrunT:=runT_crowd_spawn (P:=P) (sl:=sl') (i:=0) (w:=w.at d) h0' (hst (w.at d));refine⟨_,_,_,_,hrunT,?_⟩;generalize hx:({g:=0,fn:=(G fr cs).frame.fn,pos:=(G fr cs).frame.place,act:=.go gs'.size}:MemOp)=x;generalize hy:({g:=gs'.size,fn:=child.frame.fn,pos:=(G fr cs).frame.place,act:=.start}:MemOp)=y;have hops:((MemOp.ofEvents 0 (G fr cs).frame.fn (G fr cs).frame.place #[]).push x).push y=#[x,y]:=by simp[MemOp.ofEvents]
   rw[hops];have hxg:x.g=0/\x.act=.go gs'.size:=by rw[<-hx];exact⟨rfl,rfl⟩
   have hyg:y.g=gs'.size/\y.act=.start:=by rw[<-hy];exact⟨rfl,rfl⟩
   refine H gs'.size d _ sl' _ q' hpos Z1 ?_ Z3L (λj g hj hne hg=> ?_) λOA OB KB=> ?_
   ·grind
   ·rw[Z6H]at hg;simp only[Z6z]at hg;rw[if_neg Z0,Z5q Z0]at hg;exact hl' j g hj Z0 hg
   ·have t0:TI gs'.size (λ_=>True) (λ_=>False) KB w.heap.size t:=⟨ht.clean,ht.hears,ht.low,λi op x h1 h2 h3=>.inl (ht.known i op x h1 h2 h3),λi op x h1 h2 h3=>.inr (.inr ⟨λ_=>by simp_all[KM,trivial],λb _ h=>h⟩)⟩
    have t1:=t0.comm (Z4A _) #[x,y] (λop hop=>by
     have:op=x\/op=y:=by simpa using hop
     obtain rfl|rfl:=this
     ·simp_all[MemAct.touch?]
     simp_all[MemAct.touch?])
    have old:∀(i:Nat) (op:MemOp) (tc:Touch),(t++ #[x,y])[i]?=some op->op.act.touch?=some tc->t[i]?=some op:=λi op tc h1 h2=>by
     obtain⟨_,h⟩|⟨_,h⟩:=getElem?_append_cases h1
     ·exact h
     ·have:op=x\/op=y:=by simpa using h
      obtain rfl|rfl:=this
      ·simp_all[MemAct.touch?]
      simp_all[MemAct.touch?]
    refine⟨t1.clean,t1.hears,t1.low,λi op tc h1 h2 h3=>.inl ((ht.known i op tc (old i op tc h1 h2) h2 h3).app _),λi op tc h1 h2 h3=>.inr (.inl ?_)⟩;exact fork_knows hxg hyg (ht.hears 0) (ht.hears _) (ht.known i op tc (old i op tc h1 h2) h2 h3)
  simp_all
def Walk.meet{fr fr2:Frame}{child:Goroutine}{c:Nat}{KA KB OA0:Nat->Prop}{StopA:(Nat->Prop)->Goroutine->World->Prop}{vs:List Value}{z:Value}(hst:∀w:World,stepG P true (G fr cs) w=.spawn (G fr2 cs) child w #[])
  (hA:Play P true c KA StopA (vs.map .recv++[.closed z]) OA0 (G fr2 cs) w) (hB:Play P false c KB (XN P c) (vs.map .send) (λ_=>False) child w) (hch:w.heap[c]?=some (.chan 0 #[] false 0 0 false))
  (la:∀b,OA0 b->b<w.heap.size) (ka:∀b,KA b->b<w.heap.size) (kb:∀b,KB b->b<w.heap.size) (sak:∀b,OA0 b->¬KB b) (ca:¬OA0 c) (cka:¬KA c) (ckb:¬KB c)
  (hend:∀OA a w',StopA OA a w'->w.heap.size<=w'.heap.size->w'.tape=w.tape->(w'.os,w'.output)=(w.os,w.output)->(∀b,OA b->(OA0 b\/w.heap.size<=b)/\b<w'.heap.size)->(∀b,b<w.heap.size->¬OA0 b->b≠c->w'.heap[b]?=w.heap[b]?)->∃fr' cs',a=G fr' cs'/\Walk P Stop fr' cs' w'):Walk P Stop fr cs w:=by
 refine .fork hst λn d gs sl t q hn hsz h0 hgn hl hti=> ?_
 have hC:Cfg P n c KA KB OA0 (w.at d) OA0 (λ_=>False) gs (w.at d) t q:=
  ⟨hn,hl,hti _ _ _,la,λ_ h=>h.elim,ka,kb,λ_ _ h=>h,sak,ca,cka,ckb,(Z4z.1 hch).1,Z4A _,rfl,rfl,λ_ h=>.inl h,λ_ h=>h.elim,λ_ _ _ _=>rfl⟩
 have hw:=(Z2n (P:=P) (n:=n) (KB:=KB) (OA0:=OA0) (w0:=w.at d) hA).opn vs z (λ_=>False) child gs (w.at d) sl t q 0 0 false rfl hC hsz h0 hgn (Rely.at _ _ _ d) (.run (hB.rely (Rely.at _ _ _ d))) hch;refine hw.bind λgs1 w1 sl1 t1 ⟨a1,OA,OB,q1,k0,k1,k2,k3,k4,k5⟩=> ?_;obtain⟨fr',cs',rfl,hW⟩:=hend OA a1 w1 k2 k3.b0 k3.tape k3.os (λb hb=>⟨k3.oa b hb,k3.la b hb⟩) k3.fr;exact hW w1.drawn gs1 sl1 t1 q1 k4 k0 ⟨k3.ti.clean,k3.ti.hears,k3.ti.low,k5⟩
end
end
end Vm
end
section
namespace Vm
open Go Go.Conc
section
section
variable {Q:Program}{c:Nat}{Post:Frame->List Frame->World->Prop}{es:List Ev}{fr fr':Frame}{cs cs':List Frame}{w w':World}
def LS.steps:∀ {es:List Ev} {fr fr':Frame} {cs cs':List Frame} {w w':World},Steps Q (lone fr (cs++[capF Q]) w) (lone fr' (cs'++[capF Q]) w')->LS Q c Post es fr' cs' w'->LS Q c Post es fr cs w
 | [],_,_,_,_,_,_,h,⟨n,f2,c2,w2,h2,h3⟩=>let⟨m,hm⟩:=Steps.trans h ⟨n,h2⟩;⟨m,f2,c2,w2,hm,h3⟩
 |e::es,_,_,_,_,_,_,h,⟨n,f2,c2,w2,h2,h3⟩=>let⟨m,hm⟩:=Steps.trans h ⟨n,h2⟩;⟨m,f2,c2,w2,hm,h3⟩
def LS.ev{e:Ev}(h:AtEv Q c e fr)(k:LS Q c Post es (aft e fr) cs w):LS Q c Post (e::es) fr cs w:=⟨0,fr,cs,w,rfl,h,k⟩
def LS.now(h:Post fr cs w):LS Q c Post [] fr cs w:=⟨0,fr,cs,w,rfl,h⟩
end
def U5{P:Program}{ops:Array Oper}{w:World}{Q Q':Act->Prop}(h:∀a,Q a->Q' a):∀(l:List Oper) (a:Act),wpStill P ops w Q l a->wpStill P ops w Q' l a
 | [],a,hh=>h a hh
 |o::l,a,hh=>by
  simp only[wpStill]at hh⊢;split
  ·rename_i hw;rw[if_pos hw]at hh;exact Oper.still_mono (λa=>U5 h l a) hh
  ·rename_i hw;rw[if_neg hw]at hh;exact U5 h l _ hh
def cAt:Code->List Nat->Code
 |c,[]=>c
 |.seq a _,0::l=>cAt a l
 |.seq _ b,_::l=>cAt b l
 |.cond _ a _,0::l=>cAt a l
 |.cond _ _ b,_::l=>cAt b l
 |.block _ a,_::l=>cAt a l
 |.loop a,_::l=>cAt a l
 |.scope a,_::l=>cAt a l
 |c,_=>c
def Fx:Code->Array Oper
 |.region _ ops _=>ops
 |_=> #[]
def Du(Q:Program)(c:Nat)(Post:Frame->List Frame->World->Prop)(es:List Ev)(b:Frame)(k:List Item)(cs:List Frame):Exit->Act->World->Prop
 |.normal,a,w=>LS Q c Post es (b.at a k) cs w
 |.exit id,a,w=>∃k',exitTo id k=some k'/\LS Q c Post es (b.at a k') cs w
 |.ret,a,w=>∀todo,LS Q c Post es {b.at a todo with mode:=.returning} cs w
 |_,_,_=>False
def SC(Q:Program)(c:Nat)(x:Code)(R:List Ev->Exit->Act->World->Prop)(es:List Ev)(a:Act)(w:World):Prop:=
 ∀(Post:Frame->List Frame->World->Prop) (b:Frame) (k:List Item) (cs:List Frame),(∀es' e a' w',R es' e a' w'->Du Q c Post es' b k cs e a' w')->LS Q c Post es (b.at a (.code x::k)) cs w
def ST(Q:Program)(c:Nat)(ops:Array Oper)(R:List Ev->Exit->Act->World->Prop)(l:List Nat)(es:List Ev)(a:Act)(w:World):Prop:=
 ∀(Post:Frame->List Frame->World->Prop) (b:Frame) (k:List Item) (cs:List Frame),(∀es' e a' w',R es' e a' w'->Du Q c Post es' b k cs e a' w')->LS Q c Post es (b.at a (.inRegion ops l::k)) cs w
section
variable {Q:Program}{c:Nat}{R R':List Ev->Exit->Act->World->Prop}{es:List Ev}{a:Act}{w:World}{x y:Code}
variable {ops:Array Oper}{l:List Nat}
def SC.draw{id:Nat}(h:∀t,ST Q c ops R (Region.schedule (Q.follows .mixedOrders) ops t) es a {w with drawn:=w.drawn+1}):SC Q c (.region id ops true) R es a w:=λPost b k cs hk=>LS.steps (.one step_region_draw) (h _ Post b k cs hk)
def ST.nil(h:R es .normal a w):ST Q c ops R [] es a w:=λPost b k cs hk=>LS.steps (.one step_region_end) (hk _ _ _ _ h)
def ST.omit{i:Nat}(ho:((ops[i]?).map (Region.wanted · (yielded ops a.tmps))).getD false=false)(hk:ST Q c ops R l es (a.put ((ops[i]?).bind (·.dst)) undef) w):ST Q c ops R (i::l) es a w:=λPost b k cs hR=>
 LS.steps (.one (step_op_skip ho)) (hk Post b k cs hR)
def ST.still{i:Nat}{K:Act->Prop}(h:stOp Q ops w i K a)(hk:∀a,K a->ST Q c ops R l es a w):ST Q c ops R (i::l) es a w:=by
 unfold stOp at h;cases ho:ops[i]? with
 |none=>
  rw[ho]at h;refine .omit (by simp[ho]) ?_;simp_all[Option.bind_none,Act.put]
 |some o=>
  rw[ho]at h;dsimp only at h;by_cases hw:Region.wanted o (yielded ops a.tmps)=true
  ·rw[if_pos hw]at h;unfold Oper.still at h;intro Post b k cs hR;have hg:=stepG_op (P:=Q) (b:=b) (k:=k) (cs:=cs++[capF Q]) (w:=w) (rest:=l) ho hw;have hfin:∀v,(b.at a (.inRegion ops (i::l)::k)).finish v=b.at (a.put o.dst v) (.inRegion ops l::k):=λv=>by grind [Frame.finish_at]
   revert h
   cases hr:(execOp a.eval o).run Q w with
   |halt x w'=>exact False.elim
   |ok n w'=>
    cases n<;>first|exact False.elim|skip
    ·rename_i v;rintro⟨rfl,h⟩;refine LS.steps (.one (Z7Q ?_)) (hk _ h Post b k cs hR);simp_all[stepG.apply]
    ·rintro⟨rfl,h⟩;refine LS.steps (.one (Z7Q ?_)) (hk _ h Post b k cs hR);simp_all[stepG.apply]
    ·rename_i f args;rintro⟨rfl,v,hc,h⟩;obtain⟨e,w'',fr,⟨rfl,rfl⟩,hsteps,_,hleave⟩:=hc (b.at a (.inRegion ops (i::l)::k)::(cs++[capF Q]))
     have henter:step Q (lone (b.at a (.inRegion ops (i::l)::k)) (cs++[capF Q]) w'')=.next (lone (Frame.enter Q f args .normal) (b.at a (.inRegion ops (i::l)::k)::(cs++[capF Q])) w''):=
      Z7Q (by simp_all[stepG.apply,Frame.at])
     refine LS.steps (.head henter (hsteps.trans (.one ?_))) (hk _ h Post b k cs hR)
     grind [step_leave_returned]
  ·rw[if_neg hw]at h;refine .omit Z3M ?_;simp_all
def ST.ev{i:Nat}{o:Oper}{e:Ev}(ho:ops[i]?=some o)(hw:Region.wanted o (yielded ops a.tmps)=true)(he:match e with
   |.recv _|.closed _=>∃t ch d el inf z,o.op=.recv t ch true/\okV ch=true/\a.eval ch=.chan (some c)/\Q.underlying t=some (.chan d el)/\Q.info? el=some inf/\inf.zero=some z/\∀z',e=.closed z'->z'=z
   |.send v=>∃ch x,o.op=.send ch x/\okV ch=true/\okV x=true/\a.eval ch=.chan (some c)/\a.eval x=v)
  (hk:ST Q c ops R l es (a.put o.dst e.val) w):ST Q c ops R (i::l) (e::es) a w:=λPost b k cs hR=>by
 refine LS.ev ⟨ops,i,l,k,o,rfl,rfl,ho,hw,?_⟩ ?_
 ·have hev:∀x,(b.at a (.inRegion ops (i::l)::k)).eval x=a.eval x:=Frame.eval_at b a _;cases e with
  |recv v=>obtain⟨t,ch,d,el,inf,z,h1,h2,h3,h4,h5,h6,_⟩:=he;exact⟨t,ch,d,el,inf,z,h1,h2,by rw[hev];exact h3,h4,h5,h6⟩
  |closed v=>obtain⟨t,ch,d,el,inf,z,h1,h2,h3,h4,h5,h6,h7⟩:=he;exact⟨t,ch,d,el,inf,h1,h2,by rw[hev];exact h3,h4,h5,by rw[h7 v rfl];exact h6⟩
  |send v=>obtain⟨ch,x,h1,h2,h3,h4,h5⟩:=he;exact⟨ch,x,h1,h2,h3,by rw[hev];exact h4,by rw[hev];exact h5⟩
 ·have:aft e (b.at a (.inRegion ops (i::l)::k))=b.at (a.put o.dst e.val) (.inRegion ops l::k):=by
   unfold aft;rw[Z6T,ho];rfl
  rw[this];exact hk Post b k cs hR
def ST.head{md:Region.Mode}{n g:Nat}{L:Array Bool->Act->Prop}:∀(f t:Nat) (listed:Array Bool) (a:Act),wpAnyL Q md ops w n L f listed a->(∀listed a t,L listed a->ST Q c ops R (Region.linearise.go md ops g t listed []) es a w)->
  ST Q c ops R (Region.linearise.go md ops (f+g) t listed []) es a w
 |0,t,listed,a,h,hk=>by rw[Z5g];exact hk _ _ _ h
 |f+1,t,listed,a,h,hk=>by
  obtain⟨h0,h1⟩:=h;rw[show f+1+g=(f+g)+1 by omega];simp only[Region.linearise.go]
  change ST Q c ops R (match(Region.ready md ops listed)[t% (Region.ready md ops listed).length]? with
   |some i=>Region.linearise.go md ops (f+g) (t / (Region.ready md ops listed).length) (listed.setIfInBounds i true) [i]
   |none=>[].reverse) es a w
  cases hi:(Region.ready md ops listed)[t% (Region.ready md ops listed).length]? with
  |none=>
   exfalso;have hlen:0< (Region.ready md ops listed).length:=Z7a.2 h0;have:=Z74.1 hi;have:=Z7A t hlen;omega
  |some i=>
   simp only[];rw[linearise_go_acc,Z8g,Z7t];exact ST.still (h1 i (Z4B hi)).2 λa' h'=>ST.head f _ _ a' h' hk
def ST.last{n:Nat}{listed:Array Bool}{t:Nat}(h:Region.seqB .any ops 1 n listed=true)(hk:ST Q c ops R [n] es a w):ST Q c ops R (Region.linearise.go .any ops 1 t listed []) es a w:=by
 simp only[Region.seqB,Z4x,Z4N]at h;simp only[Region.linearise.go]
 change ST Q c ops R (match(Region.ready .any ops listed)[t% (Region.ready .any ops listed).length]? with
   |some i=>[i]
   |none=>[]) es a w
 grind
def SC.last{id n:Nat}{l:List Oper}(hm:Q.follows .mixedOrders=true)(hB:Region.lexTailB .any l.toArray n=true)(hsz:l.length=n+1)(h:wpStill Q l.toArray {w with drawn:=w.drawn+1} (λa'=>ST Q c l.toArray R [n] es a' {w with drawn:=w.drawn+1}) (l.take n) a):SC Q c (.region id l.toArray true) R es a w:=by
 refine SC.draw λt=> ?_;simp only[Region.lexTailB,Z4x,Z4N]at hB;obtain⟨⟨⟨⟨hsel,hn⟩,hs⟩,hc⟩,hlex⟩:=hB;have hn':n<l.length:=by simpa using hn
 have htl:(l.take n).length=n:=Z3N;have hg:l.toArray.size-n=1:=Z3N;rw[hg]at hlex
 have inv0:HeadInv .any l.toArray n (Array.replicate l.toArray.size false):=
  ⟨Z1,λj oj _ hl=>(by grind [getD_replicate_false]),λt _ ht=>getD_in Z3L (getD_replicate_false _ _)⟩
 have H:=wpAnyL_lex (md:=.any) (g:=1) hsel hs hc hn (l.take n) 0 _ a (λj hj=>by
  simp_all) Z0 inv0 Z3M h
 simp only[Region.schedule,hm,Z7r,Z5b,Region.linearise];have e:l.toArray.size=(l.take n).length+1:=by rw[htl];simpa using hsz
 rw[e];exact ST.head (L:=λlisted' a'=>Region.seqB .any l.toArray 1 n listed'=true/\ST Q c l.toArray R [n] es a' {w with drawn:=w.drawn+1}) _ t _ a (by rw[<-e];exact H) λlisted a' t' hL=>ST.last hL.1 hL.2
end
section
variable {Q:Program}{c:Nat}{Post:Frame->List Frame->World->Prop}{es:List Ev}{a:Act}{w:World}{x y:Code}{b:Frame}{k k':List Item}{cs:List Frame}
def LS.two(h:LS Q c Post es (b.at a (.code x:: .code y::k)) cs w):LS Q c Post es (b.at a (.code (.seq x y)::k)) cs w:=LS.steps (.one step_seq) h
def LS.condT{o:Operand}(hc:a.eval o=.bool true)(h:LS Q c Post es (b.at a (.code x::k)) cs w):LS Q c Post es (b.at a (.code (.cond o x y)::k)) cs w:=LS.steps (.one (step_cond hc)) h
def LS.condF{o:Operand}(hc:a.eval o=.bool false)(h:LS Q c Post es (b.at a (.code y::k)) cs w):LS Q c Post es (b.at a (.code (.cond o x y)::k)) cs w:=LS.steps (.one (step_cond hc)) h
def LS.skip(h:LS Q c Post es (b.at a k) cs w):LS Q c Post es (b.at a (.code .skip::k)) cs w:=LS.steps (.one step_skip) h
def LS.block{id:Nat}(h:LS Q c Post es (b.at a (.code x:: .inBlock id::k)) cs w):LS Q c Post es (b.at a (.code (.block id x)::k)) cs w:=LS.steps (.one step_block) h
def LS.inBlock{id:Nat}(h:LS Q c Post es (b.at a k) cs w):LS Q c Post es (b.at a (.inBlock id::k)) cs w:=LS.steps (.one step_inBlock) h
theorem LS.inLoop(h:LS Q c Post es (b.at a (.code x:: .inLoop x::k)) cs w):LS Q c Post es (b.at a (.inLoop x::k)) cs w:=LS.steps (.one step_inLoop) h
def LS.exit{id:Nat}(h1:exitTo id k=some k')(h:LS Q c Post es (b.at a k') cs w):LS Q c Post es (b.at a (.code (.exit id)::k)) cs w:=LS.steps (.one (step_exit h1)) h
def LS.loopI(I:Nat->List Ev->Act->World->Prop){n:Nat}(h0:I n es a w)(hI:∀n es a w,I n es a w->(∀m es a w,m<n->I m es a w->LS Q c Post es (b.at a (.inLoop x::k)) cs w)->LS Q c Post es (b.at a (.code x:: .inLoop x::k)) cs w):LS Q c Post es (b.at a (.code (.loop x)::k)) cs w:=by
 have key:∀n es a w,I n es a w->LS Q c Post es (b.at a (.code x:: .inLoop x::k)) cs w:=by
  intro n
  induction n using Nat.strongRecOn with
  |_ n ih=>grind [inLoop]
 exact LS.steps (.one step_loop) (key n es a w h0)
def LS.wp{R:Exit->Act->World->Prop}(h:x.wp Q R a w)(hk:∀e a' w',R e a' w'->Du Q c Post es b k cs e a' w'):LS Q c Post es (b.at a (.code x::k)) cs w:=by
 obtain⟨e,a',w',q,r⟩:=h b k (cs++[capF Q]);have hq:=hk e a' w' q;cases e with
 |normal=>exact LS.steps r hq
 |exit id=>obtain⟨k',h1,h2⟩:=hq;exact LS.steps (r k' h1) h2
 |ret=>obtain⟨todo,r⟩:=r;exact LS.steps r (hq todo)
 |_=>exact hq.elim
def LS.regK(h:∀K:Act->World->Prop,(∀a w,LS Q c Post es (b.at a k) cs w->K a w)->x.wp Q (λe a w=>e=.normal/\K a w) a w):LS Q c Post es (b.at a (.code x::k)) cs w:=
 LS.wp (h _ λ_ _ q=>q) λe a' w' ⟨h1,h2⟩=>by subst h1;exact h2
def LS.send{id n:Nat}{l:List Oper}{v:Value}(hm:Q.follows .mixedOrders=true)(hB:Region.lexTailB .any l.toArray n=true)(hsz:l.length=n+1){o:Oper}{ch xx:Operand}(ho:l[n]?=some o)(hg:o.guard=none)(hop:o.op=.send ch xx)(h1:okV ch=true)(h2:okV xx=true)
  (h:wpStill Q l.toArray {w with drawn:=w.drawn+1} (λa'=>a'.eval ch=.chan (some c)/\a'.eval xx=v/\LS Q c Post es (b.at (a'.put o.dst undef) k) cs {w with drawn:=w.drawn+1}) (l.take n) a):LS Q c Post (.send v::es) (b.at a (.code (.region id l.toArray true)::k)) cs w:=
 SC.last (R:=λes' e a' w'=>e=.normal/\LS Q c Post es' (b.at a' k) cs w') hm hB hsz (U5 (λa' ⟨q1,q2,q3⟩=>ST.ev (o:=o) Z3L (by simp[Region.wanted,hg]) ⟨ch,xx,hop,h1,h2,q1,q2⟩ (.nil ⟨rfl,q3⟩)) _ _ h) Post b k cs λes' e a' w' ⟨q1,q2⟩=>by subst q1;exact q2
def LS.region{id:Nat}{ops:Array Oper}(h:LS Q c Post es (b.at a (.inRegion ops (List.range ops.size)::k)) cs w):LS Q c Post es (b.at a (.code (.region id ops false)::k)) cs w:=LS.steps (.one step_region) h
def LS.value{ops:Array Oper}{i:Nat}{l:List Nat}{o:Oper}{v:Value}{w':World}(ho:ops[i]?=some o)(hw:Region.wanted o (yielded ops a.tmps)=true)(h:(execOp a.eval o).run Q w=.ok (.value v) w')(hk:LS Q c Post es (b.at (a.put o.dst v) (.inRegion ops l::k)) cs w'):LS Q c Post es (b.at a (.inRegion ops (i::l)::k)) cs w:=by
 have hfin:(b.at a (.inRegion ops (i::l)::k)).finish v=b.at (a.put o.dst v) (.inRegion ops l::k):=by grind [Frame.finish_at]
 refine LS.steps (.one (Z7Q ?_)) hk;simp_all[stepG_op,stepG.apply]
def LS.regEnd{ops:Array Oper}(h:LS Q c Post es (b.at a k) cs w):LS Q c Post es (b.at a (.inRegion ops []::k)) cs w:=LS.steps (.one step_region_end) h
def LS.event{ops:Array Oper}{i:Nat}{l:List Nat}{o:Oper}{e:Ev}(ho:ops[i]?=some o)(hw:Region.wanted o (yielded ops a.tmps)=true)(he:match e with
   |.recv _|.closed _=>∃t ch d el inf z,o.op=.recv t ch true/\okV ch=true/\a.eval ch=.chan (some c)/\Q.underlying t=some (.chan d el)/\Q.info? el=some inf/\inf.zero=some z/\∀z',e=.closed z'->z'=z
   |.send v=>∃ch x,o.op=.send ch x/\okV ch=true/\okV x=true/\a.eval ch=.chan (some c)/\a.eval x=v)
  (hk:LS Q c Post es (b.at (a.put o.dst e.val) (.inRegion ops l::k)) cs w):LS Q c Post (e::es) (b.at a (.inRegion ops (i::l)::k)) cs w:=by
 refine LS.ev ⟨ops,i,l,k,o,rfl,rfl,ho,hw,?_⟩ ?_
 ·have hev:∀x,(b.at a (.inRegion ops (i::l)::k)).eval x=a.eval x:=Frame.eval_at b a _
  grind
 simp_all[aft,Z6T]
end
end
end Vm
end
section
namespace Vm
open Go
open Go.Proofs
noncomputable def ofC:Code:=match Try.f15.body with|some c=>c|none=>.skip
def sigV(f:FuncId):Option (List OT):=if f=43 then some [.fz,.mem [.fz],.mem [.fz]]else sig f
def Z0P:List Nat:=[0,1,2,3,16,4,5,6,7,23,25,8,24,29,9,10,48,47,49,12,46,13]
def Z2M:List Nat:=[15,63,76,79]
def vf(P:Program):FC:= {P,ix:=pos (Z0P++Z2M),fresh,sig:=sigV,tr:=[3],fix:=[4,23],n:=82,keep:=Z0P}
def r0S:SS:=[(0,.fz)]
def r0N:SS:=[(0,.fz),(1,(.mem [.fz,.fz,.fz,.fz,.fz,.fz,.fz,.fz,.fz,.fz])),(2,(.mem [.nil,.nil])),(3,.fz)]
def r0:Stm:=
(.reg ⟨[],[],[(1,.m [(.fld (.sz (.s 0) 10) 0),(.fld (.sz (.s 0) 10) 1),(.fld (.sz (.s 0) 10) 2),(.fld (.sz (.s 0) 10) 3),(.fld (.sz (.s 0) 10) 4),(.fld (.sz (.s 0) 10) 5),(.fld (.sz (.s 0) 10) 6),(.fld (.sz (.s 0) 10) 7),(.fld (.sz (.s 0) 10) 8),(.fld (.sz (.s 0) 10) 9)]),(2,.m [(.c (.sl [])),(.c (.sl []))]),(3,.v (.c (.int .i64 (0))))]⟩)
def r0c:comp (vf (bes Try.prog)) (cAt ofC [0]) r0S=some (r0,⟨some r0N,[],[]⟩):=Z2
def rXS:SS:=[(0,.fz),(1,(.mem [.fz,.fz,.fz,.fz,.fz,.fz,.fz,.fz,.fz,.fz])),(2,(.mem [.nil,.nil])),(3,.fz)]
def rXN:SS:=[(0,.fz),(1,(.mem [.fz,.fz,.fz,.fz,.fz,.fz,.fz,.fz,.fz,.fz])),(2,(.mem [.nil,.nil])),(3,.fz),(16,.fz)]
def rXR:SS:=[(0,.fz),(1,(.mem [.fz,.fz,.fz,.fz,.fz,.fz,.fz,.fz,.fz,.fz])),(2,(.mem [.nil,.nil])),(3,.fz),(16,.fz)]
def rX:Stm:=
(.seq
(.reg ⟨[.call 22 [] (.id 25) false false [(.mm 1 0 10)]],[],[(4,.v (.un .not (.s 22)))]⟩)
(.cond (.s 4)
 (.seq
 (.reg ⟨[],[([],(.ag [(.c (.sl [])),(.c (.sl []))]))],[(2,.m [(.c (.sl [])),(.c (.sl []))]),(3,.v (.c (.int .i64 (1))))]⟩)
 .ret)
 .skip))
def rXc:comp (vf (bes Try.prog)) (cAt ofC [1,0]) rXS=some (rX,⟨some rXN,[],[rXR]⟩):=Z2
def r5S:SS:=[(1,(.mem [.fz,.fz,.fz,.fz,.fz,.fz,.fz,.fz,.fz,.fz])),(2,(.mem [.fz,.fz])),(3,.fz)]
def r5N:SS:=[(1,(.mem [.fz,.fz,.fz,.fz,.fz,.fz,.fz,.fz,.fz,.fz])),(2,(.mem [.fz,.fz])),(3,.fz),(5,.nil)]
def r5:Stm:=
(.reg ⟨[],[],[(6,.v (.c (.sl [])))]⟩)
def r5c:comp (vf (Sol.prog)) (cAt ofC [1,1,1,1,0]) r5S=some (r5,⟨some r5N,[],[]⟩):=Z2
def r6S:SS:=[(1,(.mem [.fz,.fz,.fz,.fz,.fz,.fz,.fz,.fz,.fz,.fz])),(2,(.mem [.fz,.fz])),(3,.fz),(5,.nil)]
def r6N:SS:=[(1,(.mem [.fz,.fz,.fz,.fz,.fz,.fz,.fz,.fz,.fz,.fz])),(2,(.mem [.fz,.fz])),(3,.fz),(5,.nil),(6,(.mem [(.own 84)]))]
def r6:Stm:=
(.reg ⟨[],[],[(7,.m [(.c (.mp 0 [] []))])]⟩)
def r6c:comp (vf (Sol.prog)) (cAt ofC [1,1,1,1,1,0]) r6S=some (r6,⟨some r6N,[],[]⟩):=Z2
def r7S:SS:=[(1,(.mem [.fz,.fz,.fz,.fz,.fz,.fz,.fz,.fz,.fz,.fz])),(2,(.mem [.fz,.fz])),(3,.fz),(5,.nil),(6,(.mem [(.own 84)]))]
def r7N:SS:=[(1,(.mem [.fz,.fz,.fz,.fz,.fz,.fz,.fz,.fz,.fz,.fz])),(2,(.mem [.fz,.fz])),(3,.fz),(5,.nil),(6,(.mem [(.own 84)])),(7,(.mem [(.own 85)]))]
def r7:Stm:=
(.reg ⟨[],[],[(8,.m [(.c (.mp 0 [] []))])]⟩)
def r7c:comp (vf (Sol.prog)) (cAt ofC [1,1,1,1,1,1,0]) r7S=some (r7,⟨some r7N,[],[]⟩):=Z2
def rDS:SS:=[(1,(.mem [.fz,.fz,.fz,.fz,.fz,.fz,.fz,.fz,.fz,.fz])),(2,(.mem [.fz,.fz])),(3,.fz),(5,(.own 87)),(6,(.mem [(.own 84)])),(7,(.mem [(.own 85)])),(24,.fz),(25,.fz)]
def rDN:SS:=[(1,(.mem [.fz,.fz,.fz,.fz,.fz,.fz,.fz,.fz,.fz,.fz])),(2,(.mem [.fz,.fz])),(3,.fz),(5,(.own 87)),(6,(.mem [(.own 84)])),(7,(.mem [(.own 85)])),(25,.fz),(8,(.mem [.fz,.fz,.fz,.fz,.fz,.fz,.fz])),(24,.fz),(29,.fz)]
def rDX:SS:=[(1,(.mem [.fz,.fz,.fz,.fz,.fz,.fz,.fz,.fz,.fz,.fz])),(2,(.mem [.fz,.fz])),(3,.fz),(5,(.own 87)),(6,(.mem [(.own 84)])),(7,(.mem [(.own 85)])),(24,.fz),(25,.fz)]
def rD:Stm:=
(.seq
(.cond (.s 10)
 .skip
 (.exit 0))
(.block 1
 (.seq
 (.reg ⟨[],[],[(11,.m [(.fld (.sz (.ext (.s 12) 0) 7) 0),(.fld (.sz (.ext (.s 12) 0) 7) 1),(.fld (.sz (.ext (.s 12) 0) 7) 2),(.fld (.sz (.ext (.s 12) 0) 7) 3),(.fld (.sz (.ext (.s 12) 0) 7) 4),(.fld (.sz (.ext (.s 12) 0) 7) 5),(.fld (.sz (.ext (.s 12) 0) 7) 6)])]⟩)
 (.seq
 (.seq
 (.reg ⟨[],[],[(13,.v (.m 11 3))]⟩)
 (.cond (.s 13)
  (.seq
  (.reg ⟨[],[],[(8,.m [(.mput (.i .u64) (.m 8 0) (.m 11 5) (.m 11 4))])]⟩)
  (.exit 1))
  .skip))
 (.seq
 (.reg ⟨[],[],[(7,.m [(.mput (.i .u64) (.m 7 0) (.m 11 5) (.len (.s 6)))])]⟩)
 (.reg ⟨[],[],[(6,.v (.app (.s 6) (.lit [(.mm 11 0 7)]) 7))]⟩))))))
def rDc:comp (vf (Sol.prog)) (cAt ofC [1,1,1,1,1,1,1,0,1,0,0,1]) rDS=some (rD,⟨some rDN,[(0,rDX)],[]⟩):=Z2
def rCS:SS:=[(1,(.mem [.fz,.fz,.fz,.fz,.fz,.fz,.fz,.fz,.fz,.fz])),(2,(.mem [.fz,.fz])),(3,.fz),(5,.fz),(6,(.mem [.fz])),(7,(.mem [.fz]))]
def rCR:SS:=[(1,(.mem [.fz,.fz,.fz,.fz,.fz,.fz,.fz,.fz,.fz,.fz])),(2,(.mem [.fz,.fz])),(3,.fz),(5,.fz),(6,(.mem [.fz])),(7,(.mem [.fz])),(9,(.clo 43 [7,6])),(10,(.mem [.fz,.fz])),(48,.fz),(47,.fz),(49,.fz),(46,.fz)]
def rC:Stm:=
(.seq
(.reg ⟨[],[],[(14,.no)]⟩)
(.seq
(.reg ⟨[],[],[(14,.no),(15,.m [(.c (.sl [])),(.c (.sl []))])]⟩)
(.seq
(.seq
(.reg ⟨[],[],[(14,.no),(16,.v (.c (.int .i64 (0)))),(17,.v (.len (.s 6))),(20,.v (.s 6))]⟩)
(.block 2
 (.loop [1,2,3,6,7,8,14,15,16,17,20]
  (.seq
  (.reg ⟨[],[],[(14,.no),(18,.v (.bin .lss (.s 16) (.s 17)))]⟩)
  (.seq
  (.cond (.s 18)
   .skip
   (.exit 2))
  (.seq
  (.block 3
   (.seq
   (.reg ⟨[],[],[(14,.no),(19,.m [(.fld (.flds (.idx (.s 20) (.s 16) 7) 0 7) 0),(.fld (.flds (.idx (.s 20) (.s 16) 7) 0 7) 1),(.fld (.flds (.idx (.s 20) (.s 16) 7) 0 7) 2),(.fld (.flds (.idx (.s 20) (.s 16) 7) 0 7) 3),(.fld (.flds (.idx (.s 20) (.s 16) 7) 0 7) 4),(.fld (.flds (.idx (.s 20) (.s 16) 7) 0 7) 5),(.fld (.flds (.idx (.s 20) (.s 16) 7) 0 7) 6)])]⟩)
   (.seq
   (.reg ⟨[],[],[(14,.no),(21,.v (.m 19 2))]⟩)
   (.reg ⟨[.callm 23 [] (.id 43) [.fz,(.mem [.fz]),(.mem [.fz])] [(.slc (.m 19 6) (.c (.int .i64 (0))) (.s 21) 1),(.ag [(.m 8 0)]),(.ag [(.m 7 0)])]],[],[(7,.m [(.fld (.ext (.s 23) 2) 0)]),(8,.m [(.fld (.ext (.s 23) 1) 0)]),(14,.no),(15,.m [(.app (.m 15 0) (.lit [(.ag [(.one (.ext (.s 23) 0)),(.slcl (.m 19 6) (.s 21) 1)])]) 2),(.m 15 1)])]⟩))))
  (.reg ⟨[],[],[(14,.no),(16,.v (.bin .add (.s 16) (.c (.int .i64 (1)))))]⟩)))))))
(.seq
(.reg ⟨[.callm 24 [] (.id 43) [.fz,(.mem [.fz]),(.mem [.fz])] [(.m 1 9),(.ag [(.m 8 0)]),(.ag [(.m 7 0)])]],[],[(7,.m [(.fld (.ext (.s 24) 2) 0)]),(8,.m [(.fld (.ext (.s 24) 1) 0)]),(14,.no),(15,.m [(.m 15 0),(.one (.ext (.s 24) 0))])]⟩)
(.seq
(.reg ⟨[.call 25 [] (.id 17) false false [(.mm 15 0 2)]],[],[(2,.m [(.fld (.sz (.ext (.s 25) 0) 2) 0),(.fld (.sz (.ext (.s 25) 0) 2) 1)]),(3,.v (.fl (.ext (.s 25) 1))),(14,.no)]⟩)
.ret)))))
def rCc:comp (vf (Sol.prog)) (cAt ofC [1,1,1,1,1,1,1,1]) rCS=some (rC,⟨none,[],[rCR]⟩):=Z2
def pTo:Fn:=⟨16,[0,1,2,4,5,14,13,15,7,12,19,8,9,10,11,34],
(.seq
(.reg ⟨[],[],[(3,.v (.c (.sl [])))]⟩)
(.seq
(.reg ⟨[],[],[(4,.v (.c (.sl [])))]⟩)
(.seq
(.seq
(.reg ⟨[],[],[(5,.v (.c (.int .i64 (0)))),(6,.v (.len (.s 0))),(9,.v (.s 0))]⟩)
(.block 0
 (.loop [0,1,2,3,4,5,6,9]
  (.seq
  (.reg ⟨[],[],[(7,.v (.bin .lss (.s 5) (.s 6)))]⟩)
  (.seq
  (.cond (.s 7)
   .skip
   (.exit 0))
  (.seq
  (.block 1
   (.seq
   (.reg ⟨[],[],[(8,.v (.fld (.idx (.s 9) (.s 5) 1) 0))]⟩)
   (.seq
   (.seq
   (.reg ⟨[],[],[(10,.v (.bin .eql (.s 8) (.c (.int .u64 (0)))))]⟩)
   (.cond (.s 10)
    (.seq
    (.reg ⟨[],[],[(4,.v (.app (.s 4) (.lit [(.c (.int .i64 (-1)))]) 1))]⟩)
    (.exit 1))
    .skip))
   (.seq
   (.reg ⟨[.call 16 [] (.id 44) false false [(.s 8)]],[],[(11,.v (.ext (.s 16) 0)),(12,.v (.ext (.s 16) 1))]⟩)
   (.seq
   (.seq
   (.reg ⟨[],[],[(13,.v (.ext (.lk (.i .u64) (.m 1 0) (.s 11) (.int .u64 (0)) true) 0)),(14,.v (.ext (.lk (.i .u64) (.m 1 0) (.s 11) (.int .u64 (0)) true) 1))]⟩)
   (.seq
   (.reg ⟨[],[],[(15,.v (.s 14))]⟩)
   (.cond (.s 15)
    (.reg ⟨[],[],[(11,.v (.s 13))]⟩)
    .skip)))
   (.reg ⟨[],[],[(4,.v (.app (.s 4) (.lit [(.one (.lk (.i .u64) (.m 2 0) (.s 11) (.int .i64 (0)) false))]) 1))]⟩))))))
  (.reg ⟨[],[],[(5,.v (.bin .add (.s 5) (.c (.int .i64 (1)))))]⟩)))))))
(.seq
(.reg ⟨[],[],[(3,.v (.s 4)),(4,.no)]⟩)
.ret)))),
[(3,.v)]⟩
def cTo:Zf Sol.prog fresh sig [.fz,(.mem [.fz]),(.mem [.fz])] (Vc [.fz,(.mem [.fz]),(.mem [.fz])]) Try.f43=some pTo:=Z2
end Vm
end
section
namespace Vm
open Go Go.Proofs
def Hp.zero_ok:Hp.zero.ok:=by
 refine⟨?_,?_,?_,?_,?_,?_,?_,?_,?_,?_,?_,?_,?_,?_⟩<;>simp[Hp.zero,U64,Fit]
def Hk{x:Rw}(hx:x.ok):(So x).ok/\Zi (layH (So x))=true/\(So x).roots.length<=5:=by
 have key:∀c,(Y4 x (Zy x c)).ok/\Zi (layH (Y4 x (Zy x c)))=true/\(Y4 x (Zy x c)).roots.length<=5:=λc=>by
  obtain⟨h1,h2,h3⟩:=S3 hx c;obtain⟨k1,k2,_,_⟩:=B1 (x:=x) h1 h2;refine⟨k1,by rw[k2];exact h3,?_⟩;simp only[Y4,Z56];exact h1.rl
 unfold So Gq;split
 ·exact key false
 ·exact key true
def FX{h:Hp}(hr:Zi (layH h)=true)(k:Int):(Zd h k).length<=4096:=by
 have:=Yv.1 hr;have q1:(layH h).low=h.low.length:=rfl;have q2:(layH h).high=h.high.length:=rfl;have q3:(layH h).old=h.old.length:=rfl;have q4:(layH h).far=h.far.length:=rfl;unfold Zd;split
 ·omega
 split
 ·omega
 split<;>omega
def Dq(n:Int):U64 (IntKind.u64.wrap n):=by
 rw[Z87];unfold U64;omega
end Vm
end
section
namespace Vm
open Go
open Go.Proofs
def p25:Fn:=⟨5,[0,1,2,3,4],
pQ [pR [(1,pS 0 10),pV 2 pF],pC [pK 5 51 [.mm 1 0 10]] [pV 3 (.ext (.s 5) 0),pV 4 (.ext (.s 5) 1)],pR [pV 2 (.s 4)]] .ret,[(2,.v)]⟩
def c25:Zf Sol.prog fresh sig [.fz] [] Try.f25=some p25:=Z2
def p27:Fn:=⟨8,[0,1,2,4,5,6,7,22],
pQ [pR [(2,pS 0 10),pV 3 pN,pV 4 (pI 0)],pC [pK 8 51 [.mm 2 0 10]] [pV 5 (.ext (.s 8) 0),pV 6 (.ext (.s 8) 1)],pQ [.reg ⟨[.lt 9 [] (.un .not (.s 6)),.lt 10 [] (.ite (.s 9) pT (.bin .lss (.s 1) (pI 1)))],[([(9,false)],.bin .lss (.s 1) (pI 1)),([(10,false)],.bin .gtr (.s 1) (pI 4))],[pV 7 (.ite (.s 10) pT (.bin .gtr (.s 1) (pI 4)))]⟩] (.cond (.s 7) (pQ [pR [pV 4 (pI 1)]] .ret) .skip),pR [pV 3 (.fld (.ai (.flds (.star (.s 5)) 17 4) (.bin .sub (.s 1) (pI 1)) 4 1 true) 0),pV 4 (pI 0)]] .ret,[(3,.v),(4,.v)]⟩
def c27:Zf Sol.prog fresh sig [.fz,.fz] [] Try.f27=some p27:=Z2
def p51:Fn:=⟨12,[0,1,2,3,13,4,16,15,17,6,14,24],
pQ [pR [(1,pS 0 10),pV 2 (.c (.nul 0)),pV 3 pF],.reg ⟨[pK 12 64 [.mm 1 0 10]],[([],.ag [.fld (.mm 1 0 10) 0,.fld (.mm 1 0 10) 1,.fld (.mm 1 0 10) 2,.fld (.mm 1 0 10) 3,.fld (.mm 1 0 10) 4,.fld (.mm 1 0 10) 5,.fld (.mm 1 0 10) 6,.fld (.mm 1 0 10) 7,.fld (.mm 1 0 10) 8,.fld (.mm 1 0 10) 9,.fld (.sz (.s 12) 7) 0,.fld (.sz (.s 12) 7) 1,.fld (.sz (.s 12) 7) 2,.fld (.sz (.s 12) 7) 3,.fld (.sz (.s 12) 7) 4,.fld (.sz (.s 12) 7) 5,.fld (.sz (.s 12) 7) 6,pN,pN,pN,pN,.c (.mp 0 [] []),.c (.mp 0 [] [])])],[(5,.m [.fld (.mm 1 0 10) 0,.fld (.mm 1 0 10) 1,.fld (.mm 1 0 10) 2,.fld (.mm 1 0 10) 3,.fld (.mm 1 0 10) 4,.fld (.mm 1 0 10) 5,.fld (.mm 1 0 10) 6,.fld (.mm 1 0 10) 7,.fld (.mm 1 0 10) 8,.fld (.mm 1 0 10) 9,.fld (.sz (.s 12) 7) 0,.fld (.sz (.s 12) 7) 1,.fld (.sz (.s 12) 7) 2,.fld (.sz (.s 12) 7) 3,.fld (.sz (.s 12) 7) 4,.fld (.sz (.s 12) 7) 5,.fld (.sz (.s 12) 7) 6,pN,pN,pN,pN,.c (.mp 0 [] []),.c (.mp 0 [] [])])]⟩,pQ [pC [pK 10 82 []] [pV 6 (pI 0),pV 7 (.len (.s 10))]] (.block 0 (.loop [0,1,2,3,5,6,7,10] (pQ [pR [pV 8 (.bin .lss (.s 6) (.s 7))],.cond (.s 8) .skip (.exit 0),.block 1 (pQ [pR [(9,.m [.fld (.flds (.idx (.s 10) (.s 6) 1) 0 1) 0])],pC [.callm 13 [] (.e (.m 9 0)) [.mem [.fz,.fz,.fz,.fz,.fz,.fz,.fz,.fz,.fz,.fz,.fz,.fz,.fz,.fz,.fz,.fz,.fz,.fz,.fz,.fz,.fz,.own 84,.own 115]] [.ag [.m 5 0,.m 5 1,.m 5 2,.m 5 3,.m 5 4,.m 5 5,.m 5 6,.m 5 7,.m 5 8,.m 5 9,.m 5 10,.m 5 11,.m 5 12,.m 5 13,.m 5 14,.m 5 15,.m 5 16,.m 5 17,.m 5 18,.m 5 19,.m 5 20,.m 5 21,.m 5 22]]] [(5,pM (.ext (.s 13) 1) 23),pV 11 (.un .not (.ext (.s 13) 0))]] (.cond (.s 11) (pQ [pR [pV 2 (.c (.nul 0)),pV 3 pF]] .ret) .skip))] (pR [pV 6 (.bin .add (.s 6) (pI 1))])))),pR [pV 2 (.pt none [.m 5 0,.m 5 1,.m 5 2,.m 5 3,.m 5 4,.m 5 5,.m 5 6,.m 5 7,.m 5 8,.m 5 9,.m 5 10,.m 5 11,.m 5 12,.m 5 13,.m 5 14,.m 5 15,.m 5 16,.m 5 17,.m 5 18,.m 5 19,.m 5 20,.m 5 21,.m 5 22]),pV 3 pT,(5,.no)]] .ret,[(2,.v),(3,.v)]⟩
def c51:Zf Sol.prog fresh sig [.fz] [] Try.f51=some p51:=Z2
def p52:Fn:=⟨11,[0,2,3,4,8,19,18,20,6,17,25],
pQ [pR [pV 1 (pI 0)],pR [pV 2 (pI 0)],pQ [pR [pV 3 (pI 3)]] (.block 0 (.loop [0,1,2,3] (pQ [pQ [pR [pV 4 (.bin .leq (.s 3) (pI 4))]] (.cond (.s 4) .skip (.exit 0)),.block 1 (pQ [pR [pV 5 (pI 0),pV 6 (.len (.fld (.ai (.flds (.star (.s 0)) 17 4) (.bin .sub (.s 3) (pI 1)) 4 1 true) 0)),pV 9 (.fld (.ai (.flds (.star (.s 0)) 17 4) (.bin .sub (.s 3) (pI 1)) 4 1 true) 0)]] (.block 2 (.loop [0,1,2,3,4,5,6,9] (pQ [pR [pV 7 (.bin .lss (.s 5) (.s 6))],.cond (.s 7) .skip (.exit 2),.block 3 (pQ [pR [(8,pM (.flds (.idx (.s 9) (.s 5) 5) 0 5) 5)],pR [pV 10 (.un .not (.m 8 3))]] (.cond (.s 10) (pR [pV 2 (.bin .add (.s 2) (.bin .add (pI 1) (.m 8 1)))]) .skip))] (pR [pV 5 (.bin .add (.s 5) (pI 1))])))))] (pR [pV 3 (.bin .add (.s 3) (pI 1))])))),pR [pV 1 (.s 2)]] .ret,[(1,.v)]⟩
def c52:Zf Sol.prog fresh sig [.fz] [] Try.f52=some p52:=Z2
def p82:Fn:=⟨1,[0],
pQ [pR [pV 0 pN],pR [pV 0 (.lit [.ag [.c (.fn 103)],.ag [.c (.fn 104)],.ag [.c (.fn 105)],.ag [.c (.fn 106)],.ag [.c (.fn 107)],.ag [.c (.fn 108)],.ag [.c (.fn 109)],.ag [.c (.fn 110)]])]] .ret,[(0,.v)]⟩
def c82:Zf Sol.prog fresh sig [] [] Try.f82=some p82:=Z2
def p103:Fn:=⟨2,[0,2],
pQ [pR [pV 1 pF],.reg ⟨[pK 2 65 [.flds (.star (.s 0)) 10 7],.lt 3 [] (.s 2),.lt 4 [] (.ite (.s 3) (.bin .leq (.len (.fld (.star (.s 0)) 9)) (pI 16)) pF),.lt 5 [] (.ite (.s 4) (.bin .geq (.fld (.star (.s 0)) 4) (pI 0)) pF)],[([(3,true)],.bin .leq (.len (.fld (.star (.s 0)) 9)) (pI 16)),([(4,true)],.bin .geq (.fld (.star (.s 0)) 4) (pI 0)),([(5,true)],.bin .leq (.fld (.star (.s 0)) 4) (.len (.fld (.star (.s 0)) 5)))],[pV 1 (.ite (.s 5) (.bin .leq (.fld (.star (.s 0)) 4) (.len (.fld (.star (.s 0)) 5))) pF)]⟩] .ret,[(1,.v)]⟩
def c103:Zf Sol.prog fresh sig [.fz] [] Try.f103=some p103:=Z2
def p104:Fn:=⟨3,[0,2,7],
pQ [pR [pV 1 pF],pQ [pR [pV 2 (.fld (.star (.s 0)) 3)]] (.cond (.s 2) (pQ [pR [pV 1 (.bin .lss (.fld (.star (.s 0)) 4) (.len (.fld (.star (.s 0)) 5)))]] .ret) .skip),.reg ⟨[.lt 3 [] (.bin .eql (.len (.fld (.star (.s 0)) 7)) (pI 0)),.lt 4 [] (.ite (.s 3) (.bin .eql (.len (.fld (.star (.s 0)) 8)) (pI 0)) pF)],[([(3,true)],.bin .eql (.len (.fld (.star (.s 0)) 8)) (pI 0)),([(4,true)],.bin .eql (.fld (.star (.s 0)) 4) (.len (.fld (.star (.s 0)) 5)))],[pV 1 (.ite (.s 4) (.bin .eql (.fld (.star (.s 0)) 4) (.len (.fld (.star (.s 0)) 5))) pF)]⟩] .ret,[(1,.v)]⟩
def c104:Zf Sol.prog fresh sig [.fz] [] Try.f104=some p104:=Z2
def p105:Fn:=⟨11,[0,2,3,8,9,4,5,6,7,18,39],
pQ [pR [pV 1 pF],pR [pV 2 pT],.skip,pQ [pR [pV 3 (pI 0)]] (.block 0 (.loop [0,1,2,3] (pQ [pR [pV 4 (.bin .lss (.s 3) (pI 4))],.cond (.s 4) .skip (.exit 0),.block 1 (pQ [pR [pV 5 (.s 3)],pR [pV 6 (.bin .add (.s 5) (pI 1))],pR [pV 7 pN],pR [pV 8 (pI 0)],pQ [.reg ⟨[.lt 11 [] (.bin .eql (.s 6) (pI 1))],[([(11,false)],.bin .eql (.s 6) (pI 2))],[pV 9 (.ite (.s 11) pT (.bin .eql (.s 6) (pI 2)))]⟩] (.cond (.s 9) (pC [pK 12 118 [.pt none [.m 0 0,.m 0 1,.m 0 2,.m 0 3,.m 0 4,.m 0 5,.m 0 6,.m 0 7,.m 0 8,.m 0 9,.m 0 10,.m 0 11,.m 0 12,.m 0 13,.m 0 14,.m 0 15,.m 0 16,.m 0 17,.m 0 18,.m 0 19,.m 0 20,.m 0 21,.m 0 22],.s 6],.call 13 [] (.id 117) true false [.s 12]] [pV 7 (.ext (.s 13) 0),pV 8 (.ext (.s 13) 1)]) (pC [pK 14 118 [.pt none [.m 0 0,.m 0 1,.m 0 2,.m 0 3,.m 0 4,.m 0 5,.m 0 6,.m 0 7,.m 0 8,.m 0 9,.m 0 10,.m 0 11,.m 0 12,.m 0 13,.m 0 14,.m 0 15,.m 0 16,.m 0 17,.m 0 18,.m 0 19,.m 0 20,.m 0 21,.m 0 22],.s 6],pK 15 118 [.pt none [.m 0 0,.m 0 1,.m 0 2,.m 0 3,.m 0 4,.m 0 5,.m 0 6,.m 0 7,.m 0 8,.m 0 9,.m 0 10,.m 0 11,.m 0 12,.m 0 13,.m 0 14,.m 0 15,.m 0 16,.m 0 17,.m 0 18,.m 0 19,.m 0 20,.m 0 21,.m 0 22],.s 6],pK 16 120 [.pt none [.m 0 0,.m 0 1,.m 0 2,.m 0 3,.m 0 4,.m 0 5,.m 0 6,.m 0 7,.m 0 8,.m 0 9,.m 0 10,.m 0 11,.m 0 12,.m 0 13,.m 0 14,.m 0 15,.m 0 16,.m 0 17,.m 0 18,.m 0 19,.m 0 20,.m 0 21,.m 0 22],.s 15],.call 17 [] (.id 119) true false [.s 14,.s 16]] [pV 7 (.ext (.s 17) 0),pV 8 (.ext (.s 17) 1)])),pQ [pR [pV 10 (.bin .neq (.s 8) (pI 0))]] (.cond (.s 10) (pQ [pR [pV 2 pF]] (.exit 0)) .skip)] (pC [.callm 18 [] (.id 121) [.mem [.fz,.fz,.fz,.fz,.fz,.fz,.fz,.fz,.fz,.fz,.fz,.fz,.fz,.fz,.fz,.fz,.fz,.fz,.fz,.fz,.fz,.own 84,.own 115],.fz,.fz] [.ag [.m 0 0,.m 0 1,.m 0 2,.m 0 3,.m 0 4,.m 0 5,.m 0 6,.m 0 7,.m 0 8,.m 0 9,.m 0 10,.m 0 11,.m 0 12,.m 0 13,.m 0 14,.m 0 15,.m 0 16,.m 0 17,.m 0 18,.m 0 19,.m 0 20,.m 0 21,.m 0 22],.s 6,.s 7]] [(0,pM (.ext (.s 18) 1) 23)]))] (pR [pV 3 (.bin .add (.s 3) (pI 1))])))),pR [pV 1 (.s 2)]] .ret,[(1,.v)]⟩
def c105:Zf Sol.prog fresh sig [(.mem [.fz,.fz,.fz,.fz,.fz,.fz,.fz,.fz,.fz,.fz,.fz,.fz,.fz,.fz,.fz,.fz,.fz,.fz,.fz,.fz,.fz,(.own 84),(.own 115)])] [(0,(.mem [.fz,.fz,.fz,.fz,.fz,.fz,.fz,.fz,.fz,.fz,.fz,.fz,.fz,.fz,.fz,.fz,.fz,.fz,.fz,.fz,.fz,(.own 84),(.own 115)]))] Try.f105=some p105:=Z2
def p106:Fn:=⟨13,[0,2,12,3,4,15,26,25,27,6,24,32,46],
pQ [pR [pV 1 pF],pQ [pR [pV 2 (.un .not (.fld (.star (.s 0)) 3))]] (.cond (.s 2) (pQ [pR [pV 1 pT]] .ret) .skip),pR [pV 3 (.c (.mp 0 [] []))],pQ [pR [pV 4 (pI 3)]] (.block 0 (.loop [0,1,2,3,4] (pQ [pQ [pR [pV 5 (.bin .leq (.s 4) (pI 4))]] (.cond (.s 5) .skip (.exit 0)),.block 1 (pQ [pR [pV 6 (pI 0),pV 7 (.len (.fld (.ai (.flds (.star (.s 0)) 17 4) (.bin .sub (.s 4) (pI 1)) 4 1 true) 0)),pV 10 (.fld (.ai (.flds (.star (.s 0)) 17 4) (.bin .sub (.s 4) (pI 1)) 4 1 true) 0)]] (.block 2 (.loop [0,1,2,3,4,5,6,7,10] (pQ [pR [pV 8 (.bin .lss (.s 6) (.s 7))],.cond (.s 8) .skip (.exit 2),.block 3 (pQ [pR [(9,pM (.flds (.idx (.s 10) (.s 6) 5) 0 5) 5)],pQ [pR [pV 11 (.un .not (.m 9 3))]] (.cond (.s 11) (.exit 3) .skip),pQ [.reg ⟨[.lt 13 [] (.bin .neq (.lk (.i .u64) (.fld (.star (.s 0)) 21) (.m 9 4) (.int .i64 0) false) (pI 1))],[([(13,false)],.fl (.lk (.i .u64) (.s 3) (.m 9 4) (.bool false) false))],[pV 12 (.ite (.s 13) pT (.fl (.lk (.i .u64) (.s 3) (.m 9 4) (.bool false) false)))]⟩] (.cond (.s 12) (pQ [pR [pV 1 pF]] .ret) .skip)] (pR [pV 3 (.mput (.i .u64) (.s 3) (.m 9 4) pT)]))] (pR [pV 6 (.bin .add (.s 6) (pI 1))])))))] (pR [pV 4 (.bin .add (.s 4) (pI 1))])))),pR [pV 1 (.bin .eql (.mlen (.s 3)) (.len (.fld (.ai (.flds (.star (.s 0)) 17 4) (pI 0) 4 1 true) 0)))]] .ret,[(1,.v)]⟩
def c106:Zf Sol.prog fresh sig [.fz] [] Try.f106=some p106:=Z2
def p107:Fn:=⟨9,[0,1,2,11,10,12,4,9,18],
pQ [pR [(1,.m [.one (.s 0)]),pV 2 pF],pQ [pR [pV 3 (pI 0),pV 4 (.len (.fld (.star (.m 1 0)) 9)),pV 7 (.fld (.star (.m 1 0)) 9)]] (.block 0 (.loop [0,1,2,3,4,7] (pQ [pR [pV 5 (.bin .lss (.s 3) (.s 4))],.cond (.s 5) .skip (.exit 0),.block 1 (pQ [pR [pV 6 (.fld (.idx (.s 7) (.s 3) 1) 0)],pC [pK 9 122 [.m 1 0,.s 6,pI 1,pI 2]] [pV 8 (.un .not (.s 9))]] (.cond (.s 8) (pQ [pR [pV 2 pF]] .ret) .skip))] (pR [pV 3 (.bin .add (.s 3) (pI 1))])))),pC [.call 10 [] (.id 123) false true [.m 1 0,pI 2,.pt (some 124) [.pt none [.m 1 0]]],.lt 11 [] (.s 10),.call 12 [(11,true)] (.id 123) false true [.m 1 0,pI 1,.pt (some 125) [.pt none [.m 1 0]]]] [pV 2 (.ite (.s 11) (.s 12) pF)]] .ret,[(2,.v)]⟩
def c107:Zf Sol.prog fresh sig [.fz] [] Try.f107=some p107:=Z2
def p108:Fn:=⟨3,[0,1,2],
pQ [pR [(1,.m [.one (.s 0)]),pV 2 pF],pC [.call 3 [] (.id 123) false true [.m 1 0,pI 1,.pt (some 126) [.pt none [.m 1 0]]]] [pV 2 (.s 3)]] .ret,[(2,.v)]⟩
def c108:Zf Sol.prog fresh sig [.fz] [] Try.f108=some p108:=Z2
def p109:Fn:=⟨4,[0,1,2,3],
pQ [pR [(1,.m [.one (.s 0)]),pV 2 pF],pR [(3,.no)],pC [.call 4 [] (.id 123) false true [.m 1 0,pI 3,.pt (some 127) [.pt none [.m 1 0]]],.lt 5 [] (.s 4),.call 6 [(5,true)] (.id 123) false true [.m 1 0,pI 4,.pt (some 127) [.pt none [.m 1 0]]]] [pV 2 (.ite (.s 5) (.s 6) pF),(3,.no)]] .ret,[(2,.v)]⟩
def c109:Zf Sol.prog fresh sig [.fz] [] Try.f109=some p109:=Z2
def p110:Fn:=⟨2,[0,2],
pQ [pR [pV 1 pF],pC [pK 2 52 [.s 0]] [pV 1 (.bin .leq (.bin .add (.bin .add (.len (.fld (.star (.s 0)) 5)) (.len (.fld (.star (.s 0)) 6))) (.s 2)) (.fld (.star (.s 0)) 1))]] .ret,[(1,.v)]⟩
def c110:Zf Sol.prog fresh sig [.fz] [] Try.f110=some p110:=Z2
def p118:Fn:=⟨3,[0,1,4],
pQ [pR [pV 2 pN],pR [pV 2 (.ai (.ag [.fld (.star (.s 0)) 5,.fld (.star (.s 0)) 6,.fld (.star (.s 0)) 7,.fld (.star (.s 0)) 8]) (.bin .sub (.s 1) (pI 1)) 4 1 false)]] .ret,[(2,.v)]⟩
def c118:Zf Sol.prog fresh sig [.fz,.fz] [] Try.f118=some p118:=Z2
def p120:Fn:=⟨14,[0,1,4,5,6,15,7,8,9,25,10,11,36,52],
pQ [pR [pV 2 pN],pR [pV 3 pN],pQ [pR [pV 4 (pI 0)]] (.block 0 (.loop [0,1,2,3,4] (pQ [pQ [pR [pV 5 (.bin .lss (.s 4) (.len (.s 1)))]] (.cond (.s 5) .skip (.exit 0))] (.block 1 (pQ [pR [(6,.m [pI 0,pI 0])],pQ [pC [pK 14 44 [.fld (.idx (.s 1) (.s 4) 1) 0]] [pV 7 (.ext (.s 14) 0),pV 8 (.ext (.s 14) 1)],pR [pV 9 (.bin .eql (.s 8) (pI 0))]] (.cond (.s 9) (pQ [pR [(10,pM (.sz (.ext (.lk (.i .u64) (.fld (.star (.s 0)) 22) (.s 7) (.agg [.int .i64 0,.int .i64 0]) true) 0) 2) 2),pV 11 (.ext (.lk (.i .u64) (.fld (.star (.s 0)) 22) (.s 7) (.agg [.int .i64 0,.int .i64 0]) true) 1)],pQ [pR [pV 12 (.un .not (.s 11))]] (.cond (.s 12) (pQ [pR [pV 2 (.s 3),(3,.no)]] .ret) .skip),pR [(6,pM (.mm 10 0 2) 2)]] (pR [pV 3 (.app (.s 3) (.lit [.mm 6 0 2]) 2)])) (pQ [pC [pK 15 69 [.fld (.idx (.s 1) (.s 4) 1) 0]] [(6,pM (.sz (.ext (.s 15) 0) 2) 2),pV 8 (.ext (.s 15) 1)],pR [pV 13 (.bin .neq (.s 8) (pI 0))]] (.cond (.s 13) (pQ [pR [pV 2 (.s 3),(3,.no)]] .ret) .skip)))] (pR [pV 4 (.bin .add (.s 4) (.bin .add (pI 1) (.m 6 0)))])))))),pR [pV 2 (.s 3),(3,.no)]] .ret,[(2,.v)]⟩
def c120:Zf Sol.prog fresh sig [.fz,.fz] [] Try.f120=some p120:=Z2
def p121:Fn:=⟨11,[0,1,2,19,18,20,7,17,8,9,42],
pQ [.reg ⟨[],[([],.ai (.c (.agg [(.bool true),(.bool true),(.bool true),(.bool true)])) (.bin .sub (.s 1) (pI 1)) 4 1 false)],[(0,.m [.m 0 0,.m 0 1,.m 0 2,.m 0 3,.m 0 4,.m 0 5,.m 0 6,.m 0 7,.m 0 8,.m 0 9,.m 0 10,.m 0 11,.m 0 12,.m 0 13,.m 0 14,.m 0 15,.m 0 16,.fld (.aput (.mm 0 17 4) (.bin .sub (.s 1) (pI 1)) 4 1 (.one (.s 2))) 0,.fld (.aput (.mm 0 17 4) (.bin .sub (.s 1) (pI 1)) 4 1 (.one (.s 2))) 1,.fld (.aput (.mm 0 17 4) (.bin .sub (.s 1) (pI 1)) 4 1 (.one (.s 2))) 2,.fld (.aput (.mm 0 17 4) (.bin .sub (.s 1) (pI 1)) 4 1 (.one (.s 2))) 3,.m 0 21,.m 0 22])]⟩,pR [pV 3 (pI 0),pV 4 (.len (.s 2)),pV 7 (.s 2)]] (.block 0 (.loop [0,1,2,3,4,7] (pQ [pR [pV 5 (.bin .lss (.s 3) (.s 4))],.cond (.s 5) .skip (.exit 0),.block 1 (pQ [pR [(6,pM (.flds (.idx (.s 7) (.s 3) 5) 0 5) 5)],pC [pK 11 75 [.mm 0 10 7,.ag [.one (.s 1),.m 6 0]]] [pV 8 (.ext (.s 11) 0),pV 9 (.ext (.s 11) 1)],pR [(0,.m [.m 0 0,.m 0 1,.m 0 2,.m 0 3,.m 0 4,.m 0 5,.m 0 6,.m 0 7,.m 0 8,.m 0 9,.m 0 10,.m 0 11,.m 0 12,.m 0 13,.m 0 14,.m 0 15,.m 0 16,.m 0 17,.m 0 18,.m 0 19,.m 0 20,.mput (.i .u64) (.m 0 21) (.s 8) (.s 1),.m 0 22])],pR [pV 10 (.bin .eql (.s 1) (pI 1))]] (.cond (.s 10) (pR [(0,.m [.m 0 0,.m 0 1,.m 0 2,.m 0 3,.m 0 4,.m 0 5,.m 0 6,.m 0 7,.m 0 8,.m 0 9,.m 0 10,.m 0 11,.m 0 12,.m 0 13,.m 0 14,.m 0 15,.m 0 16,.m 0 17,.m 0 18,.m 0 19,.m 0 20,.m 0 21,.mput (.i .u64) (.m 0 22) (.s 8) (.mm 6 1 2)])]) .skip))] (pR [pV 3 (.bin .add (.s 3) (pI 1))])))),[]⟩
def c121:Zf Sol.prog fresh sig [(.mem [.fz,.fz,.fz,.fz,.fz,.fz,.fz,.fz,.fz,.fz,.fz,.fz,.fz,.fz,.fz,.fz,.fz,.fz,.fz,.fz,.fz,(.own 84),(.own 115)]),.fz,.fz] [(0,(.mem [.fz,.fz,.fz,.fz,.fz,.fz,.fz,.fz,.fz,.fz,.fz,.fz,.fz,.fz,.fz,.fz,.fz,.fz,.fz,.fz,.fz,(.own 84),(.own 115)]))] Try.f121=some p121:=Z2
def p122:Fn:=⟨11,[0,1,2,3,8,14,9,10,21,11,12],
pQ [pR [pV 4 pF],pQ [pR [pV 5 (.bin .eql (.s 1) (pU 0))]] (.cond (.s 5) (pQ [pR [pV 4 pT]] .ret) .skip),pC [pK 11 44 [.s 1]] [pV 6 (.ext (.s 11) 0),pV 7 (.ext (.s 11) 1)],pQ [pR [pV 8 (.bin .neq (.s 7) (pI 0))]] (.cond (.s 8) (pQ [pR [pV 4 pF]] .ret) .skip),pR [pV 9 (.ext (.lk (.i .u64) (.fld (.star (.s 0)) 21) (.s 6) (.int .i64 0) true) 0),pV 10 (.ext (.lk (.i .u64) (.fld (.star (.s 0)) 21) (.s 6) (.int .i64 0) true) 1)],.reg ⟨[.lt 12 [] (.s 10),.lt 13 [] (.ite (.s 12) (.bin .geq (.s 9) (.s 2)) pF)],[([(12,true)],.bin .geq (.s 9) (.s 2)),([(13,true)],.bin .leq (.s 9) (.s 3))],[pV 4 (.ite (.s 13) (.bin .leq (.s 9) (.s 3)) pF)]⟩] .ret,[(4,.v)]⟩
def c122:Zf Sol.prog fresh sig [.fz,.fz,.fz,.fz] [] Try.f122=some p122:=Z2
def p123:Fn:=⟨17,[0,1,2,6,7,23,22,24,9,21,28,32,31,33,10,11,47],
pQ [pR [pV 3 pF],pC [pK 17 118 [.s 0,.s 1]] [pV 4 (.s 17)],pQ [pR [pV 5 (pI 0),pV 6 (.len (.fld (.ai (.flds (.star (.s 0)) 17 4) (.bin .sub (.s 1) (pI 1)) 4 1 true) 0)),pV 9 (.fld (.ai (.flds (.star (.s 0)) 17 4) (.bin .sub (.s 1) (pI 1)) 4 1 true) 0)]] (.block 0 (.loop [0,1,2,3,4,5,6,9] (pQ [pR [pV 7 (.bin .lss (.s 5) (.s 6))],.cond (.s 7) .skip (.exit 0),.block 1 (pQ [pR [(8,pM (.flds (.idx (.s 9) (.s 5) 5) 0 5) 5)],pQ [pR [pV 10 (.m 8 3)]] (.cond (.s 10) (.exit 1) .skip),pR [pV 11 (pI 0),pV 12 (.m 8 2)]] (.block 2 (.loop [0,1,2,3,4,5,6,7,8,9,10,11,12] (pQ [pR [pV 13 (.bin .lss (.s 11) (.s 12))],.cond (.s 13) .skip (.exit 2),.block 3 (pQ [pR [pV 14 (.s 11)],pR [pV 15 (.bin .add (.bin .add (.m 8 0) (pI 1)) (.s 14))],pC [.call 18 [] (.e (.s 2)) false false [.s 15,.fld (.idx (.s 4) (.s 15) 1) 0]] [pV 16 (.un .not (.s 18))]] (.cond (.s 16) (pQ [pR [pV 3 pF]] .ret) .skip))] (pR [pV 11 (.bin .add (.s 11) (pI 1))])))))] (pR [pV 5 (.bin .add (.s 5) (pI 1))])))),pR [pV 3 pT]] .ret,[(3,.v)]⟩
def c123:Zf Sol.prog fresh sig [.fz,.fz,.fz] [] Try.f123=some p123:=Z2
def p124:Fn:=⟨4,[0,1,2,5],
pQ [pR [pV 3 pF],pC [pK 4 122 [.fld (.star (.s 2)) 0,.s 1,pI 1,pI 2]] [pV 3 (.s 4)]] .ret,[(3,.v)]⟩
def c124:Zf Sol.prog fresh sig [.fz,.fz,.fz] [] Try.f124=some p124:=Z2
def p125:Fn:=⟨4,[0,1,2,5],
pQ [pR [pV 3 pF],pC [.lt 4 [] (.bin .geq (.s 0) (.fld (.star (.fld (.star (.s 2)) 0)) 4)),.call 5 [(4,false)] (.id 122) false false [.fld (.star (.s 2)) 0,.s 1,pI 1,pI 2]] [pV 3 (.ite (.s 4) pT (.s 5))]] .ret,[(3,.v)]⟩
def c125:Zf Sol.prog fresh sig [.fz,.fz,.fz] [] Try.f125=some p125:=Z2
def p126:Fn:=⟨4,[0,1,2,5],
pQ [pR [pV 3 pF],pC [.lt 4 [] (.bin .lss (.s 0) (.fld (.star (.fld (.star (.s 2)) 0)) 4)),.call 5 [(4,false)] (.id 122) false false [.fld (.star (.s 2)) 0,.s 1,pI 1,pI 4]] [pV 3 (.ite (.s 4) pT (.s 5))]] .ret,[(3,.v)]⟩
def c126:Zf Sol.prog fresh sig [.fz,.fz,.fz] [] Try.f126=some p126:=Z2
def p127:Fn:=⟨4,[0,1,2,5],
pQ [pR [pV 3 pF],pC [pK 4 122 [.fld (.star (.s 2)) 0,.s 1,pI 3,pI 4]] [pV 3 (.s 4)]] .ret,[(3,.v)]⟩
def c127:Zf Sol.prog fresh sig [.fz,.fz,.fz] [] Try.f127=some p127:=Z2
end Vm
end
section
namespace Vm
open Go Go.Proofs
def putA{α:Type}(l:List (Int×α))(k:Int)(v:α):List (Int×α):=match l.findIdx? (·.1==k)with
 |some i=>l.set i (k,v)
 |none=>l++[(k,v)]
def getA{α:Type}(l:List (Int×α))(k:Int):Option α:=(l.find? (·.1==k)).map (·.2)
def mpA{α:Type}(f:α->V)(l:List (Int×α)):V:=.mp 0 (l.map λx=>vu x.1) (l.map λx=>f x.2)
def Lr{α:Type}{k:Int}:∀ {l:List (Int×α)},JO (vu k) (l.map λx=>vu x.1)=some (l.findIdx? (·.1==k))
 | []=>rfl
 |y::l=>by
  simp only[Z4T,JO,ES,Z5b,Z7f];by_cases h:k=y.1
  ·simp[h]
  ·have h2:(k==y.1)=false:=by simpa using h
   have h3:(y.1==k)=false:=by simpa using Z6K h
   simp[h2,h3,Lr]
def XR{α:Type}{p:α->Bool}:∀ {l:List α},l.find? p=(l.findIdx? p).bind λi=>l[i]?
 | []=>rfl
 |x::l=>by
  rw[Z7I,Z7f];cases h:p x
  ·simp only[Z4G,Z5h];rw[XR (l:=l)];cases l.findIdx? p<;>simp
  ·simp
theorem jM{α:Type}{f:α->V}{l:List (Int×α)}{k:Int}{z:V}{ok:Bool}:lkV (.i .u64) (mpA f l) (vu k) z ok=match getA l k with
  |some x=>some (if ok then .tup [f x,.bool true]else f x)
  |none=>some (if ok then .tup [z,.bool false]else z):=by
 unfold lkV mpA getA;simp only[isK,Z7L,Z7e,Z5h,Lr,XR]
 grind [List.findIdx?_eq_some_iff_getElem]
def QZ{α:Type}{f:α->V}{l:List (Int×α)}{k:Int}{x:α}:QY (.i .u64) (mpA f l) (vu k) (f x)=some (mpA f (putA l k x)):=by
 unfold QY mpA putA;simp only[isK,Z7L,Z7e,Z5h,Lr];cases h:l.findIdx? (·.1==k)with
 |none=>simp
 |some i=>
  have hh:=Z5l.1 h;obtain⟨hlt,hk,_⟩:=hh;have hk':(l[i]).1=k:=by simpa using hk
  simp only[Z4s,V.mp.injEq,true_and];constructor
  ·rw[Z6f];apply Z6Z;intro j;rw[Z81];split
   ·rename_i e;subst e;simp[hlt,hk']
   ·rfl
  ·rw[Z6f]
@[simp]def Z3g{α:Type}(f:α->V)(l:List (Int×α)):oneV (mpA f l)=some (mpA f l):=rfl
@[simp]def Z1U{α:Type}(f:α->V)(l:List (Int×α)):(mpA f l).cells=[mpA f l]:=rfl
@[simp]def Z3F{α:Type}(f:α->V)(l:List (Int×α)):(mpA f l).one=true:=rfl
@[simp]def Z3f{α:Type}(f:α->V)(l:List (Int×α)):yK (mpA f l)=some (vi l.length):=by simp[mpA]
def Ua{α:Type}{l:List (Int×α)}{k j:Int}{x:α}:getA (putA l k x) j=if k=j then some x else getA l j:=by
 unfold getA putA;cases h:l.findIdx? (·.1==k)with
 |none=>
  grind
 |some i=>
  obtain⟨hlt,hk,hmin⟩:=Z5l.1 h;have hk':(l[i]).1=k:=by simpa using hk
  simp only;by_cases e:k=j
  ·subst e;rw[if_pos rfl,XR]
   grind [List.findIdx?_eq_some_iff_getElem,List.getElem_set_ne]
  ·rw[if_neg e,XR,XR]
   have:(l.set i (k,x)).findIdx? (·.1==j)=l.findIdx? (·.1==j):=by
    apply Option.ext;intro q;rw[Z5l,Z5l];have hj:((k,x).1==j)=false:=by simpa using e
    have hj':((l[i]).1==j)=false:=by rw[hk'];simpa using e
    constructor
    ·grind
    ·grind
   rw[this];cases hq:l.findIdx? (·.1==j)with
   |none=>rfl
   |some q=>
    obtain⟨h1,h2,_⟩:=Z5l.1 hq
    grind
structure Ck where
 h:Hp
 o1:List Ob
 o2:List Ob
 o3:List Ob
 o4:List Ob
 pm:List (Int×Int)
 lm:List (Int×(Int×Int))
def Ck.obs(s:Ck)(k:Int):List Ob:=if k=1 then s.o1 else if k=2 then s.o2 else if k=3 then s.o3 else s.o4
def ckL(s:Ck):List V:=[vu s.h.base,vi s.h.cap,vi s.h.to,.bool s.h.cycle,vi s.h.scan,.sl (s.h.low.map vu),.sl (s.h.high.map vu),.sl (s.h.old.map vu),.sl (s.h.far.map vu),.sl (s.h.roots.map vu),
 vu s.h.base,vi s.h.cap,vi s.h.to,vi s.h.low.length,vi s.h.high.length,vi s.h.old.length,vi s.h.far.length,
 .sl (s.o1.map obV),.sl (s.o2.map obV),.sl (s.o3.map obV),.sl (s.o4.map obV),mpA vi s.pm,mpA shP s.lm]
def ckP(s:Ck):V:=.ptr (ckL s)
def qP:IntKind.i64.wrap 0=0:=by decide
def JE:IntKind.i64.wrap 1=1:=by decide
def S5:IntKind.i64.wrap 2=2:=by decide
def SX:IntKind.i64.wrap 3=3:=by decide
def BQ{s:Ck}{k:Int}(hk:1<=k/\k<=4):VC Sol.prog 118 false [ckP s,vi k] (.sl ((Zd s.h k).map vu)):=by
 refine Z8 Sol.func118 follows Z2 c118 rfl ?_;have:k=1\/k=2\/k=3\/k=4:=Z0;obtain rfl|rfl|rfl|rfl:=this<;>simp[p118,ckP,ckL,Zd,aiV,qP,JE,S5,SX]
def Zt(s:Ck)(w first last:Int):Bool:=decide (w=0)||(decide ((adr w).2=0)&&match getA s.pm (adr w).1 with
 |some k=>decide (first<=k)&&decide (k<=last)
 |none=>false)
def VS{s:Ck}{w first last:Int}(hw:U64 w):VC Sol.prog 122 false [ckP s,vu w,vi first,vi last] (.bool (Zt s w first last)):=by
 refine Z8 Sol.func122 follows Z2 c122 rfl ?_;unfold Zt;by_cases h0:w=0
 ·simp[p122,h0]
 simp[p122,h0,ckP,ckL];refine Z4 (zu hw) Z1 ?_;by_cases h1:(adr w).2=0
 case neg=>simp[h1]
 simp[h1,jM];cases hg:getA s.pm (adr w).1 with
 |none=>simp
 |some k=>
  simp_all
def YW(h:Hp)(k:Int):List (Int×Int)->List Ob->List (Int×Int)
 |m,[]=>m
 |m,o::l=>YW h k (putA m (ZG (layH h) k o.at_).1 k) l
def ZZ(h:Hp)(k:Int):List (Int×(Int×Int))->List Ob->List (Int×(Int×Int))
 |m,[]=>m
 |m,o::l=>ZZ h k (if k=1 then putA m (ZG (layH h) k o.at_).1 (o.size,o.ptrs)else m) l
def Ck.put(s:Ck)(k:Int)(l:List Ob):Ck:=if k=1 then {s with o1:=l}else if k=2 then {s with o2:=l}else if k=3 then {s with o3:=l}else {s with o4:=l}
def XF(s:Ck)(k:Int)(l:List Ob):Ck:= {s.put k l with pm:=YW s.h k s.pm l,lm:=ZZ s.h k s.lm l}
def XZ{h:Hp}{k:Int}:∀ {l:List Ob} {i:Nat} {o:Ob} {m:List (Int×Int)},l[i]?=some o->YW h k m (l.take (i+1))=putA (YW h k m (l.take i)) (ZG (layH h) k o.at_).1 k
 | [],_,_,_,h=>Z4q
 |x::l,0,o,m,h=>by simp_all[YW]
 |x::l,i+1,o,m,h=>by
  simp_all[Z7K,YW,XZ]
def XY{h:Hp}{k:Int}:∀ {l:List Ob} {i:Nat} {o:Ob} {m:List (Int×(Int×Int))},l[i]?=some o->ZZ h k m (l.take (i+1))=if k=1 then putA (ZZ h k m (l.take i)) (ZG (layH h) k o.at_).1 (o.size,o.ptrs)else ZZ h k m (l.take i)
 | [],_,_,_,h=>Z4q
 |x::l,0,o,m,h=>by simp_all[ZZ]
 |x::l,i+1,o,m,h=>by
  simp_all[Z7K,ZZ,XY]
abbrev ckK:List CK:=[.fz,.fz,.fz,.fz,.fz,.fz,.fz,.fz,.fz,.fz,.fz,.fz,.fz,.fz,.fz,.fz,.fz,.fz,.fz,.fz,.fz,.own 84,.own 115]
@[simp]def Z2p(s:Ck)(k:Int)(l:List Ob):(s.put k l).h=s.h:=by
 unfold Ck.put;split
 ·rfl
 split
 ·rfl
 split<;>rfl
def LP{l:List (Int×Int)}{k x:Int}:QY (.i .u64) (mpA vi l) (vu k) (vi x)=some (mpA vi (putA l k x)):=QZ
def RV{l:List (Int×(Int×Int))}{k a b:Int}:QY (.i .u64) (mpA shP l) (vu k) (.agg [vi a,vi b])=some (mpA shP (putA l k (a,b))):=QZ (f:=shP) (x:=(a,b))
def RX{s:Ck}(hh:s.h.ok){k:Int}(hk:1<=k/\k<=4){l:List Ob}(hl:l.length<=1000000):VCM Sol.prog 121 [.mem ckK,.fz,.fz] [.agg (ckL s),vi k,.sl (l.map obV)] (.tup [.tup [],.agg (ckL (XF s k l))]):=by
 refine WS Sol.func121 follows Z2 c121 Z2 ?_;have k4:k=1\/k=2\/k=3\/k=4:=Z0;have hlim:l.length<=lim:=by unfold lim;omega
 have h0:∀k,({s.put k l with pm:=s.pm,lm:=s.lm}:Ck)=s.put k l:=by
  intro k;unfold Ck.put;split
  ·rfl
  split
  ·rfl
  split<;>rfl
 have ka:=λ(k at_:Int)=>AG hh.lay (part:=k) (at_:=at_);unfold layH lyV at ka;obtain rfl|rfl|rfl|rfl:=k4
 ·simp[p121,ckL,aiV,Qm,qP,JE,S5,SX,Zx];refine Xb 3 l.length (λi=>[(0,.m (ckL {s.put 1 l with pm:=YW s.h 1 s.pm (l.take i),lm:=ZZ s.h 1 s.lm (l.take i)})),(3,.v (vi i))]) (λ_=>True) (by simp[ckL,Ck.put,YW,ZZ]) Z1 trivial ?_;intro i hi _;have hwi:=Z7 ((i:Int)+1) Z0 Z0;by_cases hlt:i<l.length
  ·have hx:l[i]?=some l[i]:=Z4u hlt;have e1:=XZ (h:=s.h) (k:=1) (m:=s.pm) hx;have e2:=XY (h:=s.h) (k:=1) (m:=s.lm) hx;have ko:=ka 1 (l[i]).at_;simp[hlt,hx,hwi,ckL,idxV];refine Z4 ko Z1 ?_;simp[LP,RV,e1,e2,hwi,hlt]
   first|done|rfl|exact⟨rfl,rfl⟩
  ·have:i=l.length:=Z0;subst this;simp[ckL,XF,Z52]
 ·simp[p121,ckL,aiV,Qm,qP,JE,S5,SX,Zx];refine Xb 3 l.length (λi=>[(0,.m (ckL {s.put 2 l with pm:=YW s.h 2 s.pm (l.take i),lm:=ZZ s.h 2 s.lm (l.take i)})),(3,.v (vi i))]) (λ_=>True) (by simp[ckL,Ck.put,YW,ZZ]) Z1 trivial ?_;intro i hi _;have hwi:=Z7 ((i:Int)+1) Z0 Z0;by_cases hlt:i<l.length
  ·have hx:l[i]?=some l[i]:=Z4u hlt;have e1:=XZ (h:=s.h) (k:=2) (m:=s.pm) hx;have e2:=XY (h:=s.h) (k:=2) (m:=s.lm) hx;have ko:=ka 2 (l[i]).at_;simp[hlt,hx,hwi,ckL,idxV];refine Z4 ko Z1 ?_;simp[LP,RV,e1,e2,hwi,hlt]
   first|done|rfl|exact⟨rfl,rfl⟩
  ·have:i=l.length:=Z0;subst this;simp[ckL,XF,Z52]
 ·simp[p121,ckL,aiV,Qm,qP,JE,S5,SX,Zx];refine Xb 3 l.length (λi=>[(0,.m (ckL {s.put 3 l with pm:=YW s.h 3 s.pm (l.take i),lm:=ZZ s.h 3 s.lm (l.take i)})),(3,.v (vi i))]) (λ_=>True) (by simp[ckL,Ck.put,YW,ZZ]) Z1 trivial ?_;intro i hi _;have hwi:=Z7 ((i:Int)+1) Z0 Z0;by_cases hlt:i<l.length
  ·have hx:l[i]?=some l[i]:=Z4u hlt;have e1:=XZ (h:=s.h) (k:=3) (m:=s.pm) hx;have e2:=XY (h:=s.h) (k:=3) (m:=s.lm) hx;have ko:=ka 3 (l[i]).at_;simp[hlt,hx,hwi,ckL,idxV];refine Z4 ko Z1 ?_;simp[LP,RV,e1,e2,hwi,hlt]
   first|done|rfl|exact⟨rfl,rfl⟩
  ·have:i=l.length:=Z0;subst this;simp[ckL,XF,Z52]
 ·simp[p121,ckL,aiV,Qm,qP,JE,S5,SX,Zx];refine Xb 3 l.length (λi=>[(0,.m (ckL {s.put 4 l with pm:=YW s.h 4 s.pm (l.take i),lm:=ZZ s.h 4 s.lm (l.take i)})),(3,.v (vi i))]) (λ_=>True) (by simp[ckL,Ck.put,YW,ZZ]) Z1 trivial ?_;intro i hi _;have hwi:=Z7 ((i:Int)+1) Z0 Z0;by_cases hlt:i<l.length
  ·have hx:l[i]?=some l[i]:=Z4u hlt;have e1:=XZ (h:=s.h) (k:=4) (m:=s.pm) hx;have e2:=XY (h:=s.h) (k:=4) (m:=s.lm) hx;have ko:=ka 4 (l[i]).at_;simp[hlt,hx,hwi,ckL,idxV];refine Z4 ko Z1 ?_;simp[LP,RV,e1,e2,hwi,hlt]
   first|done|rfl|exact⟨rfl,rfl⟩
  ·have:i=l.length:=Z0;subst this;simp[ckL,XF,Z52]
end Vm
namespace Vm
open Go Go.Proofs
def boxP(s:Ck):V:=.ptr [ckP s]
def Aq{s:Ck}{a w:Int}(hw:U64 w):VC Sol.prog 124 false [vi a,vu w,boxP s] (.bool (Zt s w 1 2)):=by
 refine Z8 Sol.func124 follows Z2 c124 rfl ?_;have k:=VS (s:=s) (first:=1) (last:=2) hw;unfold boxP ckP at*;simp[p124,oneV,V.one];refine Z4 k Z1 ?_;simp
def Ar{s:Ck}{a w:Int}(hw:U64 w):VC Sol.prog 125 false [vi a,vu w,boxP s] (.bool (decide (s.h.scan<=a)||Zt s w 1 2)):=by
 refine Z8 Sol.func125 follows Z2 c125 rfl ?_;have k:=VS (s:=s) (first:=1) (last:=2) hw;unfold boxP ckP at*;by_cases h:s.h.scan<=a
 ·simp[p125,oneV,V.one,ckL,h]
 ·simp[p125,oneV,V.one,ckL,h];refine Z4 k (by simp[ckL]) ?_;simp[h]
def zl{s:Ck}{a w:Int}(hw:U64 w):VC Sol.prog 126 false [vi a,vu w,boxP s] (.bool (decide (a<s.h.scan)||Zt s w 1 4)):=by
 refine Z8 Sol.func126 follows Z2 c126 rfl ?_;have k:=VS (s:=s) (first:=1) (last:=4) hw;unfold boxP ckP at*;by_cases h:a<s.h.scan
 ·simp[p126,oneV,V.one,ckL,h]
 ·simp[p126,oneV,V.one,ckL,h];refine Z4 k (by simp[ckL]) ?_;simp[h]
def Be{s:Ck}{a w:Int}(hw:U64 w):VC Sol.prog 127 false [vi a,vu w,boxP s] (.bool (Zt s w 3 4)):=by
 refine Z8 Sol.func127 follows Z2 c127 rfl ?_;have k:=VS (s:=s) (first:=3) (last:=4) hw;unfold boxP ckP at*;simp[p127,oneV,V.one];refine Z4 k Z1 ?_;simp
structure Ck.ok (s:Ck):Prop where
 h:s.h.ok
 ob:∀k,∀o∈s.obs k,ObIn (Zd s.h k).length o/\U64 o.target
 len:∀k,(s.obs k).length<=1000000
def Wo(ws:List Int)(k:Nat):Int:=(ws[k]?).getD 0
def obQ(s:Ck)(k:Int)(q:Int->Int->Bool)(o:Ob):Bool:=o.gone||(List.range o.ptrs.toNat).all λj=>q ((o.at_.toNat+1+j:Nat):Int) (Wo (Zd s.h k) (o.at_.toNat+1+j))
def Vq(s:Ck)(k:Int)(q:Int->Int->Bool):Bool:=(s.obs k).all (obQ s k q)
def Xt{s:Ck}(hs:s.ok){k:Int}(hk:1<=k/\k<=4){f:FuncId}{cs:List V}{q:Int->Int->Bool}(hq:∀a w,U64 w->VC Sol.prog f false ([vi a,vu w]++cs) (.bool (q a w))):
  VC Sol.prog 123 false [ckP s,vi k,.clo f cs] (.bool (Vq s k q)):=by
 refine Z8 Sol.func123 follows Z2 c123 rfl ?_;simp[-List.all_eq_true,-List.all_eq_false,p123];refine Z4 (BQ hk) Z1 ?_;have hpt:fldV (.agg [.sl (s.o1.map obV),.sl (s.o2.map obV),.sl (s.o3.map obV),.sl (s.o4.map obV)]) 0=some (.sl (s.o1.map obV)):=rfl;have hlen:=hs.len k;have hob:=hs.ob k;have hw:=(ZE hs.h k).1;have hpl:=(ZE hs.h k).2
 have hai:aiV (.agg [.sl (s.o1.map obV),.sl (s.o2.map obV),.sl (s.o3.map obV),.sl (s.o4.map obV)]) (.int .i64 (IntKind.i64.wrap (k-1))) 4 1 true=some (.agg [.sl ((s.obs k).map obV)]):=by
  have:k=1\/k=2\/k=3\/k=4:=Z0;obtain rfl|rfl|rfl|rfl:=this<;>simp[aiV,Ck.obs,qP,JE,S5,SX]
 unfold Vq;generalize hL:s.obs k=L at*;generalize hW:Zd s.h k=ws at*;simp[-List.all_eq_true,-List.all_eq_false,ckP,ckL,hai];refine S7 5 L.length (λi=>(L.take i).all (obQ s k q)=true) Z1 Z1 Z1 ?_;intro i hi hall;have hwi:=Z7 ((i:Int)+1) Z0 Z0;by_cases hlt:i<L.length
 ·have hx:L[i]?=some L[i]:=Z4u hlt;obtain⟨⟨⟨a,ha,hfit⟩,hsh⟩,_⟩:=hob _ (Z4J hlt);generalize L[i]=o at*;obtain⟨s1,s2,s3,s4⟩:=Zc.1 hsh;obtain⟨m,hm⟩:=Z4P s3;have hwa:=Z7 ((a:Int)+1) Z0 Z0;have hnext:obQ s k q o=true->(L.take (i+1)).all (obQ s k q)=true:=λh=>by simp_all[AH]
  have hex:obQ s k q o=false->L.all (obQ s k q)=false:=λhno=>IY hx hno;cases hg:o.gone
  ·have hobp:obQ s k q o=(List.range m).all λj=>q ((a+1+j:Nat):Int) (Wo ws (a+1+j)):=by
    unfold obQ;rw[hm,ha,hW,hg];rfl
   simp[-List.all_eq_true,-List.all_eq_false,hlt,hx,ZA hx,idxV,hg,ha,hm];refine S7 11 m (λj=>((List.range j).all λj=>q ((a+1+j:Nat):Int) (Wo ws (a+1+j)))=true) Z1 Z1 Z1 ?_;intro j hj hal;have hwj:=Z7 ((j:Int)+1) Z0 Z0;by_cases hjm:j<m
   ·obtain⟨w,hmw,hu⟩:∃w,ws[a+1+j]?=some w/\U64 w:=⟨_,Z4u Z0,hw _ (Z4J _)⟩;have hww:Wo ws (a+1+j)=w:=by unfold Wo;rw[hmw];rfl
    have hsucc:((List.range (j+1)).all λj=>q ((a+1+j:Nat):Int) (Wo ws (a+1+j)))=(((List.range j).all λj=>q ((a+1+j:Nat):Int) (Wo ws (a+1+j)))&&q ((a+1+j:Nat):Int) w):=by
     rw[Z6D,Z8p];simp[hww]
    have hno:q ((a+1+j:Nat):Int) w=false->L.all (obQ s k q)=false:=λhno=>hex (by
     grind)
    obtain⟨n,hn⟩:∃n,a+1+j=n:=⟨_,rfl⟩;have hn1:(a:Int)+1+(j:Int)=(n:Int):=Z0;have hwn:=Z7 (n:Int) Z0 Z0;rw[hn]at hmw hsucc hno;have kq:=hq (n:Int) w hu;simp[-List.all_eq_true,-List.all_eq_false,hjm,hwa,hn1,hwn,hmw,ZA hmw,idxV];refine Z4 kq Z1 ?_;simp_all
   ·have:j=m:=Z0;simp_all
  ·have hobp:obQ s k q o=true:=by unfold obQ;rw[hg];rfl
   simp_all
 ·have:i=L.length:=Z0;simp_all
@[simp]def Z2m(l:List V):(V.ptr l).one=true:=rfl
@[simp]def Z1y(l:List V):oneV (.ptr l)=some (.ptr l):=rfl
@[simp]def Z2k(f:FuncId)(l:List V):(V.clo f l).one=true:=rfl
@[simp]def Z1w(f:FuncId)(l:List V):oneV (.clo f l)=some (.clo f l):=rfl
@[simp]def Z1v(s:Ck):oneV (ckP s)=some (ckP s):=rfl
@[simp]def Z2j(s:Ck):(ckP s).one=true:=rfl
@[simp]def Z0H(s:Ck):Jx (ckP s)=some (.agg (ckL s)):=rfl
@[simp]def Z1c(s:Ck):(ckL s)[4]?=some (vi s.h.scan):=rfl
@[simp]def P6(s:Ck):(ckL s)[3]?=some (.bool s.h.cycle):=rfl
@[simp]def P7(s:Ck):(ckL s)[9]?=some (.sl (s.h.roots.map vu)):=rfl
@[simp]def Z1Y(s:Ck):(ckL s)[5]?=some (.sl (s.h.low.map vu)):=rfl
@[simp]def Z1b(s:Ck):(ckL s)[6]?=some (.sl (s.h.high.map vu)):=rfl
@[simp]def Z1Z(s:Ck):(ckL s)[7]?=some (.sl (s.h.old.map vu)):=rfl
@[simp]def Z1W(s:Ck):(ckL s)[8]?=some (.sl (s.h.far.map vu)):=rfl
@[simp]def Z1V(s:Ck):(ckL s)[1]?=some (vi s.h.cap):=rfl
def Vn(s:Ck):Bool:=s.h.roots.all (λw=>Zt s w 1 2)&&(Vq s 2 (λ_ w=>Zt s w 1 2)&&Vq s 1 (λa w=>decide (s.h.scan<=a)||Zt s w 1 2))
def D3{s:Ck}(hs:s.ok):VC Sol.prog 107 false [ckP s] (.bool (Vn s)):=by
 refine Z8 Sol.func107 follows Z2 c107 rfl ?_;have k1:=Xt hs (k:=2) Z0 (f:=124) (cs:=[boxP s]) (q:=λ_ w=>Zt s w 1 2) (λa w hw=>Aq hw);have k2:=Xt hs (k:=1) Z0 (f:=125) (cs:=[boxP s]) (q:=λa w=>decide (s.h.scan<=a)||Zt s w 1 2) (λa w hw=>Ar hw);have k0:=λw (hw:U64 w)=>VS (s:=s) (first:=1) (last:=2) hw;have hrl:=hs.h.roots;have hrw:=hs.h.rootsW;unfold Vn;unfold boxP at k1 k2;generalize Vq s 2 (λ_ w=>Zt s w 1 2)=b1 at*;generalize Vq s 1 (λa w=>decide (s.h.scan<=a)||Zt s w 1 2)=b2 at*;simp[-List.all_eq_true,-List.all_eq_false,p107];refine S7 3 s.h.roots.length (λi=>(s.h.roots.take i).all (λw=>Zt s w 1 2)=true) Z1 Z1 Z1 ?_;intro i hi hall;have hwi:=Z7 ((i:Int)+1) Z0 Z0;by_cases hlt:i<s.h.roots.length
 ·have hx:s.h.roots[i]?=some s.h.roots[i]:=Z4u hlt;have hu:=hrw _ (Z4J hlt);generalize s.h.roots[i]=w at*;have hex:Zt s w 1 2=false->s.h.roots.all (λw=>Zt s w 1 2)=false:=λhno=>IY hx hno;have hnext:=AH (q:=λw=>Zt s w 1 2) hx;rw[hall]at hnext;simp[-List.all_eq_true,-List.all_eq_false,hlt,hx,ZA hx,idxV];refine Z4 (k0 w hu) Z1 ?_;cases hv:Zt s w 1 2
  ·simp[-List.all_eq_true,-List.all_eq_false,hex hv]
  ·rw[hv]at hnext;simp[-List.all_eq_true,-List.all_eq_false,hwi,hlt,hnext]
 ·have:i=s.h.roots.length:=Z0;subst this;rw[Z5D]at hall;simp[-List.all_eq_true,-List.all_eq_false,hall];refine Z4 k1 (by simp[flV,V.flatc]) ?_;cases b1
  ·simp
  ·simp;refine Z4 k2 (by simp[flV,V.flatc]) ?_;simp
def Xm(s:Ck):Bool:=Vq s 1 (λa w=>decide (a<s.h.scan)||Zt s w 1 4)
def qN{s:Ck}(hs:s.ok):VC Sol.prog 108 false [ckP s] (.bool (Xm s)):=by
 refine Z8 Sol.func108 follows Z2 c108 rfl ?_;have k1:=Xt hs (k:=1) Z0 (f:=126) (cs:=[boxP s]) (q:=λa w=>decide (a<s.h.scan)||Zt s w 1 4) (λa w hw=>zl hw);unfold Xm;unfold boxP at k1;simp[p108];refine Z4 k1 (by simp[flV,V.flatc]) ?_;simp
def jL(s:Ck):Bool:=Vq s 3 (λ_ w=>Zt s w 3 4)&&Vq s 4 (λ_ w=>Zt s w 3 4)
def Ns{s:Ck}(hs:s.ok):VC Sol.prog 109 false [ckP s] (.bool (jL s)):=by
 refine Z8 Sol.func109 follows Z2 c109 rfl ?_;have k1:=Xt hs (k:=3) Z0 (f:=127) (cs:=[boxP s]) (q:=λ_ w=>Zt s w 3 4) (λa w hw=>Be hw);have k2:=Xt hs (k:=4) Z0 (f:=127) (cs:=[boxP s]) (q:=λ_ w=>Zt s w 3 4) (λa w hw=>Be hw);unfold jL;unfold boxP at k1 k2;generalize Vq s 3 (λ_ w=>Zt s w 3 4)=b1 at*;generalize Vq s 4 (λ_ w=>Zt s w 3 4)=b2 at*;simp[p109];refine Z4 k1 (by simp[flV,V.flatc]) ?_;cases b1
 ·simp
 ·simp;refine Z4 k2 (by simp[flV,V.flatc]) ?_;simp
end Vm
namespace Vm
open Go Go.Proofs
def We(s:Ck):Bool:=Zi (layH s.h)&&(decide (s.h.roots.length<=16)&&(decide (0<=s.h.scan)&&decide (s.h.scan<=s.h.low.length)))
def C4{s:Ck}(hs:s.h.ok):VC Sol.prog 103 false [ckP s] (.bool (We s)):=by
 refine Z8 Sol.func103 follows Z2 c103 rfl ?_;have k:=qs hs.lay;unfold We;unfold layH lyV at k;simp[p103];simp[ckL];refine Z4 k Z1 ?_;have e:Zi {base:=s.h.base,cap:=s.h.cap,to:=s.h.to,low:=(s.h.low.length:Int),high:=(s.h.high.length:Int),old:=(s.h.old.length:Int),far:=(s.h.far.length:Int)}=Zi (layH s.h):=rfl;rw[e];cases Zi (layH s.h)
 ·simp
 by_cases h1:s.h.roots.length<=16
 ·have h1':(s.h.roots.length:Int)<=16:=Z0;simp_all
 ·have h1':¬(s.h.roots.length:Int)<=16:=Z0;simp[h1,h1']
def Vj(s:Ck):Bool:=if s.h.cycle then decide (s.h.scan<s.h.low.length)else decide (s.h.old.length=0)&&(decide (s.h.far.length=0)&&decide (s.h.scan=s.h.low.length))
def CV{s:Ck}:VC Sol.prog 104 false [ckP s] (.bool (Vj s)):=by
 refine Z8 Sol.func104 follows Z2 c104 rfl ?_;unfold Vj;cases hc:s.h.cycle
 ·by_cases h1:s.h.old.length=0
  ·have h1':s.h.old=[]:=Z5V.1 h1;by_cases h2:s.h.far.length=0
   ·have h2':s.h.far=[]:=Z5V.1 h2;simp[p104,hc,h1',h2']
   ·have h2':¬s.h.far=[]:=λe=>h2 (by simp[e]);simp[p104,hc,h1',h2,h2']
  ·have h1':¬s.h.old=[]:=λe=>h1 (by simp[e]);simp[p104,hc,h1,h1']
 ·simp[p104,hc]
def AB(s:Ck):Nat:=wtL s.o3+wtL s.o4
@[simp]def Z3E(s:Ck):((ckL s).drop 17).take 4=[.sl (s.o1.map obV),.sl (s.o2.map obV),.sl (s.o3.map obV),.sl (s.o4.map obV)]:=rfl
@[simp]def Z1X(s:Ck):(ckL s).length=23:=rfl
def AC{s:Ck}(hs:s.ok):VC Sol.prog 52 false [ckP s] (vi (AB s)):=by
 refine Z8 Sol.func52 follows Z2 c52 rfl ?_;have hsh:∀k,∀o∈s.obs k,Zo o.size o.ptrs=true:=λk o ho=>(hs.ob k o ho).1.2;have hl3:s.o3.length<=1000000:=hs.len 3;have hl4:s.o4.length<=1000000:=hs.len 4;have hs3:∀o∈s.o3,Zo o.size o.ptrs=true:=hsh 3;have hs4:∀o∈s.o4,Zo o.size o.ptrs=true:=hsh 4;have hb3:=L6 hs3;have hb4:=L6 hs4;have a3:aiV (.agg [.sl (s.o1.map obV),.sl (s.o2.map obV),.sl (s.o3.map obV),.sl (s.o4.map obV)]) (.int .i64 2) 4 1 true=some (.agg [.sl (s.o3.map obV)]):=by simp[aiV]
 have a4:aiV (.agg [.sl (s.o1.map obV),.sl (s.o2.map obV),.sl (s.o3.map obV),.sl (s.o4.map obV)]) (.int .i64 3) 4 1 true=some (.agg [.sl (s.o4.map obV)]):=by simp[aiV]
 simp[p52];refine Xc (λ(i:Nat)=>[(2,.v (vi ((if 0<i then wtL s.o3 else 0)+(if 1<i then wtL s.o4 else 0):Nat))),(3,.v (vi ((i+3:Nat):Int)))]) (λi=>i<=2) (cnt 3 5) 0 Z1 Z1 ?_;rintro i hi;have hi':i=0\/i=1\/i=2:=Z0;obtain rfl|rfl|rfl:=hi'
 ·simp[S5,a3];refine Xb 5 s.o3.length (λj=>[(2,.v (vi (wtL (s.o3.take j)))),(5,.v (vi j))]) (λ_=>True) (by simp[wtL]) (λi=>Z1) trivial ?_;rintro j hj-;have hwj:=Z7 ((j:Int)+1) Z0 Z0;by_cases h1:j<s.o3.length
  ·have hx:s.o3[j]?=some s.o3[j]:=Z4u h1;have hsx:=hs3 _ (Z4J h1);have hsc:=BV hx;generalize s.o3[j]=o at*
   have hle:wtL (s.o3.take j)<=256*s.o3.length:=by
    refine Z4Z (L6 λo ho=>hs3 o (Z5o ho)) ?_;simp;omega
   obtain⟨g1,g2,g3,g4⟩:=Zc.1 hsx;obtain⟨z,hz⟩:=Z4P g1;have w1:=Z7 (1+(z:Int)) Z0 Z0;have w2:=Z7 ((wtL (s.o3.take j):Int)+(1+z)) Z0 Z0;cases hg:o.gone
   ·have hwo:wtO o=1+z:=by simp[wtO,hg,hz]
    simp_all
   ·have hwo:wtO o=0:=by simp[wtO,hg]
    simp_all
  ·have:j=s.o3.length:=Z0;subst this;rw[Z5D];simp[idxV,Z7];exact⟨1,Z0,Z1,by simp[cnt]⟩
 ·simp[SX,a4];refine Xb 5 s.o4.length (λj=>[(2,.v (vi (wtL s.o3+wtL (s.o4.take j):Nat))),(5,.v (vi j))]) (λ_=>True) (by simp[wtL]) (λi=>Z1) trivial ?_;rintro j hj-;have hwj:=Z7 ((j:Int)+1) Z0 Z0;by_cases h1:j<s.o4.length
  ·have hx:s.o4[j]?=some s.o4[j]:=Z4u h1;have hsx:=hs4 _ (Z4J h1);have hsc:=BV hx;generalize s.o4[j]=o at*
   have hle:wtL (s.o4.take j)<=256*s.o4.length:=by
    refine Z4Z (L6 λo ho=>hs4 o (Z5o ho)) ?_;simp;omega
   obtain⟨g1,g2,g3,g4⟩:=Zc.1 hsx;obtain⟨z,hz⟩:=Z4P g1;have w1:=Z7 (1+(z:Int)) Z0 Z0;have w2:=Z7 ((wtL s.o3:Int)+wtL (s.o4.take j)+(1+z)) Z0 Z0;cases hg:o.gone
   ·have hwo:wtO o=1+z:=by simp[wtO,hg,hz]
    simp_all;omega
   ·have hwo:wtO o=0:=by simp[wtO,hg]
    simp_all
  ·have:j=s.o4.length:=Z0;subst this;rw[Z5D];simp[idxV,Z7];exact⟨2,Z0,Z1,by simp[cnt]⟩
 ·simp[AB]
def Jn(s:Ck):Bool:=decide ((s.h.low.length:Int)+s.h.high.length+AB s<=s.h.cap)
def IP{s:Ck}(hs:s.ok):AB s<=512*1000000:=by
 have hb3:=L6 (l:=s.o3) λo ho=>(hs.ob 3 o ho).1.2;have hb4:=L6 (l:=s.o4) λo ho=>(hs.ob 4 o ho).1.2;have hl3:s.o3.length<=1000000:=hs.len 3;have hl4:s.o4.length<=1000000:=hs.len 4
 grind [AB]
def Iq{s:Ck}(hs:s.ok):VC Sol.prog 110 false [ckP s] (.bool (Jn s)):=by
 refine Z8 Sol.func110 follows Z2 c110 rfl ?_;have h1:=IP hs;have h2:=hs.h.low;have h3:=hs.h.high;have w1:=Z7 ((s.h.low.length:Int)+s.h.high.length) Z0 Z0;have w2:=Z7 ((s.h.low.length:Int)+s.h.high.length+AB s) Z0 Z0;simp[p110];refine Z4 (AC hs) Z1 ?_;simp[w1,w2,Jn]
end Vm
namespace Vm
open Go Go.Proofs
def Yn(lm:List (Int×(Int×Int)))(ws:List Int):Nat->Nat->List (Int×Int)->List (Int×Int)
 |0,_,acc=>acc
 |f+1,i,acc=>
  match ws[i]? with
  |none=>acc
  |some w=>if(adr w).2=0 then(match getA lm (adr w).1 with|none=>acc|some sh=>Yn lm ws f (i+1+sh.1.toNat) (acc++[sh]))
   else if(unpk w).2.2=0 then Yn lm ws f (i+1+(unpk w).1.toNat) acc else acc
def X9(lm:List (Int×(Int×Int)))(ws:List Int):List (Int×Int):=Yn lm ws (ws.length+1) 0 []
def B7{α:Type}{l:List (Int×α)}{k:Int}{x:α}(h:getA l k=some x):(k,x)∈l:=by
 unfold getA at h;obtain⟨y,hy,rfl⟩:=Z4w.1 h
 grind
def D4{s:Ck}(hlm:∀x∈s.lm,Zo x.2.1 x.2.2=true){ws:List Int}(hl:ws.length<=1000000)(hw:∀w∈ws,U64 w):
  VC Sol.prog 120 false [ckP s,.sl (ws.map vu)] (.sl ((X9 s.lm ws).map shP)):=by
 refine Z8 Sol.func120 follows Z2 c120 rfl ?_
 have hlk:∀k,lkV (.i .u64) (mpA shP s.lm) (vu k) (.agg [vi 0,vi 0]) true=match getA s.lm k with
  |some x=>some (.tup [shP x,.bool true])
  |none=>some (.tup [.agg [vi 0,vi 0],.bool false]):=λk=>by grind [jM,getA]
 have h22:(ckL s)[22]?=some (mpA shP s.lm):=rfl;simp[p120]
 refine Xc (λ(p:Nat×List (Int×Int))=>[(3,.v (.sl (p.2.map shP))),(4,.v (vi p.1))])
  (λp=>p.1<=ws.length+256/\p.2.length<=p.1/\∃f,ws.length<f+p.1/\0<f/\X9 s.lm ws=Yn s.lm ws f p.1 p.2) (cnt 4 ws.length) (0,[]) Z1 ⟨Z1,Z1,ws.length+1,Z1,Z0,rfl⟩ ?_
 rintro⟨i,acc⟩ ⟨hi,hacc,f,hf,hf0,hR⟩;simp only at hi hacc hf hR;cases f with
 |zero=>omega
 |succ f=>
 by_cases hlt:i<ws.length
 ·have hx:ws[i]?=some ws[i]:=Z4u hlt;have hu:=hw _ (Z4J hlt);generalize ws[i]=w at*;simp only[Yn,hx]at hR;have hlim:acc.length+1<=lim:=Z3Y;simp[hlt,hx,ZA hx,idxV];refine Z4 (zu hu) Z1 ?_;by_cases ha:(adr w).2=0
  ·rw[if_pos ha]at hR;simp[ha,h22,hlk];cases hat:getA s.lm (adr w).1 with
   |none=>
    simp_all
   |some sh=>
    rw[hat]at hR;simp only at hR;have hsh:0<=sh.1/\sh.1<=255/\0<=sh.2/\sh.2<=sh.1:=Zc.1 (hlm _ (B7 hat));obtain⟨z,hz⟩:=Z4P hsh.1;have hw1:=Z7 (1+(z:Int)) Z0 Z0;have hw2:=Z7 ((i:Int)+(1+z)) Z0 Z0;rw[hz,Z5f]at hR;simp[hlim,hz,hw1,hw2];refine⟨i+1+z,acc++[sh],⟨Z0,Z3N,f,Z0,?_,hR⟩,⟨by simp[shP,hz],Z0⟩,by simp[cnt];omega⟩;omega
  ·rw[if_neg ha]at hR;simp[ha,hx,ZA hx,hlt,idxV];refine Z4 (Gx hu) Z1 ?_;by_cases hun:(unpk w).2.2=0
   ·rw[if_pos hun]at hR;have hsh:=Zc.1 (Gv hun);obtain⟨z,hz⟩:=Z4P hsh.1;have hw1:=Z7 (1+(z:Int)) Z0 Z0;have hw2:=Z7 ((i:Int)+(1+z)) Z0 Z0;rw[hz,Z5f]at hR;simp[hun,hz,hw1,hw2];refine⟨i+1+z,acc,⟨Z0,Z0,f,Z0,?_,hR⟩,⟨rfl,Z0⟩,by simp[cnt];omega⟩;omega
   simp_all
 simp_all[Z5w,Yn]
end Vm
namespace Vm
open Go Go.Proofs
def copQ(pm:List (Int×Int)):List Ob->List (Int×Bool)->Option (List (Int×Bool))
 | [],m=>some m
 |o::l,m=>if o.gone=true then(if(getA pm o.target).getD 0=1/\(getA m o.target).getD false=false then copQ pm l (putA m o.target true)else none)else copQ pm l m
def WV(s:Ck):Bool:= !s.h.cycle||match(copQ s.pm s.o3 []).bind (copQ s.pm s.o4)with
 |none=>false
 |some m=>decide (m.length=s.o1.length)
def Ff{l:List (Int×Bool)}{k:Int}{x:Bool}:QY (.i .u64) (mpA .bool l) (vu k) (.bool x)=some (mpA .bool (putA l k x)):=QZ
def CD{l:List (Int×Bool)}{k:Int}:lkV (.i .u64) (mpA .bool l) (vu k) (.bool false) false=some (.bool ((getA l k).getD false)):=by
 grind [jM,getA]
def CE{l:List (Int×Int)}{k:Int}:lkV (.i .u64) (mpA vi l) (vu k) (vi 0) false=some (vi ((getA l k).getD 0)):=by
 grind [jM,getA]
def NC{α:Type}(f:α->V):mpA f []=.mp 0 [] []:=rfl
def Cg{s:Ck}(hs:s.ok):VC Sol.prog 106 false [ckP s] (.bool (WV s)):=by
 refine Z8 Sol.func106 follows Z2 c106 rfl ?_;have hl3:s.o3.length<=1000000:=hs.len 3;have hl4:s.o4.length<=1000000:=hs.len 4;have hu3:∀o∈s.o3,U64 o.target:=λo ho=>(hs.ob 3 o ho).2;have hu4:∀o∈s.o4,U64 o.target:=λo ho=>(hs.ob 4 o ho).2;have a3:aiV (.agg [.sl (s.o1.map obV),.sl (s.o2.map obV),.sl (s.o3.map obV),.sl (s.o4.map obV)]) (.int .i64 2) 4 1 true=some (.agg [.sl (s.o3.map obV)]):=by simp[aiV]
 have a4:aiV (.agg [.sl (s.o1.map obV),.sl (s.o2.map obV),.sl (s.o3.map obV),.sl (s.o4.map obV)]) (.int .i64 3) 4 1 true=some (.agg [.sl (s.o4.map obV)]):=by simp[aiV]
 have a1:aiV (.agg [.sl (s.o1.map obV),.sl (s.o2.map obV),.sl (s.o3.map obV),.sl (s.o4.map obV)]) (.int .i64 0) 4 1 true=some (.agg [.sl (s.o1.map obV)]):=by simp[aiV]
 have h21:(ckL s)[21]?=some (mpA vi s.pm):=rfl;have hm0:=(NC V.bool).symm;unfold WV;cases hc:s.h.cycle
 ·simp[p106,hc]
 simp[p106,hc,hm0]
 refine Xc (λ(p:Nat×List (Int×Bool))=>[(3,.v (mpA .bool p.2)),(4,.v (vi ((p.1+3:Nat):Int)))])
  (λp=>(p.1=0/\p.2=[])\/(p.1=1/\copQ s.pm s.o3 []=some p.2)\/(p.1=2/\(copQ s.pm s.o3 []).bind (copQ s.pm s.o4)=some p.2)) (cnt 4 5) (0,[]) Z1 Z1 ?_
 rintro⟨i,m⟩ (⟨rfl,rfl⟩|⟨rfl,hm⟩|⟨rfl,hm⟩)
 ·simp[S5,a3];refine Xc (λ(p:Nat×List (Int×Bool))=>[(3,.v (mpA .bool p.2)),(6,.v (vi p.1))]) (λp=>p.1<=s.o3.length/\copQ s.pm s.o3 []=copQ s.pm (s.o3.drop p.1) p.2) (cnt 6 s.o3.length) (0,[]) Z1 Z1 ?_;rintro⟨j,mj⟩ ⟨hj,he⟩;simp only at hj he;have hwj:=Z7 ((j:Int)+1) Z0 Z0;by_cases h1:j<s.o3.length
  ·have hx:s.o3[j]?=some s.o3[j]:=Z4u h1;have hd:=Z5r h1;have hut:=hu3 _ (Z4J h1);generalize s.o3[j]=o at*;rw[hd,copQ]at he;cases hg:o.gone
   ·rw[hg]at he;rw[if_neg Z1]at he;simp[idxV,h1,hx,ZA hx,hg,hwj];exact⟨j+1,mj,⟨Z0,he⟩,⟨rfl,Z0⟩,by simp[cnt];omega⟩
   ·rw[hg]at he;rw[if_pos rfl]at he;by_cases h2:(getA s.pm o.target).getD 0=1
    ·cases h3:(getA mj o.target).getD false
     ·rw[if_pos ⟨h2,h3⟩]at he;simp[idxV,h1,hx,ZA hx,hg,hwj,h21,CE,CD,flV,V.flatc,h2,h3,Ff];exact⟨j+1,putA mj o.target true,⟨Z0,he⟩,⟨rfl,Z0⟩,by simp[cnt];omega⟩
     ·rw[if_neg (by simp[h3])]at he;simp[idxV,h1,hx,ZA hx,hg,hwj,h21,CE,CD,flV,V.flatc,h2,h3,he]
    ·rw[if_neg (by simp[h2])]at he;simp[idxV,h1,hx,ZA hx,hg,hwj,h21,CE,CD,flV,V.flatc,h2,he]
  ·have:j=s.o3.length:=Z0;subst this;rw[List.drop_length,copQ]at he;simp[Z7];exact⟨1,mj,by simp[he],Z1,by simp[cnt]⟩
 ·simp[SX,a4];refine Xc (λ(p:Nat×List (Int×Bool))=>[(3,.v (mpA .bool p.2)),(6,.v (vi p.1))]) (λp=>p.1<=s.o4.length/\copQ s.pm s.o4 m=copQ s.pm (s.o4.drop p.1) p.2) (cnt 6 s.o4.length) (0,m) Z1 Z1 ?_;rintro⟨j,mj⟩ ⟨hj,he⟩;simp only at hj he;have hwj:=Z7 ((j:Int)+1) Z0 Z0;by_cases h1:j<s.o4.length
  ·have hx:s.o4[j]?=some s.o4[j]:=Z4u h1;have hd:=Z5r h1;have hut:=hu4 _ (Z4J h1);generalize s.o4[j]=o at*;rw[hd,copQ]at he;cases hg:o.gone
   ·rw[hg]at he;rw[if_neg Z1]at he;simp[idxV,h1,hx,ZA hx,hg,hwj];exact⟨j+1,mj,⟨Z0,he⟩,⟨rfl,Z0⟩,by simp[cnt];omega⟩
   ·rw[hg]at he;rw[if_pos rfl]at he;by_cases h2:(getA s.pm o.target).getD 0=1
    ·cases h3:(getA mj o.target).getD false
     ·rw[if_pos ⟨h2,h3⟩]at he;simp[idxV,h1,hx,ZA hx,hg,hwj,h21,CE,CD,flV,V.flatc,h2,h3,Ff];exact⟨j+1,putA mj o.target true,⟨Z0,he⟩,⟨rfl,Z0⟩,by simp[cnt];omega⟩
     ·rw[if_neg (by simp[h3])]at he;simp[idxV,h1,hx,ZA hx,hg,hwj,h21,CE,CD,flV,V.flatc,h2,h3,hm,he]
    ·rw[if_neg (by simp[h2])]at he;simp[idxV,h1,hx,ZA hx,hg,hwj,h21,CE,CD,flV,V.flatc,h2,hm,he]
  ·have:j=s.o4.length:=Z0;subst this;rw[List.drop_length,copQ]at he;simp[Z7];exact⟨2,mj,Z3L,Z1,by simp[cnt]⟩
 ·simp[qP,S5,a1]
  grind
end Vm
namespace Vm
open Go Go.Proofs
def K4:Prop:=∀ws:List Int,ws.length<=1000000->(∀w∈ws,U64 w)->VC Sol.prog 117 true [.sl (ws.map vu)] (.tup [.sl ((Zs ws [] false).1.map obV),vi (Zs ws [] false).2])
def Wu:Prop:=∀(ws:List Int) (shs:List (Int×Int)),ws.length<=1000000->shs.length<=1000000->(∀w∈ws,U64 w)->(∀x∈shs,Zo x.1 x.2=true)->
 VC Sol.prog 119 true [.sl (ws.map vu),.sl (shs.map shP)] (.tup [.sl ((Zs ws shs true).1.map obV),vi (Zs ws shs true).2])
def Zu(s:Ck)(k:Int):List Ob×Int:=if k<=2 then Zs (Zd s.h k) [] false else Zs (Zd s.h k) (X9 s.lm (Zd s.h k)) true
def Yw:List Int->Ck->Bool×Ck
 | [],s=>(true,s)
 |k::l,s=>if(Zu s k).2=0 then Yw l (XF s k (Zu s k).1)else(false,s)
def ZW(s:Ck):Bool×Ck:=Yw [1,2,3,4] s
def UW(s:Ck)(k:Int)(l:List Ob):(XF s k l).h=s.h:=Z2p s k l
def Ih{α:Type}{l:List (Int×α)}{k:Int}{x:α}{y:Int×α}(h:y∈putA l k x):y=(k,x)\/y∈l:=by
 grind [putA,List.mem_or_eq_of_mem_set]
def WH{h:Hp}{k:Int}:∀ {l:List Ob} {m:List (Int×(Int×Int))},(∀o∈l,Zo o.size o.ptrs=true)->(∀x∈m,Zo x.2.1 x.2.2=true)->∀x∈ZZ h k m l,Zo x.2.1 x.2.2=true
 | [],m,_,hm=>hm
 |o::l,m,ho,hm=>by
  rw[ZZ];refine WH (λp hp=>ho p (Z53 _ hp)) ?_;split
  ·intro x hx;obtain rfl|hx:=Ih hx
   ·simp_all
   grind
  ·exact hm
def Wb{s:Ck}(hh:s.h.ok){k:Int}:(∀o∈(Zu s k).1,ObIn (Zd s.h k).length o/\U64 o.target)/\(Zu s k).1.length<=(Zd s.h k).length:=by
 unfold Zu;split
 ·exact⟨Uv (ZE hh k).1,WT⟩
 ·exact⟨Uv (ZE hh k).1,WT⟩
def Ta{lm:List (Int×(Int×Int))}{ws:List Int}:∀ {f i:Nat} {acc:List (Int×Int)},acc.length<=i->acc.length<=ws.length->(Yn lm ws f i acc).length<=ws.length
 |0,i,acc,_,h=>h
 |f+1,i,acc,hi,h=>by
  rw[Yn];cases hx:ws[i]? with
  |none=>exact h
  |some w=>
   have hlt:i<ws.length:=(Z4v.1 hx).1;simp only;split
   ·split
    ·exact h
    ·exact Ta Z3N Z3N
   ·split
    ·exact Ta Z0 h
    ·exact h
def Jt{lm:List (Int×(Int×Int))}{ws:List Int}:(X9 lm ws).length<=ws.length:=Ta Z1 Z1
def Up{lm:List (Int×(Int×Int))}{ws:List Int}(hlm:∀x∈lm,Zo x.2.1 x.2.2=true):∀ {f i:Nat} {acc:List (Int×Int)},(∀x∈acc,Zo x.1 x.2=true)->∀x∈Yn lm ws f i acc,Zo x.1 x.2=true
 |0,i,acc,h=>h
 |f+1,i,acc,h=>by
  rw[Yn];cases hx:ws[i]? with
  |none=>exact h
  |some w=>
   simp only;split
   ·split
    ·exact h
    ·rename_i sh hsh;refine Up hlm ?_;intro x hx;obtain hx|hx:=Z4R.1 hx
     ·grind
     ·simp at hx;subst hx;exact hlm _ (B7 hsh)
   ·split
    ·exact Up hlm h
    ·exact h
def IO:IntKind.i64.wrap 4=4:=by decide
def Dp(hW:K4)(hWO:Wu){s:Ck}(hh:s.h.ok)(hlm:∀x∈s.lm,Zo x.2.1 x.2.2=true):VCM Sol.prog 105 [.mem ckK] [.agg (ckL s)] (.tup [.bool (ZW s).1,.agg (ckL (ZW s).2)]):=by
 refine WS Sol.func105 follows Z2 c105 Z2 ?_;simp[p105];refine Xc (λ(p:Nat×Ck)=>[(0,.m (ckL p.2)),(3,.v (vi p.1))]) (λp=>p.1<=4/\p.2.h=s.h/\(∀x∈p.2.lm,Zo x.2.1 x.2.2=true)/\ZW s=Yw ([1,2,3,4].drop p.1) p.2) (cnt 3 4) (0,s) Z1 ⟨Z1,rfl,hlm,rfl⟩ ?_;rintro⟨i,q⟩ ⟨hi,hq,hql,hR⟩;simp only at hi hq hql hR;have hqh:q.h.ok:=hq▸hh;have hi':i=0\/i=1\/i=2\/i=3\/i=4:=Z0;have kw:=λk hk=>BQ (s:=q) (k:=k) hk;have ks:=λk=>D4 (s:=q) hql (ZE hqh k).2 (ZE hqh k).1;obtain rfl|rfl|rfl|rfl|rfl:=hi'
 ·replace kw:=kw 1 Z0;have st:=Wb hqh (k:=1);have kn:=RX (s:=q) hqh (k:=1) Z0 (l:=(Zu q 1).1) (Z4Z st.2 (ZE hqh 1).2);have k1:=hW _ (ZE hqh 1).2 (ZE hqh 1).1;have hsh:=WH (h:=q.h) (k:=1) (l:=(Zu q 1).1) (m:=q.lm) (λo ho=>(st.1 o ho).1.2) hql;replace hR:ZW s=Yw (1:: [2,3,4]) q:=hR;rw[Yw]at hR;have hws:Zu q 1=Zs (Zd q.h 1) [] false:=rfl;rw[<-hws]at k1;generalize Zu q 1=z at*;obtain⟨l,e⟩:=z;simp only at k1 kn hR hsh st;unfold ckP ckL at kw;unfold ckL at kn;simp[ckL,JE,S5,SX,IO];refine Z4 kw Z1 ?_;simp;refine Z4 k1 Z1 ?_;simp;by_cases he:e=0
  ·rw[if_pos he]at hR;simp[he];refine ZP kn ?_;simp[Z7];exact⟨1,XF q 1 l,⟨Z0,by rw[UW,hq],λa b c h=>hsh (a,b,c) h,hR⟩,⟨Z1,rfl⟩,by simp[cnt]⟩
  simp_all
 ·replace kw:=kw 2 Z0;have st:=Wb hqh (k:=2);have kn:=RX (s:=q) hqh (k:=2) Z0 (l:=(Zu q 2).1) (Z4Z st.2 (ZE hqh 2).2);have k1:=hW _ (ZE hqh 2).2 (ZE hqh 2).1;have hsh:=WH (h:=q.h) (k:=2) (l:=(Zu q 2).1) (m:=q.lm) (λo ho=>(st.1 o ho).1.2) hql;replace hR:ZW s=Yw (2:: [3,4]) q:=hR;rw[Yw]at hR;have hws:Zu q 2=Zs (Zd q.h 2) [] false:=rfl;rw[<-hws]at k1;generalize Zu q 2=z at*;obtain⟨l,e⟩:=z;simp only at k1 kn hR hsh st;unfold ckP ckL at kw;unfold ckL at kn;simp[ckL,JE,S5,SX,IO];refine Z4 kw Z1 ?_;simp;refine Z4 k1 Z1 ?_;simp;by_cases he:e=0
  ·rw[if_pos he]at hR;simp[he];refine ZP kn ?_;simp[Z7];exact⟨2,XF q 2 l,⟨Z0,by rw[UW,hq],λa b c h=>hsh (a,b,c) h,hR⟩,⟨Z1,rfl⟩,by simp[cnt]⟩
  simp_all
 ·replace kw:=kw 3 Z0;have st:=Wb hqh (k:=3);have kn:=RX (s:=q) hqh (k:=3) Z0 (l:=(Zu q 3).1) (Z4Z st.2 (ZE hqh 3).2);have k1:=hWO _ (X9 q.lm (Zd q.h 3)) (ZE hqh 3).2 (Z4Z Jt (ZE hqh 3).2) (ZE hqh 3).1 (Up hql Z1);replace ks:=ks 3;have hsh:=WH (h:=q.h) (k:=3) (l:=(Zu q 3).1) (m:=q.lm) (λo ho=>(st.1 o ho).1.2) hql;replace hR:ZW s=Yw (3:: [4]) q:=hR;rw[Yw]at hR;have hws:Zu q 3=Zs (Zd q.h 3) (X9 q.lm (Zd q.h 3)) true:=rfl;rw[<-hws]at k1;generalize Zu q 3=z at*;obtain⟨l,e⟩:=z;simp only at k1 kn hR hsh st;unfold ckP ckL at kw ks;unfold ckL at kn;simp[ckL,JE,S5,SX,IO];refine Z4 kw Z1 ?_;simp;refine Z4 kw Z1 ?_;simp;refine Z4 ks Z1 ?_;simp;refine Z4 k1 Z1 ?_;simp;by_cases he:e=0
  ·rw[if_pos he]at hR;simp[he];refine ZP kn ?_;simp[Z7];exact⟨3,XF q 3 l,⟨Z0,by rw[UW,hq],λa b c h=>hsh (a,b,c) h,hR⟩,⟨Z1,rfl⟩,by simp[cnt]⟩
  simp_all
 ·replace kw:=kw 4 Z0;have st:=Wb hqh (k:=4);have kn:=RX (s:=q) hqh (k:=4) Z0 (l:=(Zu q 4).1) (Z4Z st.2 (ZE hqh 4).2);have k1:=hWO _ (X9 q.lm (Zd q.h 4)) (ZE hqh 4).2 (Z4Z Jt (ZE hqh 4).2) (ZE hqh 4).1 (Up hql Z1);replace ks:=ks 4;have hsh:=WH (h:=q.h) (k:=4) (l:=(Zu q 4).1) (m:=q.lm) (λo ho=>(st.1 o ho).1.2) hql;replace hR:ZW s=Yw (4:: []) q:=hR;rw[Yw]at hR;have hws:Zu q 4=Zs (Zd q.h 4) (X9 q.lm (Zd q.h 4)) true:=rfl;rw[<-hws]at k1;generalize Zu q 4=z at*;obtain⟨l,e⟩:=z;simp only at k1 kn hR hsh st;unfold ckP ckL at kw ks;unfold ckL at kn;simp[ckL,JE,S5,SX,IO];refine Z4 kw Z1 ?_;simp;refine Z4 kw Z1 ?_;simp;refine Z4 ks Z1 ?_;simp;refine Z4 k1 Z1 ?_;simp;by_cases he:e=0
  ·rw[if_pos he]at hR;simp[he];refine ZP kn ?_;simp[Z7];exact⟨4,XF q 4 l,⟨Z0,by rw[UW,hq],λa b c h=>hsh (a,b,c) h,hR⟩,⟨Z1,rfl⟩,by simp[cnt]⟩
  simp_all
 ·replace hR:ZW s=(true,q):=hR;simp[hR,ckL]
end Vm
namespace Vm
open Go Go.Proofs
def Dl{P:Program}{f:FuncId}{ks:List CK}{cs:List V}{r:V}(hv:VC P f false [.ptr cs] r)(hfl:r.flatc=true)(hlen:cs.length=ks.length)(hone:cs.all V.one=true)(hdd:ks.all (λk=> !(k==.dead))=true):
  VCM P f [.mem ks] [.agg cs] (.tup [r,.agg cs]):=by
 obtain⟨h1,h2⟩:=hv;refine⟨h1,λB w h vs hok hA=> ?_⟩;obtain⟨hxl,hvl,hAi⟩:=hA;obtain⟨tk,harg,hrel⟩:=hAi 0 (.mem ks) (.agg cs) rfl rfl;simp only[argK]at harg;rw[if_pos hlen]at harg;simp only[Z4s]at harg;subst harg;obtain⟨b,us,T,hb0,hv0,hh,hcs⟩:=hrel
 have hcells:∀(ks:List CK) (cs:List V),cs.length=ks.length->Yg [] (((ks.zip cs).map λy=>(y.1,E.c y.2)).map (·.2))=some cs:=by
  intro ks
  induction ks with
  |nil=>simp
  |cons k ks ih=>
   intro cs hl;cases cs with
   |nil=>simp at hl
   |cons c cs=>
    simp_all
 have hz:eval [] (.pt none (((ks.zip cs).map λy=>(y.1,E.c y.2)).map (·.2)))=some (.ptr cs):=by
  simp only[eval,hcells ks cs hlen,Z4E,ptV,hone,Z5b]
 have hd:Ye ((ks.zip cs).map λy=>(y.1,E.c y.2))=false:=by
  rw[Ye,Z7m];intro x hx;obtain⟨y,hy,rfl⟩:=Z4I.1 hx;have:=Z4D.1 hdd y.1 (List.of_mem_zip hy).1;simpa using this
 have hrd:=QW (G':=λb=>h.F b\/∃t i,h.bl t i=some b) hb0 hh hcs hd hz (λb hb=>.inl hb) λi b hb=>.inr ⟨0,i,hb⟩;refine Z7Z (h2 w (λb=>h.F b\/∃t i,h.bl t i=some b) vs (λb hb=> ?_) Z0 λi x hx=> ?_) λe w' he=> ?_
 ·obtain hb|⟨t,i,hb⟩:=hb
  ·exact hok.f_lt b hb
  ·exact(hok.b_lt t i b hb).2.1
 ·grind
 ·obtain⟨v,rfl,hbel,hrv⟩:=he;have hsz:=hbel.size;have hF:Same h.F w w':=λb hb=>hbel.block b (hok.f_lt b hb);have hB:∀t i b,h.bl t i=some b->w'.heap[b]?=w.heap[b]? :=λt i b hb=>hbel.block b (hok.b_lt t i b hb).2.1
  have hlen1:us.size=cs.length:=by
   have:=hcs.1;simp[hlen]at this;omega
  refine⟨v,r,[.agg cs],h,rfl,hbel.mono hok.base,λb hb=>hbel.block b (hok.k_lt b hb),⟨Z4Z hok.base hsz,λb hb=>Z4F (hok.f_lt b hb) hsz,hok.f_or,hok.g_F,λt i b hb=> ?_,hok.inj,λb hb=>Z4F (hok.k_lt b hb) hsz,hok.k_bl,hok.k_F⟩,rfl,hrv.flat hfl,⟨rfl,λi k y hk hkz hy=> ?_⟩,rfl⟩
  ·obtain⟨q1,q2,q3⟩:=hok.b_lt t i b hb
   grind
  ·cases i with
   |zero=>
    simp at hk hy;subst hk;subst hy;refine⟨.mem ((ks.zip cs).map λy=>(y.1,.c y.2)),by rw[argK,if_pos hlen],b,us,T,hb0,hv0,?_,hcs.keep hF (λ_ hb=>hb) (λ_=>rfl) λi b hb=>hB 0 _ b hb⟩
    grind
   |succ i=>simp at hk
end Vm
namespace Vm
open Go Go.Proofs
def VX:List FuncId:=[103,104,105,106,107,108,109,110]
def fnA(f:FuncId):V:=.agg [.fn f]
def Is:VC Sol.prog 82 false [] (.sl (VX.map fnA)):=by
 refine Z8 Sol.func82 follows Z2 c82 rfl ?_;simp[p82,VX,fnA]
def zc(f:FuncId)(s:Ck):Bool×Ck:=
 if f=103 then(We s,s)else if f=104 then(Vj s,s)else if f=105 then ZW s
 else if f=106 then(WV s,s)else if f=107 then(Vn s,s)else if f=108 then(Xm s,s)else if f=109 then(jL s,s)else(Jn s,s)
structure Ck.okk (s:Ck):Prop where
 ok:s.ok
 lm:∀x∈s.lm,Zo x.2.1 x.2.2=true
def Ck.obs_put(s:Ck)(k:Int)(l:List Ob)(hk:1<=k/\k<=4)(j:Int):(s.put k l).obs j=if j=k\/(k=4/\¬(j=1\/j=2\/j=3))then l else s.obs j:=by
 have:k=1\/k=2\/k=3\/k=4:=Z0;obtain rfl|rfl|rfl|rfl:=this<;>simp[Ck.put,Ck.obs]<;>(split<;>simp_all)<;>(grind)<;>(grind)
def Fk{s:Ck}(hs:s.okk){k:Int}(hk:1<=k/\k<=4):(XF s k (Zu s k).1).okk:=by
 have st:=Wb hs.ok.h (k:=k);have hpl:=(ZE hs.ok.h k).2;have hobs:∀j,(XF s k (Zu s k).1).obs j=((s.put k (Zu s k).1).obs j):=λj=>rfl;refine⟨⟨by rw[UW];exact hs.ok.h,λj o ho=> ?_,λj=> ?_⟩,WH (λo ho=>(st.1 o ho).1.2) hs.lm⟩
 ·rw[UW];rw[hobs,Ck.obs_put _ _ _ hk]at ho;split at ho
  ·rename_i h
   have:Zd s.h j=Zd s.h k:=by
    obtain rfl|⟨rfl,h⟩:=h
    ·rfl
    ·simp_all[not_or,Zd]
   simp_all
  ·exact hs.ok.ob j o ho
 ·rw[hobs,Ck.obs_put _ _ _ hk];split
  ·omega
  ·exact hs.ok.len j
def JG:∀ {l:List Int} {s:Ck},(∀k∈l,1<=k/\k<=4)->s.okk->(Yw l s).2.okk/\(Yw l s).2.h=s.h
 | [],s,_,hs=>⟨hs,rfl⟩
 |k::l,s,hl,hs=>by
  rw[Yw];split
  ·simp_all[JG,Z53,Fk,Z58,trans,UW]
  simp_all
def AD{s:Ck}(hs:s.okk):(ZW s).2.okk/\(ZW s).2.h=s.h:=JG Z1 hs
def G2{s:Ck}(hs:s.okk){f:FuncId}:(zc f s).2.okk/\(zc f s).2.h=s.h:=by
 unfold zc
 repeat' split
 all_goals first|exact⟨hs,rfl⟩|exact AD hs
def Ir(hW:K4)(hWO:Wu){s:Ck}(hs:s.okk){f:FuncId}(hf:f∈VX):VCM Sol.prog f [.mem ckK] [.agg (ckL s)] (.tup [.bool (zc f s).1,.agg (ckL (zc f s).2)]):=by
 have go:∀ {f b},VC Sol.prog f false [ckP s] (.bool b)->VCM Sol.prog f [.mem ckK] [.agg (ckL s)] (.tup [.bool b,.agg (ckL s)]):=λh=>Dl h rfl rfl rfl rfl;simp only[VX,Z4H,Z5t,Z6u]at hf;obtain rfl|rfl|rfl|rfl|rfl|rfl|rfl|rfl:=hf
 ·exact go (C4 hs.ok.h)
 ·exact go CV
 ·exact Dp hW hWO hs.ok.h hs.lm
 ·exact go (Cg hs.ok)
 ·exact go (D3 hs.ok)
 ·exact go (qN hs.ok)
 ·exact go (Ns hs.ok)
 ·exact go (Iq hs.ok)
def Hx:List FuncId->Ck->Option Ck
 | [],s=>some s
 |f::l,s=>if(zc f s).1=true then Hx l (zc f s).2 else none
def ZY(h:Hp):Ck:= {h:=h,o1:=[],o2:=[],o3:=[],o4:=[],pm:=[],lm:=[]}
def QT(h:Hp):Option Ck:=Hx VX (ZY h)
def Cy{h:Hp}(hh:h.ok):(ZY h).okk:=by
 have h0:∀k,(ZY h).obs k=[]:=λk=>by simp[ZY,Ck.obs]
 refine⟨⟨hh,λk o ho=> ?_,λk=> ?_⟩,λx hx=>(by simp[ZY]at hx)⟩
 ·simp_all
 simp_all
def F5(hW:K4)(hWO:Wu){h:Hp}(hh:h.ok):VC Sol.prog 51 false [hpV h] (.tup [match QT h with|some s=>ckP s|none=>.nul 0,.bool (QT h).isSome]):=by
 refine Z8 Sol.func51 follows Z2 c51 rfl ?_;have k1:=zq (h:=h);have k2:=Is;have hlen:VX.length=8:=rfl;unfold hpV at k1;simp[p51];refine Z4 k1 Z1 ?_;simp[lyV,layH];refine Z4 k2 Z1 ?_;simp;refine Xc (λ(p:Nat×Ck)=>[(5,.m (ckL p.2)),(6,.v (vi p.1))]) (λp=>p.1<=8/\p.2.okk/\QT h=Hx (VX.drop p.1) p.2) (cnt 6 8) (0,ZY h) Z4r ⟨Z1,Cy hh,rfl⟩ ?_;rintro⟨i,q⟩ ⟨hi,hq,hR⟩;simp only at hi hq hR;have hwi:=Z7 ((i:Int)+1) Z0 Z0;by_cases hlt:i<VX.length
 ·have hx:VX[i]?=some VX[i]:=Z4u hlt;have hd:=Z5r hlt;have hm:=Z4J hlt;generalize VX[i]=f at*;rw[hd,Hx]at hR;have kr:=Ir hW hWO hq hm;have hok:=(G2 hq (f:=f)).1;rw[hlen]at hlt;have hlt':(i:Int)<8:=Z0;simp[idxV,hlt,hlt',hx,ZA hx,hlen,fnA,ckL];unfold ckL at kr;refine ZP kr ?_;cases hb:(zc f q).1
  ·rw[if_neg (by simp[hb])]at hR;simp[hR]
  ·rw[if_pos hb]at hR;simp[hwi];exact⟨i+1,(zc f q).2,⟨Z0,hok,hR⟩,⟨Z1,Z0⟩,by simp[cnt];omega⟩
 ·have:i=8:=Z0;subst this;replace hR:QT h=some q:=hR;simp[hlen,hR,ckL,ckP]
def Dw(hW:K4)(hWO:Wu){h:Hp}(hh:h.ok):VC Sol.prog 25 false [hpV h] (.bool (QT h).isSome):=by
 refine Z8 Sol.func25 follows Z2 c25 rfl ?_;simp[p25];refine Z4 (F5 hW hWO hh) Z1 ?_;simp
def Fl(h:Hp)(k:Int):List Ob×Int:=match QT h with
 |some s=>if 1<=k/\k<=4 then(s.obs k,0)else([],1)
 |none=>([],1)
def qX(hW:K4)(hWO:Wu){h:Hp}(hh:h.ok){k:Int}:VC Sol.prog 27 false [hpV h,vi k] (.tup [.sl ((Fl h k).1.map obV),vi (Fl h k).2]):=by
 refine Z8 Sol.func27 follows Z2 c27 rfl ?_;simp[p27];refine Z4 (F5 hW hWO hh) Z1 ?_;unfold Fl;cases hl:QT h with
 |none=>simp
 |some s=>
  by_cases h1:1<=k
  ·by_cases h2:k<=4
   ·have:k=1\/k=2\/k=3\/k=4:=Z0;obtain rfl|rfl|rfl|rfl:=this<;>simp[aiV,qP,JE,S5,SX,Ck.obs]
   ·have h1':¬k<1:=Z0;have h2':4<k:=Z0;simp[h1,h2,h1',h2']
  ·have h1':k<1:=Z0;simp[h1,h1']
end Vm
end
section
namespace Vm
open Go Go.Proofs
structure Stands (ws:List Int) (old:Bool) (o:Ob):Prop where
 nat:0<=o.at_
 shape:Zo o.size o.ptrs=true
 fits:o.at_+1+o.size<=ws.length
 slots:ZO ((ws.drop (o.at_.toNat+1)).take o.size.toNat) o.gone o.ptrs 0=true
 word:∃w,ws[o.at_.toNat]?=some w/\(if o.gone then old=true/\(adr w).2=0/\o.target=(adr w).1 else(old=true->¬(adr w).2=0)/\unpk w=(o.size,o.ptrs,0)/\o.target=0)
def Tiles(ws:List Int)(old:Bool):Nat->List Ob->Prop
 |a,[]=>ws.length<=a
 |a,o::l=>o.at_=a/\Stands ws old o/\Tiles ws old (a+1+o.size.toNat) l
def jX{ws:List Int}{shs:List (Int×Int)}{old:Bool}{a tk t:Nat}{w:Int}{o:Ob}(hw:ws[a]?=some w)(ho:objR shs old a tk w=some (o,t))(hl:¬(ws.length:Int)<a+1+o.size)
  (hs:¬ZO ((ws.drop (a+1)).take o.size.toNat) o.gone o.ptrs 0=false):o.at_=a/\Stands ws old o:=by
 have h2:=Ud ho;refine⟨h2.2,?_,h2.1,?_,?_,w,?_,?_⟩
 ·omega
 ·omega
 ·simp_all
 ·simp_all
 ·unfold objR at ho
  grind
def JF{ws:List Int}{shs:List (Int×Int)}{old:Bool}:∀(f a tk:Nat) (acc l:List Ob),Xe ws shs old f a tk acc=(l,0)->∃r,l=acc++r/\Tiles ws old a r
 |0,_,_,_,_,h=>by simp[Xe]at h
 |f+1,a,tk,acc,l,h=>by
  unfold Xe at h;split at h
  ·rename_i hn;split at h
   grind
   ·simp only[Z4C,Z8I]at h;subst h;exact⟨[],Z1,Z74.1 hn⟩
  ·rename_i w hw;split at h
   grind
   ·rename_i o t ho;split at h
    grind
    rename_i h1;split at h
    grind
    rename_i h2;obtain⟨r,rfl,hr⟩:=JF f _ _ _ _ h;have hs:=jX hw ho h1 h2;exact⟨o::r,Z1,hs.1,hs.2,hr⟩
def Yo{ws:List Int}{shs:List (Int×Int)}{old:Bool}{l:List Ob}(h:Zs ws shs old=(l,0)):Tiles ws old 0 l:=by
 obtain⟨r,h1,h2⟩:=JF _ _ _ _ _ h;simp_all
def Tiles.stands{ws:List Int}{old:Bool}:∀ {a:Nat} {l:List Ob},Tiles ws old a l->∀o∈l,Stands ws old o/\(a:Int)<=o.at_
 |_,[],_,_,h=>Z4q
 |a,o::l,h,x,hx=>by
  have hs:=Zc.1 h.2.1.shape;obtain rfl|hx:=Z4H.1 hx
  ·exact⟨h.2.1,by rw[h.1];omega⟩
  ·have:=Tiles.stands h.2.2 x hx
   grind
def Tiles.apart{ws:List Int}{old:Bool}:∀ {a:Nat} {l:List Ob},Tiles ws old a l->∀o∈l,∀q∈l,o=q\/o.at_+1+o.size<=q.at_\/q.at_+1+q.size<=o.at_
 |_,[],_,_,h,_,_=>Z4q
 |a,x::l,h,o,ho,q,hq=>by
  have hs:=Zc.1 h.2.1.shape;have e:=h.1;obtain rfl|ho:=Z4H.1 ho
  ·obtain rfl|hq:=Z4H.1 hq
   ·simp
   ·have:=(Tiles.stands h.2.2 q hq).2;omega
  ·obtain hq|hq:=Z4H.1 hq
   ·have:=(Tiles.stands h.2.2 o ho).2
    grind
   ·exact Tiles.apart h.2.2 o ho q hq
structure RightH (h:Hp) (p:Pts):Prop where
 parts:Yc h=some p
 num:numR h=true
 ok:TP h p=true
 low:Tiles h.low false 0 p.low
 high:Tiles h.high false 0 p.high
 old:Tiles h.old true 0 p.old
 far:Tiles h.far true 0 p.far
def FW{h:Hp}(hr:YC h=true):∃p,RightH h p:=by
 obtain⟨p,h1,h2,h3⟩:=Jm hr;refine⟨p,h1,h3,h2,?_,?_,?_,?_⟩
 all_goals
  clear h3;unfold Yc at h1;dsimp only at h1;split at h1
  ·cases h1
  rename_i c1;split at h1
  ·cases h1
  rename_i c2;cases h1
  have c3:(Zs h.low [] false).2=0/\(Zs h.high [] false).2=0:=by
   refine⟨Z5u λhc=>c1 (.inl hc),Z5u λhc=>c1 (.inr hc)⟩
  have c4:∀x:Int,¬x≠0->x=0:=λx hx=>Z5u hx;have e3:=c4 _ (λhx=>c2 (.inr (.inr (.inl hx))));have e4:=c4 _ (λhx=>c2 (.inr (.inr (.inr hx))))
  first|exact Yo (Z6R rfl c3.1)|exact Yo (Z6R rfl c3.2)|exact Yo (Z6R rfl e3)|exact Yo (Z6R rfl e4)
def RightH.tiles{h:Hp}{p:Pts}(r:RightH h p){k:Int}(hk:1<=k/\k<=4):Tiles (Zd h k) (decide (2<k)) 0 (p.at k):=by
 have:k=1\/k=2\/k=3\/k=4:=Z0;obtain rfl|rfl|rfl|rfl:=this
 ·exact r.low
 ·exact r.high
 ·exact r.old
 ·exact r.far
def RightH.lay{h:Hp}{p:Pts}(r:RightH h p):Zi (layH h)=true:=by
 have:=r.num;simp_all[numR,Z4x]
def refR(l:Ly)(k a:Int):Int:=2*(fstL l k+a)+1
def Sb{l:Ly}(hr:Zi l=true){k a:Int}(ha:0<=a):adr (refR l k a)=(fstL l k+a,0):=by
 have:=Y1 hr k;unfold adr refR
 grind
theorem Sa{l:Ly}(hr:Zi l=true){k a:Int}(hk:1<=k/\k<=4)(ha:0<=a/\a<sizL l k):ZG l k a=(fstL l k+a,0):=by
 simp_all[ZG,if_neg]
theorem ji{l:Ly}(hr:Zi l=true){k a:Int}(hk:1<=k/\k<=4)(ha:0<=a/\a<sizL l k):Hd l (fstL l k+a)=(k,a,0):=by
 have h:=Yv.1 hr;have ht:=IJ hr;unfold Hd inL;rw[if_neg (by simp[hr])];simp only[Z4x,Z4N];have hk4:k=1\/k=2\/k=3\/k=4:=Z0;obtain rfl|rfl|rfl|rfl:=hk4
 ·grind
 ·simp only[fstL,sizL]at ha⊢
  grind
 ·simp only[fstL,sizL]at ha⊢
  grind
 ·simp only[fstL,sizL]at ha⊢
  grind
end Vm
namespace Vm
open Go Go.Proofs
end Vm
namespace Vm
open Go Go.Proofs
def Tc{h:Hp}{ws:List Int}{low:List Ob}:∀(f i:Nat) (acc l:List (Int×Int)),YE h ws low f i acc=some l->∃r,l=acc++r
 |0,_,_,_,he=>by simp[YE]at he
 |f+1,i,acc,l,he=>by
  unfold YE at he;split at he
  ·cases he;exact⟨[],Z1⟩
  ·split at he
   ·split at he
    ·cases he
    ·obtain⟨r,hr⟩:=Tc f _ _ _ he;exact⟨_,by rw[hr,Z5A]⟩
   ·split at he
    ·exact Tc f _ _ _ he
    ·cases he
def Vo{h:Hp}{ws:List Int}{low:List Ob}:∀(f i:Nat) (acc shs:List (Int×Int)),YE h ws low f i acc=some shs->∀(f':Nat) (acc' l:List Ob),Xe ws shs true f' i acc.length acc'=(l,0)->
  ∃r,l=acc'++r/\∀o∈r,o.gone=true->∃q,atR h 1 low o.target=some q/\q.size=o.size/\q.ptrs=o.ptrs
 |0,_,_,_,he=>by simp[YE]at he
 |f+1,i,acc,shs,he=>by
  intro f' acc' l hw;cases f' with
  |zero=>simp[Xe]at hw
  |succ f'=>
   unfold YE at he;unfold Xe at hw;cases hwi:ws[i]? with
   |none=>
    simp_all
   |some w=>
    simp only[hwi]at he hw;by_cases ha:(adr w).2=0
    ·simp only[ha,Z5b]at he;cases hq:atR h 1 low (adr w).1 with
     |none=>simp_all
     |some q=>
      simp only[hq]at he;obtain⟨r,hr⟩:=Tc _ _ _ _ he;have hs:shs[acc.length]?=some (q.size,q.ptrs):=by rw[hr];simp
      unfold objR at hw;rw[if_pos ⟨rfl,ha⟩]at hw;simp only[hs]at hw;by_cases hsh:Zo q.size q.ptrs=true
      ·rw[if_pos hsh]at hw;simp only at hw;split at hw
       ·simp at hw
       split at hw
       ·simp at hw
       have hlen:acc.length+1=(acc++[(q.size,q.ptrs)]).length:=Z1;rw[hlen]at hw;obtain⟨r',h1,h2⟩:=Vo f _ _ _ he _ _ _ hw
       grind
      simp_all
    ·simp only[ha,Z5h]at he;by_cases hu:(unpk w).2.2=0
     ·simp only[hu,Z5b]at he;unfold objR at hw;rw[if_neg (λhc=>ha hc.2),if_pos hu]at hw;simp only at hw;split at hw
      ·simp at hw
      split at hw
      ·simp at hw
      obtain⟨r',h1,h2⟩:=Vo f _ _ _ he _ _ _ hw;simp_all
     simp_all
def RightH.gone_low{h:Hp}{p:Pts}(r:RightH h p){k:Int}(hk:3<=k/\k<=4){o:Ob}(ho:o∈p.at k)(hg:o.gone=true):∃q∈p.low,ZM h 1 q.at_=o.target/\q.size=o.size/\q.ptrs=o.ptrs:=by
 have h1:=r.parts;unfold Yc at h1;dsimp only at h1;split at h1
 ·cases h1
 split at h1
 ·cases h1
 rename_i c2
 have aux:∀(ws:List Int) (x:Option (List (Int×Int))),x=YS h ws (Zs h.low [] false).1->¬x=none->(Zs ws (x.getD []) true).2=0->o∈(Zs ws (x.getD []) true).1->
   ∃q∈(Zs h.low [] false).1,ZM h 1 q.at_=o.target/\q.size=o.size/\q.ptrs=o.ptrs:=by
  intro ws x hx hn h0 ho;cases x with
  |none=>simp_all
  |some shs=>
   simp only[Z4W]at h0 ho;obtain⟨r',e1,e2⟩:=Vo _ _ _ _ hx.symm (ws.length+1) [] (Zs ws shs true).1 (Z6R rfl h0);simp only[Z5G]at e1;rw[e1]at ho;obtain⟨q,hq,hs⟩:=e2 o ho hg;have:=Z7J hq
   grind [M0]
 have e3:¬YS h h.old (Zs h.low [] false).1=none:=λe=>c2 (.inl e);have e4:¬YS h h.far (Zs h.low [] false).1=none:=λe=>c2 (.inr (.inl e));have e5:(Zs h.old ((YS h h.old (Zs h.low [] false).1).getD []) true).2=0:=Z5u λe=>c2 (.inr (.inr (.inl e)));have e6:(Zs h.far ((YS h h.far (Zs h.low [] false).1).getD []) true).2=0:=Z5u λe=>c2 (.inr (.inr (.inr e)));cases h1;have:k=3\/k=4:=Z0;obtain rfl|rfl:=this
 ·exact aux _ _ rfl e3 e5 (by simpa using ho)
 ·exact aux _ _ rfl e4 e6 (by simpa using ho)
def Ip{l:Ly}(hr:Zi l=true){k j a b:Int}(hk:1<=k/\k<=4)(hj:1<=j/\j<=4)(ha:0<=a/\a<sizL l k)(hb:0<=b/\b<sizL l j)(h:refR l k a=refR l j b):k=j/\a=b:=by
 have h1:=ji hr hk ha;have h2:=ji hr hj hb;have:fstL l k+a=fstL l j+b:=by unfold refR at h;omega
 simp_all
def On{u a:Int}(h0:(adr u).2=0)(h:(adr u).1=a):u=2*a+1:=by
 unfold adr at h0 h
 grind
def GZ{u:Int}(h:(unpk u).2.2=0):¬(adr u).2=0:=by
 unfold unpk at h;split at h
 ·rename_i hc;unfold adr
  grind
 grind
end Vm
namespace Vm
open Go Go.Proofs
end Vm
end
section
namespace Vm
open Go Go.Proofs
def Tiles.order{ws:List Int}{old:Bool}:∀ {a:Nat} {l:List Ob},Tiles ws old a l->l.Pairwise λx y=>x.at_<y.at_
 |_,[],_=>.nil
 |a,o::l,h=>by
  have hs:=Zc.1 h.2.1.shape;refine .cons (λx hx=> ?_) (Tiles.order h.2.2);have:=(Tiles.stands h.2.2 x hx).2;have:=h.1;omega
def zg{h:Hp}(hr:Zi (layH h)=true){k:Int}(hk:1<=k/\k<=4){old:Bool}{o:Ob}(hs:Stands (Zd h k) old o):ZM h k o.at_=fstL (layH h) k+o.at_:=by
 have:=Zc.1 hs.shape;have:=hs.fits;have:=hs.nat
 grind [ZM,Sa,WO]
def Dc{h:Hp}(hr:Zi (layH h)=true){k:Int}(hk:1<=k/\k<=4){old:Bool}{o:Ob}(hs:Stands (Zd h k) old o):Hd (layH h) (ZM h k o.at_)=(k,o.at_,0):=by
 have:=Zc.1 hs.shape;have:=hs.fits;have:=hs.nat;rw[zg hr hk hs]
 grind [ji,WO]
def Tiles.starts{h:Hp}(hr:Zi (layH h)=true){k:Int}(hk:1<=k/\k<=4){old:Bool}{l:List Ob}(ht:Tiles (Zd h k) old 0 l):l.Pairwise λx y=>ZM h k x.at_≠ZM h k y.at_:=by
 refine List.Pairwise.imp_of_mem ?_ ht.order;intro x y hx hy hlt;rw[zg hr hk (ht.stands x hx).1,zg hr hk (ht.stands y hy).1];omega
def yM{h:Hp}{a:Int}:∀ {l:List Ob} {m:List (Int×(Int×Int))},(l.Pairwise λx y=>ZM h 1 x.at_≠ZM h 1 y.at_)->getA (ZZ h 1 m l) a=match atR h 1 l a with
  |some o=>some (o.size,o.ptrs)
  |none=>getA m a
 | [],m,_=>rfl
 |o::l,m,hp=>by
  obtain⟨h1,h2⟩:=Z5S.1 hp;rw[ZZ,yM h2];unfold atR;rw[Z7I];cases hf:l.find? (λo=>ZM h 1 o.at_==a)with
  |some q=>
   grind
  |none=>
   simp only[Z5b,Ua]
   grind [ZM,ZG,layH]
def VK{h:Hp}{k:Int}(hk:¬k=1):∀ {l:List Ob} {m:List (Int×(Int×Int))},ZZ h k m l=m
 | [],m=>rfl
 |o::l,m=>by simp_all[ZZ,if_neg,VK]
def VL{h:Hp}{k a:Int}:∀ {l:List Ob} {m:List (Int×Int)},getA (YW h k m l) a=if(atR h k l a).isSome=true then some k else getA m a
 | [],m=>rfl
 |o::l,m=>by
  rw[YW,VL];unfold atR;rw[Z7I,Ua];by_cases he:ZM h k o.at_=a
  ·have he':(ZG (layH h) k o.at_).1=a:=he;have:(ZM h k o.at_==a)=true:=by simpa using he
   simp[this,he']
  ·have he':¬(ZG (layH h) k o.at_).1=a:=he;have:(ZM h k o.at_==a)=false:=by simpa using he
   simp[this,he']
def Tb{lm:List (Int×(Int×Int))}{ws:List Int}:∀(f i:Nat) (acc:List (Int×Int)),∃r,Yn lm ws f i acc=acc++r
 |0,_,acc=>⟨[],by simp[Yn]⟩
 |f+1,i,acc=>by
  rw[Yn];cases ws[i]? with
  |none=>simp
  |some w=>
   simp only;split
   ·split
    ·simp
    ·obtain⟨r,hr⟩:=Tb (lm:=lm) (ws:=ws) f _ _;exact⟨_,by rw[hr,Z5A]⟩
   ·split
    ·exact Tb f _ _
    ·simp
def Uo{lm:List (Int×(Int×Int))}{h:Hp}{low:List Ob}(hlm:∀a,getA lm a=(atR h 1 low a).map λo=>(o.size,o.ptrs)){ws:List Int}:∀(f i:Nat) (acc shs:List (Int×Int)),YE h ws low f i acc=some shs->Yn lm ws f i acc=shs
 |0,_,_,_,he=>by simp[YE]at he
 |f+1,i,acc,shs,he=>by
  rw[YE]at he;rw[Yn];cases hw:ws[i]? with
  |none=>rw[hw]at he;simpa using he
  |some w=>
   rw[hw]at he;simp only at he⊢;by_cases ha:(adr w).2=0
   ·rw[if_pos ha]at he⊢;rw[hlm];cases hq:atR h 1 low (adr w).1 with
    |none=>rw[hq]at he;cases he
    |some o=>rw[hq]at he;exact Uo hlm _ _ _ _ he
   ·rw[if_neg ha]at he⊢;by_cases hu:(unpk w).2.2=0
    ·rw[if_pos hu]at he⊢;exact Uo hlm _ _ _ _ he
    ·rw[if_neg hu]at he;cases he
def Wj{lm:List (Int×(Int×Int))}{h:Hp}{low:List Ob}(hlm:∀a,getA lm a=(atR h 1 low a).map λo=>(o.size,o.ptrs)){ws:List Int}:∀(f i:Nat) (acc:List (Int×Int)),0<f->ws.length<f+i->YE h ws low f i acc=none->
  ∀(f':Nat) (acc':List Ob),(Xe ws (Yn lm ws f i acc) true f' i acc.length acc').2≠0
 |0,_,_,h0,_,_=>Z0
 |f+1,i,acc,h0,hf,he=>by
  intro f' acc';cases f' with
  |zero=>simp[Xe]
  |succ f'=>
   rw[YE]at he;rw[Yn,Xe];cases hw:ws[i]? with
   |none=>simp_all
   |some w=>
    have hlt:=(Z4v.1 hw).1;rw[hw]at he;simp only at he⊢;by_cases ha:(adr w).2=0
    ·rw[if_pos ha]at he⊢;rw[hlm];cases hq:atR h 1 low (adr w).1 with
     |none=>
      simp only[Z6W]
      have:objR acc true i acc.length w=none:=by
       unfold objR;rw[if_pos ⟨rfl,ha⟩];simp
      rw[this];simp
     |some o=>
      rw[hq]at he;simp only[Z4K]at he⊢;obtain⟨r,hr⟩:=Tb (lm:=lm) (ws:=ws) f (i+1+o.size.toNat) (acc++[(o.size,o.ptrs)]);have ih:=Wj hlm f (i+1+o.size.toNat) (acc++[(o.size,o.ptrs)]) Z0 Z0 he f';generalize Yn lm ws f (i+1+o.size.toNat) (acc++[(o.size,o.ptrs)])=shs at*;have hs:shs[acc.length]?=some (o.size,o.ptrs):=by rw[hr];simp
      unfold objR;rw[if_pos ⟨rfl,ha⟩,hs];simp only;by_cases hsh:Zo o.size o.ptrs=true
      ·rw[if_pos hsh];simp only;split
       ·simp
       split
       ·simp
       simp_all
      simp_all
    ·rw[if_neg ha]at he⊢;by_cases hu:(unpk w).2.2=0
     ·rw[if_pos hu]at he⊢;have ih:=Wj hlm f (i+1+(unpk w).1.toNat) acc Z0 Z0 he f';generalize Yn lm ws f (i+1+(unpk w).1.toNat) acc=shs at*;unfold objR
      grind
     simp_all[if_neg,objR]
structure Found (h:Hp) (s:Ck) (p:Pts):Prop where
 hp:s.h=h
 o1:s.o1=p.low
 o2:s.o2=p.high
 o3:s.o3=p.old
 o4:s.o4=p.far
 pm:s.pm=YW h 4 (YW h 3 (YW h 2 (YW h 1 [] p.low) p.high) p.old) p.far
def qS{h:Hp}(hr:Zi (layH h)=true):match Yc h with
  |some p=>(ZW (ZY h)).1=true/\Found h (ZW (ZY h)).2 p
  |none=>(ZW (ZY h)).1=false:=by
 unfold ZW Yc;dsimp only;have s1:Zu (ZY h) 1=Zs h.low [] false:=rfl;rw[Yw,s1];by_cases e1:(Zs h.low [] false).2=0
 case neg=>simp_all
 rw[if_pos e1];have hT:Tiles h.low false 0 (Zs h.low [] false).1:=Yo (ws:=h.low) (shs:=[]) (Z6R rfl e1);generalize (Zs h.low [] false).1=l1 at*;have s2:Zu (XF (ZY h) 1 l1) 2=Zs h.high [] false:=rfl;rw[Yw,s2];by_cases e2:(Zs h.high [] false).2=0
 case neg=>simp_all
 rw[if_pos e2,if_neg Z0];generalize (Zs h.high [] false).1=l2 at*
 have hlm:∀a,getA (ZZ h 1 [] l1) a=(atR h 1 l1 a).map λo=>(o.size,o.ptrs):=by
  intro a;rw[yM (Tiles.starts hr (k:=1) Z0 (by simpa using hT))];cases atR h 1 l1 a<;>rfl
 have hlm2:(XF (XF (ZY h) 1 l1) 2 l2).lm=ZZ h 1 [] l1:=VK Z0
 have s3:Zu (XF (XF (ZY h) 1 l1) 2 l2) 3=Zs h.old (X9 (ZZ h 1 [] l1) h.old) true:=by
  rw[<-hlm2];rfl
 rw[Yw,s3];cases hp:YS h h.old l1 with
 |none=>
  have:=Wj hlm (h.old.length+1) 0 [] Z0 Z0 hp (h.old.length+1) [];have e3:¬(Zs h.old (X9 (ZZ h 1 [] l1) h.old) true).2=0:=this;rw[if_neg e3,if_pos (.inl rfl)]
 |some shs=>
 have hs3:X9 (ZZ h 1 [] l1) h.old=shs:=Uo hlm _ _ _ _ hp;rw[hs3];simp only[Z4W];by_cases e3:(Zs h.old shs true).2=0
 case neg=>simp_all
 rw[if_pos e3];generalize (Zs h.old shs true).1=l3 at*
 have hlm3:(XF (XF (XF (ZY h) 1 l1) 2 l2) 3 l3).lm=ZZ h 1 [] l1:=by
  rw[<-hlm2];exact VK Z0
 have s4:Zu (XF (XF (XF (ZY h) 1 l1) 2 l2) 3 l3) 4=Zs h.far (X9 (ZZ h 1 [] l1) h.far) true:=by
  rw[<-hlm3];rfl
 rw[Yw,s4];cases hq:YS h h.far l1 with
 |none=>
  have:=Wj hlm (h.far.length+1) 0 [] Z0 Z0 hq (h.far.length+1) [];have e4:¬(Zs h.far (X9 (ZZ h 1 [] l1) h.far) true).2=0:=this;rw[if_neg e4,if_pos (.inr (.inl rfl))]
 |some shs'=>
 have hs4:X9 (ZZ h 1 [] l1) h.far=shs':=Uo hlm _ _ _ _ hq;rw[hs4];simp only[Z4W];by_cases e4:(Zs h.far shs' true).2=0
 case neg=>simp_all
 rw[if_pos e4,if_neg Z3L];generalize (Zs h.far shs' true).1=l4 at*;exact⟨rfl,rfl,rfl,rfl,rfl,rfl,rfl⟩
end Vm
namespace Vm
open Go Go.Proofs
def UY{h:Hp}{p:Pts}(h1:Yc h=some p){k:Int}(hk:1<=k/\k<=4):Tiles (Zd h k) (decide (2<k)) 0 (p.at k):=by
 have:k=1\/k=2\/k=3\/k=4:=Z0;unfold Yc at h1;dsimp only at h1;split at h1
 ·cases h1
 rename_i c1;split at h1
 ·cases h1
 rename_i c2;cases h1
 have c3:(Zs h.low [] false).2=0/\(Zs h.high [] false).2=0:=by
  refine⟨Z5u λhc=>c1 (.inl hc),Z5u λhc=>c1 (.inr hc)⟩
 have c4:∀x:Int,¬x≠0->x=0:=λx hx=>Z5u hx;have e3:=c4 _ (λhx=>c2 (.inr (.inr (.inl hx))));have e4:=c4 _ (λhx=>c2 (.inr (.inr (.inr hx))));obtain rfl|rfl|rfl|rfl:=this
 ·exact Yo (Z6R rfl c3.1)
 ·exact Yo (Z6R rfl c3.2)
 ·exact Yo (Z6R rfl e3)
 ·exact Yo (Z6R rfl e4)
def JX{h:Hp}{p:Pts}(h1:Yc h=some p){k:Int}(hk:3<=k/\k<=4){o:Ob}(ho:o∈p.at k)(hg:o.gone=true):∃q∈p.low,ZM h 1 q.at_=o.target/\q.size=o.size/\q.ptrs=o.ptrs:=by
 unfold Yc at h1;dsimp only at h1;split at h1
 ·cases h1
 split at h1
 ·cases h1
 rename_i c2
 have aux:∀(ws:List Int) (x:Option (List (Int×Int))),x=YS h ws (Zs h.low [] false).1->¬x=none->(Zs ws (x.getD []) true).2=0->o∈(Zs ws (x.getD []) true).1->
   ∃q∈(Zs h.low [] false).1,ZM h 1 q.at_=o.target/\q.size=o.size/\q.ptrs=o.ptrs:=by
  intro ws x hx hn h0 ho;cases x with
  |none=>simp_all
  |some shs=>
   simp only[Z4W]at h0 ho;obtain⟨r',e1,e2⟩:=Vo _ _ _ _ hx.symm (ws.length+1) [] (Zs ws shs true).1 (Z6R rfl h0);simp only[Z5G]at e1;rw[e1]at ho;obtain⟨q,hq,hs⟩:=e2 o ho hg;have:=Z7J hq
   grind [M0]
 have e3:¬YS h h.old (Zs h.low [] false).1=none:=λe=>c2 (.inl e);have e4:¬YS h h.far (Zs h.low [] false).1=none:=λe=>c2 (.inr (.inl e));have e5:(Zs h.old ((YS h h.old (Zs h.low [] false).1).getD []) true).2=0:=Z5u λe=>c2 (.inr (.inr (.inl e)));have e6:(Zs h.far ((YS h h.far (Zs h.low [] false).1).getD []) true).2=0:=Z5u λe=>c2 (.inr (.inr (.inr e)));cases h1;have:k=3\/k=4:=Z0;obtain rfl|rfl:=this
 ·exact aux _ _ rfl e3 e5 (by simpa using ho)
 ·exact aux _ _ rfl e4 e6 (by simpa using ho)
theorem MM{h:Hp}(hr:Zi (layH h)=true){p:Pts}(hp:Yc h=some p){k:Int}(hk:1<=k/\k<=4){a:Int}(hi:(atR h k (p.at k) a).isSome=true):∃b,Hd (layH h) a=(k,b,0):=by
 obtain⟨o,ho⟩:=Z5y.1 hi;have h1:=Z75 ho;have h2:ZM h k o.at_=a:=by have:=Z7J ho;simpa using this
 rw[<-h2];exact⟨_,Dc hr hk ((UY hp hk).stands o h1).1⟩
def M2{h:Hp}(hr:Zi (layH h)=true){p:Pts}(hp:Yc h=some p){k j:Int}(hk:1<=k/\k<=4)(hj:1<=j/\j<=4)(hn:k≠j){a:Int}(hi:(atR h k (p.at k) a).isSome=true):(atR h j (p.at j) a).isSome=false:=by
 grind [atR,MM,Prod.mk.injEq]
section
variable {h:Hp}{s:Ck}{p:Pts}
theorem Found.obs(hf:Found h s p){k:Int}:s.obs k=p.at k:=by
 unfold Ck.obs Pts.at;rw[hf.o1,hf.o2,hf.o3,hf.o4]
def Found.pm_at(hf:Found h s p)(a:Int):getA s.pm a=if(atR h 4 (p.at 4) a).isSome=true then some 4 else if(atR h 3 (p.at 3) a).isSome=true then some 3 else if(atR h 2 (p.at 2) a).isSome=true then some 2 else if(atR h 1 (p.at 1) a).isSome=true then some 1 else none:=by
 rw[hf.pm,VL,VL,VL,VL];rfl
def Found.points(hf:Found h s p)(hr:Zi (layH h)=true)(hp:Yc h=some p)(w:Int):Zt s w 1 2=Xr h p w 1 2/\Zt s w 3 4=Xr h p w 3 4/\Zt s w 1 4=(Xr h p w 1 2||Xr h p w 3 4):=by
 unfold Zt Xr;by_cases h0:w=0
 ·simp[h0]
 by_cases h1:(adr w).2=0
 case neg=>grind
 simp only[h0,h1,Z8F,Z7L,Z6X,Z85];rw[hf.pm_at];generalize (adr w).1=a;have o:=λk j hk hj hn=>M2 (k:=k) (j:=j) hr hp hk hj hn (a:=a);have o43:=o 4 3 Z0 Z0 Z0;have o42:=o 4 2 Z0 Z0 Z0;have o41:=o 4 1 Z0 Z0 Z0;have o32:=o 3 2 Z0 Z0 Z0;have o31:=o 3 1 Z0 Z0 Z0;have o21:=o 2 1 Z0 Z0 Z0;clear o;generalize (atR h 1 (p.at 1) a).isSome=b1 at*;generalize (atR h 2 (p.at 2) a).isSome=b2 at*;generalize (atR h 3 (p.at 3) a).isSome=b3 at*;generalize (atR h 4 (p.at 4) a).isSome=b4 at*;cases b1<;>cases b2<;>cases b3<;>cases b4<;>simp_all
end
end Vm
namespace Vm
open Go Go.Proofs
def tgS(l:List Ob):List Int:=(l.filter (·.gone)).map (·.target)
def Ii{α:Type}{l:List (Int×α)}{k:Int}{x:α}(h:getA l k=none):(putA l k x).length=l.length+1:=by
 grind [getA,Option.map_eq_none_iff,List.findIdx?_eq_none_iff,List.find?_eq_none,putA]
def Tm{pm:List (Int×Int)}:∀ {l:List Ob} {m:List (Int×Bool)} {K:List Int},K.Nodup->(∀a,getA m a=if a∈K then some true else none)->m.length=K.length->
  match copQ pm l m with
  |some m'=>(∀t∈tgS l,(getA pm t).getD 0=1)/\(K++tgS l).Nodup/\m'.length=(K++tgS l).length/\∀a,getA m' a=if a∈K++tgS l then some true else none
  |none=>¬((∀t∈tgS l,(getA pm t).getD 0=1)/\(K++tgS l).Nodup)
 | [],m,K,hK,hm,hl=>by simp only[copQ,tgS,List.filter_nil,Z6a,Z5Z];exact⟨Z1,hK,hl,hm⟩
 |o::l,m,K,hK,hm,hl=>by
  rw[copQ];cases hg:o.gone with
  |false=>
   rw[if_neg Z1];have:tgS (o::l)=tgS l:=by simp[tgS,hg]
   rw[this];exact Tm hK hm hl
  |true=>
   rw[if_pos rfl];have ht:tgS (o::l)=o.target::tgS l:=by simp[tgS,hg]
   rw[ht];by_cases h1:(getA pm o.target).getD 0=1
   ·by_cases h2:o.target∈K
    ·rw[if_neg (by rw[hm,if_pos h2];simp)];rintro⟨_,hn⟩;exact(Z7n.1 hn).2.2 _ h2 _ (Z58 ..) rfl
    ·have hno:getA m o.target=none:=by rw[hm,if_neg h2]
     rw[if_pos ⟨h1,by rw[hno];rfl⟩]
     have ih:=Tm (pm:=pm) (l:=l) (m:=putA m o.target true) (K:=K++[o.target]) (by
       rw[Z7n];refine⟨hK,Z1,λa ha b hb=> ?_⟩;simp at hb;subst hb;intro e;subst e;exact h2 ha) (λa=>by
       rw[Ua,hm];by_cases e:o.target=a
       ·simp[e]
       ·have e':¬a=o.target:=λx=>e x.symm;simp[e,e']) (by rw[Ii hno,hl];simp)
     rw[Z5A,Z7t]at ih;cases hc:copQ pm l (putA m o.target true)with
     |none=>
      rw[hc]at ih;rintro⟨q1,q2⟩;exact ih ⟨λt ht=>q1 t (Z53 _ ht),q2⟩
     |some m'=>
      rw[hc]at ih;refine⟨λt ht=> ?_,ih.2⟩;obtain rfl|ht:=Z4H.1 ht
      ·exact h1
      ·exact ih.1 t ht
   ·rw[if_neg (λhc=>h1 hc.1)];rintro⟨q1,_⟩;exact h1 (q1 _ (Z58 ..))
def qL{l:List Ob}{a:Int}:tgL l a=(tgS l).count a:=by
 unfold tgL tgS
 induction l with
 |nil=>rfl
 |cons o l ih=>
  grind
def I7{T S:List Int}(hS:S.Nodup)(hTS:T⊆S):(T.Nodup/\T.length=S.length)↔ ∀a∈S,T.count a=1:=by
 constructor
 ·rintro⟨hT,hl⟩ a ha;rw[hT.count];by_cases hm:a∈T
  ·grind
  ·have h1:T⊆S.erase a:=λx hx=>(hS.mem_erase_iff).2 ⟨λe=>hm (e▸hx),hTS hx⟩;have h2:=hT.length_le_of_subset h1
   grind
 ·intro h
  have hT:T.Nodup:=List.nodup_iff_count.2 λa=>by
   grind
  refine⟨hT,Nat.le_antisymm (hT.length_le_of_subset hTS) (hS.length_le_of_subset λa ha=> ?_)⟩
  grind
section
variable {h:Hp}{s:Ck}{p:Pts}
def Found.copied(hf:Found h s p)(hr:Zi (layH h)=true)(hp:Yc h=some p):WV s=(!h.cycle||p.low.all (tgOk h p)):=by
 have hT:=UY hp (k:=1) Z0
 have hS:(p.low.map λo=>ZM h 1 o.at_).Nodup:=by
  have:=Tiles.starts hr (k:=1) Z0 hT;rw[List.nodup_iff_pairwise_ne,List.pairwise_map];exact this
 have hin:∀t∈tgS s.o3++tgS s.o4,t∈p.low.map λo=>ZM h 1 o.at_:=by
  intro t ht
  have:∃k,(3<=k/\k<=4)/\t∈tgS (p.at k):=by
   obtain ht|ht:=Z4R.1 ht
   ·exact⟨3,Z0,by rw[hf.o3]at ht;exact ht⟩
   ·exact⟨4,Z0,by rw[hf.o4]at ht;exact ht⟩
  obtain⟨k,hk,ht⟩:=this;simp only[tgS,Z4I,Z7h]at ht;obtain⟨o,⟨ho,hg⟩,rfl⟩:=ht;obtain⟨q,hq,he,_⟩:=JX hp hk ho hg;exact Z4I.2 ⟨q,hq,he⟩
 have hpm:∀t∈tgS s.o3++tgS s.o4,(getA s.pm t).getD 0=1:=by
  intro t ht;obtain⟨q,hq,he⟩:=Z4I.1 (hin t ht)
  have h1:(atR h 1 (p.at 1) t).isSome=true:=by
   unfold atR;rw[List.find?_isSome];exact⟨q,hq,Z3L⟩
  have o:=λk hk hn=>M2 (k:=1) (j:=k) hr hp Z0 hk hn h1;rw[hf.pm_at,o 4 Z0 Z0,o 3 Z0 Z0,o 2 Z0 Z0,h1];rfl
 unfold WV;rw[hf.hp];cases hc:h.cycle
 ·rfl
 simp only[Z7d,Z6X];have key:=I7 hS (T:=tgS s.o3++tgS s.o4) hin
 have hall:p.low.all (tgOk h p)=true↔ ∀a∈(p.low.map λo=>ZM h 1 o.at_),(tgS s.o3++tgS s.o4).count a=1:=by
  rw[Z4D];constructor
  ·intro hx a ha;obtain⟨o,ho,rfl⟩:=Z4I.1 ha;have:=hx o ho;simp only[tgOk,Z4N,Gs,qL]at this;rw[List.count_append,hf.o3,hf.o4];exact this
  ·intro hx o ho;have:=hx _ (Z4I.2 ⟨o,ho,rfl⟩);rw[List.count_append,hf.o3,hf.o4]at this;simp_all[tgOk,Z4N,Gs,qL]
 rw[Z56]at key;have c1:=Tm (pm:=s.pm) (l:=s.o3) (m:=[]) (K:=[]) Z1 (by simp[getA]) rfl;simp only[Z5G]at c1;rw[Z8l,hall,<-key];cases h1:copQ s.pm s.o3 []with
 |none=>
  grind
 |some m=>
  rw[h1]at c1;obtain⟨q1,q2,q3,q4⟩:=c1;simp only[Z4E];have c2:=Tm (pm:=s.pm) (l:=s.o4) (m:=m) (K:=tgS s.o3) q2 q4 q3;cases h2:copQ s.pm s.o4 m with
  |none=>
   simp_all
  |some m'=>
   rw[h2]at c2;obtain⟨r1,r2,r3,r4⟩:=c2;simp only[Z4N,r3,hf.o1];simp_all
end
end Vm
namespace Vm
open Go Go.Proofs
def L0:∀ {l:List Int} {ptrs:Int} {i:Nat},ZO l true ptrs i=true->∀w∈l,w=0
 | [],_,_,_,w,hw=>by simp at hw
 |x::l,ptrs,i,h,w,hw=>by
  simp only[ZO,Z4x,Z7d,Z6X,Z4N]at h;obtain rfl|hw:=Z4H.1 hw
  ·exact h.1.1
  ·exact L0 h.2 w hw
def VT{s:Ck}{k:Int}{q:Int->Int->Bool}:Vq s k q=true↔ ∀o∈s.obs k,o.gone=false->∀j,j<o.ptrs.toNat->q ((o.at_.toNat+1+j:Nat):Int) (Wo (Zd s.h k) (o.at_.toNat+1+j))=true:=by
 unfold Vq obQ
 grind
def FP{h:Hp}{p:Pts}(hp:Yc h=some p){k:Int}(hk:1<=k/\k<=4):WK h p k=true↔ ∀o∈p.at k,o.gone=false->∀j,j<o.ptrs.toNat->SK h p k (o.at_.toNat+1+j)=true:=by
 unfold WK Bl;rw[Z4D];constructor
 ·simp_all
 ·intro h' o ho;rw[Z4D];intro j hj;have hj:=Z6x.1 hj;cases hg:o.gone
  ·simp_all
  ·have hs:=((UY hp hk).stands o ho).1;have hsh:=Zc.1 hs.shape;have h1:=hs.slots;rw[hg]at h1;have hz:=L0 h1;have hfit:=hs.fits;have hnat:=hs.nat;have hlt:o.at_.toNat+1+j< (Zd h k).length:=Z0
   have hw:(Zd h k)[o.at_.toNat+1+j]?=some 0:=by
    rw[Z4u hlt];refine Z5J some (hz _ ?_);rw[Z7s];refine⟨j,?_⟩;rw[Z55,if_pos Z0,Z5d,Z4u hlt]
   grind [Xr,SK]
section
variable {h:Hp}{s:Ck}{p:Pts}
def Found.ptrs(hf:Found h s p)(hr:Zi (layH h)=true)(hp:Yc h=some p):(Vn s&&(Xm s&&jL s))=(h.roots.all (λw=>Xr h p w 1 2)&&WK h p 1&&WK h p 2&&WK h p 3&&WK h p 4):=by
 have hpt:=hf.points hr hp
 have hroots:s.h.roots.all (λw=>Zt s w 1 2)=h.roots.all (λw=>Xr h p w 1 2):=by
  rw[hf.hp];congr 1;funext w;exact(hpt w).1
 have hob:=λk=>hf.obs (k:=k)
 have hpk:∀(k:Int) (q:Nat->Int->Bool) (hk:1<=k/\k<=4),(∀a,SK h p k a=q a (Wo (Zd h k) a))->(WK h p k=true↔ ∀o∈p.at k,o.gone=false->∀j,j<o.ptrs.toNat->q (o.at_.toNat+1+j) (Wo (Zd h k) (o.at_.toNat+1+j))=true):=by
  intro k q hk hq;rw[FP hp hk];simp only[hq]
 have p2:=hpk 2 (λ_ w=>Xr h p w 1 2) Z0 (λa=>by simp[SK,Wo]);have p3:=hpk 3 (λ_ w=>Xr h p w 3 4) Z0 (λa=>by simp[SK,Wo]);have p4:=hpk 4 (λ_ w=>Xr h p w 3 4) Z0 (λa=>by simp[SK,Wo]);have p1:=hpk 1 (λa w=>if h.scan<=a then Xr h p w 1 2||Xr h p w 3 4 else Xr h p w 1 2) Z0 (λa=>by simp[SK,Wo])
 have q2:Vq s 2 (λ_ w=>Zt s w 1 2)=true↔WK h p 2=true:=by
  rw[p2,VT,hob,hf.hp];simp only[(hpt _).1]
 have q3:Vq s 3 (λ_ w=>Zt s w 3 4)=true↔WK h p 3=true:=by
  rw[p3,VT,hob,hf.hp];simp only[(hpt _).2.1]
 have q4:Vq s 4 (λ_ w=>Zt s w 3 4)=true↔WK h p 4=true:=by
  rw[p4,VT,hob,hf.hp];simp only[(hpt _).2.1]
 have q1:(Vq s 1 (λa w=>decide (s.h.scan<=a)||Zt s w 1 2)=true/\Vq s 1 (λa w=>decide (a<s.h.scan)||Zt s w 1 4)=true)↔WK h p 1=true:=by
  rw[p1,VT,VT,hob,hf.hp];simp only[(hpt _).1,(hpt _).2.2];constructor
  ·rintro⟨ha,hb⟩ o ho hg j hj;have ha:=ha o ho hg j hj;have hb:=hb o ho hg j hj;generalize o.at_.toNat+1+j=n at*;by_cases hs:h.scan<=(n:Int)
   ·have:¬(n:Int)<h.scan:=Z0;simpa[hs,this]using hb
   ·simpa[hs]using ha
  ·intro hx;refine⟨λo ho hg j hj=> ?_,λo ho hg j hj=> ?_⟩
   ·have hx:=hx o ho hg j hj;generalize o.at_.toNat+1+j=n at*;by_cases hs:h.scan<=(n:Int)
    ·simp[hs]
    ·simpa[hs]using hx
   ·have hx:=hx o ho hg j hj;generalize o.at_.toNat+1+j=n at*;by_cases hs:h.scan<=(n:Int)
    ·have:¬(n:Int)<h.scan:=Z0;simpa[hs,this]using hx
    ·have:(n:Int)<h.scan:=Z0;simp[this]
 unfold Vn Xm jL;rw[hroots,Z8l];simp only[Z4x];rw[q2,q3,q4,<-q1];constructor
 ·rintro⟨⟨a,b,c⟩,d,e,f⟩;exact⟨⟨⟨⟨a,c,d⟩,b⟩,e⟩,f⟩
 ·rintro⟨⟨⟨⟨a,c,d⟩,b⟩,e⟩,f⟩;exact⟨⟨a,b,c⟩,d,e,f⟩
def Found.roomy(hf:Found h s p):Jn s=decide ((h.low.length:Int)+h.high.length+IQ p<=h.cap):=by
 unfold Jn AB IQ;rw[hf.hp,hf.o3,hf.o4]
end
def r9(h:Hp):numR h=(We (ZY h)&&Vj (ZY h)):=by
 grind [numR,We,Vj,ZY,Zi,layH]
def KJ(h:Hp):(QT h).isSome=YC h/\∀s,QT h=some s->∃p,Yc h=some p/\Found h s p:=by
 have hl:QT h=(if We (ZY h)=true then if Vj (ZY h)=true then if(ZW (ZY h)).1=true then
   if WV (ZW (ZY h)).2=true then if Vn (ZW (ZY h)).2=true then if Xm (ZW (ZY h)).2=true then if jL (ZW (ZY h)).2=true then if Jn (ZW (ZY h)).2=true then
    some (ZW (ZY h)).2 else none else none else none else none else none else none else none else none):=rfl
 have hn:=r9 h;unfold YC;rw[hn];cases hb:We (ZY h)
 ·simp_all
 have hr:Zi (layH h)=true:=by
  unfold We at hb;simp only[Z4x]at hb;exact hb.1
 cases hre:Vj (ZY h)
 ·simp_all
 have hw:=qS hr;cases hp:Yc h with
 |none=>
  simp_all
 |some p=>
  rw[hp]at hw;obtain⟨h1,hf⟩:=hw;rw[hb,hre,h1]at hl;simp only[Z5b]at hl;generalize (ZW (ZY h)).2=s at*;have e1:=hf.copied hr hp;have e2:=hf.ptrs hr hp;have e3:=hf.roomy
  have e4:TP h p=(WV s&&((Vn s&&(Xm s&&jL s))&&Jn s)):=by
   rw[e1,e2,e3];unfold TP;simp only[Bool.and_assoc]
  grind
def F3(h:Hp)(k:Int):Fl h k=Uz h k:=by
 obtain⟨h1,h2⟩:=KJ h;unfold Fl Uz;cases hl:QT h with
 |none=>
  simp_all
 |some s=>
  rw[hl]at h1;have h1':YC h=true:=h1.symm;obtain⟨p,hp,hf⟩:=h2 s hl;simp only[h1',true_and,hp,Z4W,hf.obs]
end Vm
end
section
namespace Vm
open Go Go.Proofs Go.RowKit
section
def SeqP{α:Type}(F:Fence)(n:Nat)(P:Program)(g:Nat)(lb:Array Value)(encs:α->Array Value)(Kp:World->World->Prop)(S:List α->World->Prop)(Pp:List PanicEntry->List α->World->Prop)(N:Nat)(bt:Option Nat)(Ex:World->Prop)(w:World):Prop:=
 ∀(l:Nat) (J:List α->World->Prop) (W:World),Below w.heap.size w W->(∀pre W,J pre W->Ex W)->(∀s A B row,J s A->A.grownBy B row->(∀r,row=some r->some r=bt)->J s B)->
  (∀pre x W1,J pre W1->pre.length<N->YieldAt F (n-1) P l (encs x) W1 λe W'=>e=.returned (.bool true)/\J (pre++[x]) W'/\Kp W1 W')->
  J [] W->
  CallsIn F n P g (#[.func (.yield l) #[] #[]]++lb) W λe W'=>(∃v xs,e=.returned v/\S xs W'/\J xs W')\/(∃chain pre,e=.panicked chain/\Pp chain pre W'/\J pre W')
def Z2o{α:Type}(B:Nat)(Kp:World->World->Prop)(I:List α->World->Prop)(xs:List α)(W:World):Exit->Act->World->Prop
 |.normal,_,W'=>KeepsFrom B W W'/\Kp W W'/\I xs W'
 |_,_,_=>False
def OwnP{β:Type}(bt:Option Nat)(B:Nat)(I:β->World->Prop):Prop:=
 ∀s X Y row,I s X->X.grownBy Y row->(∀r,row=some r->some r=bt\/(B<=r/\∃o:Obj,X.heap[r]?=some o/\o.isCells=false))->I s Y
def OwnP.putObj{β:Type}{bt:Option Nat}{B:Nat}{I:β->World->Prop}(h:OwnP bt B I){s:β}{W:World}{l:Nat}{o:Obj}(o':Obj)(hs:I s W)(hB:B<=l)(hl:W.heap[l]?=some o)(ho:o.isCells=false):I s (W.putObj l o'):=
 h s W _ (some l) hs (Z7H W l o') (λr e=>Z3M)
def OwnP.alloc{β:Type}{bt:Option Nat}{B:Nat}{I:β->World->Prop}(h:OwnP bt B I){s:β}{W:World}(o:Obj)(hs:I s W):I s (W.alloc o):=
 h s W _ none hs (Z5U W o none) (λr e=>by cases e)
variable {F:Fence}{n:Nat}{P:Program}
def RH{α:Type}{g:Operand}{ps:Array Tmp}{assign body:Code}{Q:Exit->Act->World->Prop}{a:Act}{w:World}
  (hro:F.round=none) (h1:1<=n) {gf:Nat} {lb:Array Value} (hg:a.eval g=.func (.func gf) #[] lb) (hFg:F.fn gf) (eg:∀args w,(callFunc gf args).run P w=.ok (.enter gf args) w)
  {encs:α->Array Value} {Kp:World->World->Prop} {S:List α->World->Prop} {Pp:List PanicEntry->List α->World->Prop} {N:Nat} {bt:Option Nat} {Ex:World->Prop} {w0:World} (hseq:SeqP F (n-1) P gf lb encs Kp S Pp N bt Ex w0)
  (hbt:∀r,bt=some r->r<w.heap.size)
  (hKt:∀ {A B C:World},Kp A B->Kp B C->Kp A C) (hKb:∀(W:World) (l:Nat) (o o':Obj),w.heap.size<=l->W.heap[l]?=some o->o.isCells=false->o.isWalk=false->Kp W (W.putObj l o')) (hb0:Below w0.heap.size w0 w) (hps:∀x,(encs x).size=ps.size)
  (I:List α->World->Prop) (hI:OwnP bt w.heap.size I) (hEx:∀pre W,I pre W->Ex W) (h0:I [] w) (hS:OwnP none w.heap.size S) (Ax:α->Act->World->Prop) (hAx:∀x a',OwnP none w.heap.size (λ(_:Unit) W=>Ax x a' W))
  (hassign:∀(l:Nat) (pre:List α) (x:α) (W:World) (K:Act->World->Prop),I pre W->(∀a' W',KeepsFrom w.heap.size W W'->Kp W W'->I pre W'->Ax x a' W'->K a' W')->
   assign.wpIn (F.inRound l) (n-1-1) P (Exit.then K (λ_ _ _=>False)) {tmps:=(ps.zip (encs x)).foldl (λt (p,v)=>t.setIfInBounds p v) a.tmps,defers:=[]} W)
  (hbody:∀(l:Nat) (pre:List α) (x:α) (a':Act) (W:World),I pre W->Ax x a' W->pre.length<N->body.wpIn (F.inRound l) (n-1-1) P (Z2o w.heap.size Kp I (pre++[x]) W) a' W)
  (hdone:∀(D:Nat) (xs:List α) (W:World),w.heap.size<=D->S xs W->I xs W->W.heap[D]?=some (.deferred (some []))->Q .normal {a with defers:= {target:=.collected D,args:=#[]}::a.defers} W)
  (hpanic:∀(D:Nat) (chain:List PanicEntry) (pre:List α) (W:World),w.heap.size<=D->Pp chain pre W->I pre W->W.heap[D]?=some (.deferred (some []))->Q (.panic chain) {a with defers:= {target:=.collected D,args:=#[]}::a.defers} W):
  (Code.rangeFunc g ps assign body).wpIn F n P Q a w:=by
 refine wpIn_rangeFunc λfn hfn=> ?_;rw[hro];obtain⟨rec,hrec⟩:∃rec:LoopState->Option Code->Loop,rec=λst pe=> {state:=st,pending:=pe,fn,tmps:=a.tmps,params:=ps,assign,body,defers:=w.heap.size}:=⟨_,rfl⟩;obtain⟨W1,hW1⟩:∃W1,(w.alloc (.deferred (some []))).alloc (.loop (rec .ready none))=W1:=⟨_,rfl⟩
 have hL1:W1.heap[w.heap.size+1]?=some (.loop (rec .ready none)):=by
  have:=World.alloc_heap_new (w.alloc (.deferred (some []))) (.loop (rec .ready none));rw[World.size_alloc]at this;rw[<-hW1];exact this
 have hK1:W1.heap[w.heap.size]?=some (.deferred (some [])):=by
  rw[<-hW1];exact(Z4U _ _ _ Z1).trans (World.alloc_heap_new w _)
 have hb1:Below w0.heap.size w0 W1:=by
  rw[<-hW1];exact hb0.trans ((((Z5i _ w).alloc (Z4A _) _).alloc Z1 _).mono hb0.size)
 refine⟨w.heap.size+1,[{target:=.collected w.heap.size,args:=#[]}],W1,{target:=.fn (.func gf) lb,args:=#[.func (.yield (w.heap.size+1)) #[] #[]]},W1,gf,
  #[.func (.yield (w.heap.size+1)) #[] #[]]++lb,W1,?_,?_,?_,?_,λ_=>h1,?_⟩
 ·simp_all[run_enterLoop_outer]
 ·simp only[resolve,hg];simp[go_sem]
 ·simp_all[Target.leads]
 ·simp_all[invoke]
 have hrow:∀ {A B:World} {row:Option Nat} {k:Nat} {o:Obj},A.grownBy B row->(∀r,row=some r->some r=bt)->w.heap.size<=k->A.heap[k]?=some o->B.heap[k]?=some o:=by
  intro A B row k o hgr hr hk ho;refine(hgr.block k (Z4z.1 ho).1 λe=> ?_).trans ho;have:=hbt k (hr k e.symm).symm;omega
 refine(hseq (w.heap.size+1) (λpre W=>I pre W/\W.heap[w.heap.size+1]?=some (.loop (rec .ready none))/\W.heap[w.heap.size]?=some (.deferred (some []))) W1 hb1 (λpre W h=>hEx pre W h.1)
  (λs A B row hs hgr hr=>⟨hI s A B row hs.1 hgr (λr e=>.inl (hr r e)),hrow hgr hr Z0 hs.2.1,hrow hgr hr (Z4A _) hs.2.2⟩) ?_ ⟨by rw[<-hW1];exact hI.alloc _ (hI.alloc _ h0),hL1,hK1⟩).mono ?_
 ·rintro pre x W ⟨hi,hl,hk⟩ hlen;have hy:=run_yield (P:=P) (args:=encs x) hl Z3M;rw[hrec]at hy;refine⟨fn,_,assign,body,hy,roundIn_of_wpIn hfn (hassign _ pre x W _ hi ?_)⟩;intro a' V hkf hkp hiV hax;have hlV:=hkf.same _ _ Z0 hl rfl;have hkV:=hkf.same _ _ (Z4A _) hk rfl;have hlt:w.heap.size+1<V.heap.size:=(Z4z.1 hlV).1;refine⟨_,run_beginRound hlV (by rw[hrec]),?_⟩;have hl2:(V.putObj (w.heap.size+1) (.loop {rec .ready none with state:=.busy})).heap[w.heap.size+1]?=some (.loop {rec .ready none with state:=.busy}):=World.putObj_heap_same hlt;have hk2:(V.putObj (w.heap.size+1) (.loop {rec .ready none with state:=.busy})).heap[w.heap.size]?=some (.deferred (some [])):=(Z5E Z0).trans hkV;have hp2:Kp V (V.putObj (w.heap.size+1) (.loop {rec .ready none with state:=.busy})):=hKb _ _ _ _ Z0 hlV rfl rfl;refine wpIn_mono (hbody _ pre x a' _ (hI.putObj _ hiV Z0 hlV rfl) ((hAx x a').putObj (s:=()) _ hax Z0 hlV rfl) hlen) ?_;rintro e a3 W3 hp;cases e with
  |normal=>
   obtain⟨hk3,hkp3,hi3⟩:=hp;have hl3:=hk3.same _ _ Z0 hl2 rfl;have hd3:=hk3.same _ _ (Z4A _) hk2 rfl;have hend:=run_endRound (P:=P) none hl3;refine⟨_,_,hend,rfl,⟨hI.putObj _ hi3 Z0 hl3 rfl,?_,(Z5E Z0).trans hd3⟩,hKt hkp (hKt (hKt hp2 hkp3) (hKb _ _ _ _ Z0 hl3 rfl rfl))⟩
   grind [World.putObj_heap_same,Array.getElem?_eq_some_iff]
  |ret=>exact hp.elim
  |exit id=>exact hp.elim
  |goto t=>exact hp.elim
  |panic ch=>exact hp.elim
  |outgrown=>exact hp.elim
 ·rintro e W2 (⟨v,xs,rfl,hs,hi,hl,hk⟩|⟨chain,pre,rfl,hp,hi,hl,hk⟩)
  ·have hend:=run_endLoop (P:=P) hl Z3M;rw[hrec]at hend;exact⟨none,_,hend,hdone _ xs _ (Z4A _) (hS.putObj _ hs Z0 hl rfl) (hI.putObj _ hi Z0 hl rfl) ((Z5E Z0).trans hk)⟩
  ·exact hpanic _ chain pre _ (Z4A _) hp hi hk
end
end Vm
end
section
namespace Vm
open Go
open Go.Proofs
def p135:Fn:=⟨4,[0,2,3,4],
pQ [pR [pV 1 pF],pC [pK 4 44 [.s 0]] [pV 2 (.ext (.s 4) 0),pV 3 (.ext (.s 4) 1)],.reg ⟨[.lt 5 [] (.bin .eql (.s 0) (pU 0))],[([(5,false)],.bin .eql (.s 3) (pI 0))],[pV 1 (.ite (.s 5) pT (.bin .eql (.s 3) (pI 0)))]⟩] .ret,[(1,.v)]⟩
def c135:Zf Sol.prog fresh sig [.fz] [] Try.f135=some p135:=Z2
end Vm
end
section
namespace Vm
open Go Go.Proofs Go.RowKit
section
structure Dr (w w':World):Prop where
 heap:w'.heap=w.heap
 os:w'.os=w.os
 tape:w'.tape=w.tape
 output:w'.output=w.output
def Dr.refl(w:World):Dr w w:=⟨rfl,rfl,rfl,rfl⟩
def Dr.drew{w w':World}(h:Dr w w'):Dr w w'.drew:=⟨h.heap,h.os,h.tape,h.output⟩
def Dr.cell{w w':World}(h:Dr w w')(p:Addr):w'.cell? p=w.cell? p:=by unfold World.cell?;rw[h.heap]
def Dr.frozen{w w':World}(h:Dr w w')(p:Addr):w'.frozen? p=w.frozen? p:=by unfold World.frozen?;rw[h.heap]
def Wrote(w:World)(p:Addr)(x:Value)(w':World):Prop:=∃w2,Dr w w2/\w'=w2.setCell p x
section
variable {P:Program}{w:World}
def L4{o:Oper}{a:Act}{K:Act->World->Prop}{Q:Exit->Act->World->Prop}(s x:Operand)(t:TypeId)
  (ho:o.op=.call {callee:=.builtin .append,args:=#[s,x],argTypes:=#[t,t]}) {e:TypeId} (ht:P.underlying t=some (.slice e)) (hel:elOk P e=true)
  {B n:Nat} {v y:Value} {xs:List Value} (hs:a.eval s=v) (hx:a.eval x=y) (hown:w.ownsRow B e (P.cellsOf e) v n xs) (hB:B<=w.heap.size)
  {Gy:Nat->Prop} {l:List V} (hy:Rd w Gy (.sl l) y) (hk:Ya (P.cellsOf e) l=true) (hlim:n+l.length<=lim)
  (h:∀v' w' news,w'.ownsRow B e (P.cellsOf e) v' (n+l.length) (xs++news)->w.grownBy w' v.ownBlock->(v'.ownBlock=v.ownBlock\/(w.grownBy w' none/\w'.ownsRow w.heap.size e (P.cellsOf e) v' (n+l.length) (xs++news)))->
   (∀(i:Nat) (ck:V),(flat l)[i]?=some ck->∃u,news[i]?=some u/\Rd w Gy ck u)->K (a.put o.dst v') w'):o.wp P a w K Q:=by
 obtain⟨v',w',news,hr,h1,h2,h3,_,h5⟩:=T8 (ty:=o.type) ht hel hown hB hy hk hlim;unfold Oper.wp execOp;simp only[ho,resolve,invoke,builtin,Z54,Z6E,Z51,List.map_toArray,Z4T,Z6a,hs,hx,hr];exact h v' w' news h1 h2 h3 h5
def K0{ops:Array Oper}{rest:List Oper}{o:Oper}{a:Act}{Q:Exit->Act->World->Prop}(hgd:o.guard=none)(s x:Operand)(t:TypeId)
  (ho:o.op=.call {callee:=.builtin .append,args:=#[s,x],argTypes:=#[t,t]}) {e:TypeId} (ht:P.underlying t=some (.slice e)) (hel:elOk P e=true)
  {B n:Nat} {v y:Value} {xs:List Value} (hs:a.eval s=v) (hx:a.eval x=y) (hown:w.ownsRow B e (P.cellsOf e) v n xs) (hB:B<=w.heap.size)
  {Gy:Nat->Prop} {l:List V} (hy:Rd w Gy (.sl l) y) (hk:Ya (P.cellsOf e) l=true) (hlim:n+l.length<=lim)
  (h:∀v' w' news,w'.ownsRow B e (P.cellsOf e) v' (n+l.length) (xs++news)->w.grownBy w' v.ownBlock->(v'.ownBlock=v.ownBlock\/(w.grownBy w' none/\w'.ownsRow w.heap.size e (P.cellsOf e) v' (n+l.length) (xs++news)))->
   (∀(i:Nat) (ck:V),(flat l)[i]?=some ck->∃u,news[i]?=some u/\Rd w Gy ck u)->wpList P ops Q rest (a.put o.dst v') w'):wpList P ops Q (o::rest) a w:=
 wpList_plain hgd λ_ hK=>L4 s x t ho ht hel hs hx hown hB hy hk hlim λv' w' news h1 h2 h3 h4=>hK _ _ (h v' w' news h1 h2 h3 h4)
def Rs{ops:Array Oper}{o:Oper}{a:Act}{K:Act->World->Prop}{Q:Exit->Act->World->Prop}{E:Prop}(hgd:o.guard=none)(s x:Operand)(t:TypeId)
  (ho:o.op=.call {callee:=.builtin .append,args:=#[s,x],argTypes:=#[t,t]}) {e:TypeId} (ht:P.underlying t=some (.slice e)) (hel:elOk P e=true)
  {B n:Nat} {v y:Value} {xs:List Value} (hs:a.eval s=v) (hx:a.eval x=y) (hown:w.ownsRow B e (P.cellsOf e) v n xs) (hB:B<=w.heap.size)
  {Gy:Nat->Prop} {l:List V} (hy:Rd w Gy (.sl l) y) (hk:Ya (P.cellsOf e) l=true) (hlim:n+l.length<=lim)
  (h:∀v' w' news,w'.ownsRow B e (P.cellsOf e) v' (n+l.length) (xs++news)->w.grownBy w' v.ownBlock->(v'.ownBlock=v.ownBlock\/(w.grownBy w' none/\w'.ownsRow w.heap.size e (P.cellsOf e) v' (n+l.length) (xs++news)))->
   (∀(i:Nat) (ck:V),(flat l)[i]?=some ck->∃u,news[i]?=some u/\Rd w Gy ck u)->K (a.put o.dst v') w'):
  if Region.wanted o (yielded ops a.tmps)=true then Oper.wp P o a w K Q else E:=by
 have hw:Region.wanted o (yielded ops a.tmps)=true:=by simp[Region.wanted,hgd]
 rw[if_pos hw];exact L4 s x t ho ht hel hs hx hown hB hy hk hlim h
end
def nums(k:IntKind)(l:List Int):List Value:=l.map (Value.int k)
def J1{w:World}{G:Nat->Prop}{k:IntKind}{l:List Int}{news:List Value}(h:∀(i:Nat) (ck:V),(flat (l.map (V.int k)))[i]?=some ck->∃u,news[i]?=some u/\Rd w G ck u)(hl:news.length=l.length):news=nums k l:=by
 have hflat:flat (l.map (V.int k))=l.map (V.int k):=by
  clear h hl
  induction l with
  |nil=>rfl
  |cons a l ih=>rw[Z4T,Xq,ih];rfl
 apply Z6Z;intro i;unfold nums;by_cases hi:i<l.length
 ·obtain⟨u,hu,hr⟩:=h i (.int k l[i]) (by rw[hflat,Z4M,Z4u hi];rfl);rw[hu,Z4M,Z4u hi];cases hr;rfl
 ·rw[Z5w Z0,Z5w Z3N]
def Xo{w:World}{B:Nat}{e:TypeId}{z n:Nat}{v:Value}{xs:List Value}(h:w.ownsRow B e z v n xs):∃a c,v=.slice a n c:=by
 obtain⟨rfl,rfl⟩|⟨g,cap,cur,rfl,_⟩:=h.2
 ·exact⟨_,_,rfl⟩
 ·exact⟨_,_,rfl⟩
def ZB{w w':World}{B:Nat}{e:TypeId}{z n:Nat}{v:Value}{xs:List Value}(h:w.ownsRow B e z v n xs)(hs:∀b,v.ownBlock=some b->w'.heap[b]?=w.heap[b]?):w'.ownsRow B e z v n xs:=by
 refine⟨h.1,?_⟩;obtain⟨h1,h2⟩|⟨g,cap,cur,rfl,h2,h3,h4⟩:=h.2
 ·exact .inl ⟨h1,h2⟩
 ·exact .inr ⟨g,cap,cur,rfl,h2,by rw[hs g rfl];exact h3,h4⟩
def ZX{w:World}{b o:Nat}{cs:Array Value}{T:TypeId}(h:w.heap[b]?=some (.cells cs T (0,0))):w.frozen? ⟨b,o,none⟩=false:=by
 simp[World.frozen?,h]
def JJ(L:List (Option Nat)):Prop:=L.Pairwise λa c=>∀b,a=some b->c≠some b
def elU:elOk Sol.prog 24=true:=Z2
def ceU:Sol.prog.cellsOf 24=1:=Z2
def Zv{w:World}{b:Nat}{o:Obj}(h:w.heap[b]?=some o):b<w.heap.size:=(Z4z.1 h).1
def Mf{w w':World}{e:TypeId}{z n B:Nat}{v:Value}{xs:List Value}(h:v.ownBlock=none\/(w.grownBy w' none/\w'.ownsRow w.heap.size e z v n xs)):∀b,v.ownBlock=some b->w.heap.size<=b:=by
 intro b hb;obtain h|⟨_,h⟩:=h
 ·rw[h]at hb;cases hb
 ·exact(h.lt b hb).1
def Na(w:World)(cs:Array Value)(T:TypeId)(o:Nat):(w.alloc (.cells cs T)).frozen? ⟨w.heap.size,o,none⟩=false:=
 ZX (Z5c w (.cells cs T))
def qa{w:World}{B B':Nat}{e:TypeId}{z n:Nat}{v:Value}{xs:List Value}(h:w.ownsRow B e z v n xs)(hB:B'<=B):w.ownsRow B' e z v n xs:=by
 refine⟨h.1,?_⟩;obtain h2|⟨g,cap,cur,hv,hb,h3⟩:=h.2
 ·exact .inl h2
 ·exact .inr ⟨g,cap,cur,hv,Z4Z hB hb,h3⟩
def I3(k:IntKind)(l:List Int)(i:Nat)(x:Int):nums k (l.set i x)=(nums k l).set i (.int k x):=by unfold nums;rw[Z6f]
section
variable {w:World}{B:Nat}{G:Nat->Prop}
def Ed{k:IntKind}(l:List Int):flat (l.map (V.int k))=l.map (V.int k):=by
 induction l with
 |nil=>rfl
 |cons a l ih=>rw[Z4T,Xq,ih];rfl
def FB{k:IntKind}{e:TypeId}{v:Value}{l:List Int}(h:w.ownsRow B e 1 v l.length (nums k l))(hG:∀c,B<=c->c<w.heap.size->G c):Rd w G (.sl (l.map (V.int k))) v:=by
 obtain⟨rfl,h0⟩|⟨g,cap,cur,rfl,hb,hg,hnc,hcm,_⟩:=h.2
 ·have:l=[]:=Z5V.1 h0;subst this;exact .nil _ _ (by unfold maxLen;omega)
 ·have:=Rd.sl (w:=w) (G:=G) (l.map (V.int k)) g 0 cap 1 (λi=>(nums k l).getD i undef) (by simpa using hnc) hcm (hG g hb (Zv hg)) (λx hx=>by
   obtain⟨n,_,rfl⟩:=Z4I.1 hx
   exact⟨rfl,λc hc=>by simp[V.cells]at hc;subst hc;rfl⟩) (λi hi=>by
    have hi':i<l.length:=by simpa using hi
    rw[Z5g,h.cellAt i Z0];simp[nums,hi']) (λi c hc=>by
    rw[Ed]at hc;obtain⟨hi,rfl⟩:=Z4v.1 hc;have hi':i<l.length:=by simpa using hi
    simp[nums,hi'];exact .int _ _)
  simpa using this
end
end
def lsH(h:Hp)(j:Nat):List Int:=if j=0 then h.low else if j=1 then h.high else if j=2 then h.old else if j=3 then h.far else h.roots
def hpA(h:Hp)(x:Nat->Value):Value:=.agg #[.int .u64 h.base,.int .i64 h.cap,.int .i64 h.to,.bool h.cycle,.int .i64 h.scan,x 0,x 1,x 2,x 3,x 4]
def Nw{h:Hp}(hh:h.ok)(k:Nat):(lsH h k).length<=1000000:=by
 unfold lsH;split
 ·exact hh.low
 split
 ·exact hh.high
 split
 ·exact hh.old
 split
 ·exact hh.far
 ·exact hh.roots
section
def Ce:V->Value
 |.int k n=>.int k n
 |.bool b=>.bool b
 |_=>undef
def JP:V->Bool
 |.int _ _=>true
 |.bool _=>true
 |_=>false
def zL:V->Value
 |.agg cs=>.agg (cs.map Ce).toArray
 |x=>Ce x
def JQ:V->Bool
 |.agg cs=>cs.all JP
 |x=>JP x
def MV:V->Value
 |.tup l=>.tuple (l.map zL).toArray
 |x=>zL x
def He:V->Bool
 |.tup l=>l.all JQ
 |x=>JQ x
variable {w:World}{G:Nat->Prop}
def Im{x:V}(h:JP x=true):Rd w G x (Ce x):=by
 cases x<;>simp[JP]at h
 ·exact .int _ _
 ·exact .bool _
def In{x:V}(h:JQ x=true):Rd w G x (zL x):=by
 cases x with
 |agg cs=>
  simp only[JQ,Z4D]at h;refine .agg _ _ Z1 (λc hc=> ?_) λi c hc=> ?_
  ·have:=h c hc;cases c<;>simp[JP]at this<;>rfl
  ·have h1:=Im (w:=w) (G:=G) (h c (Z4B hc))
   have:((cs.map Ce).toArray).getD i undef=Ce c:=by
    obtain⟨hi,rfl⟩:=Z4v.1 hc;simp[Array.getD,hi]
   rw[this];exact h1
 |int k n=>exact .int _ _
 |bool b=>exact .bool _
 |_=>simp[JQ,JP]at h
def H9{x:V}{v:Value}(h:JP x=true)(r:Rd w G x v):v=Ce x:=by
 cases x<;>simp[JP]at h
 ·cases r;rfl
 ·cases r;rfl
def AR{x:V}{v:Value}(h:JQ x=true)(r:Rd w G x v):v=zL x:=by
 cases x with
 |agg cs=>
  simp only[JQ,Z4D]at h;cases r with
  |agg _ vs hl _ hr=>
   simp only[zL,Value.agg.injEq];apply Z7Y
   ·simpa using hl
   ·intro i h1 h2;have hi:i<cs.length:=Z0;have hc:cs[i]?=some cs[i]:=Z4u hi;have:=H9 (h _ (Z4J hi)) (hr i _ hc);simp[Array.getD,h1]at this;simpa using this
 |int k n=>cases r;rfl
 |bool b=>cases r;rfl
 |_=>simp[JQ,JP]at h
def AS{x:V}{v:Value}(h:He x=true)(r:Rd w G x v):v=MV x:=by
 cases x with
 |tup cs=>
  simp only[He,Z4D]at h;cases r with
  |tup _ vs hl hr=>
   simp only[MV,Value.tuple.injEq];apply Z7Y
   ·simpa using hl
   ·intro i h1 h2;have hi:i<cs.length:=Z0;have hc:cs[i]?=some cs[i]:=Z4u hi;have:=AR (h _ (Z4J hi)) (hr i _ hc);simp[Array.getD,h1]at this;simpa using this
 |agg cs=>exact AR (x:=.agg cs) h r
 |int k n=>cases r;rfl
 |bool b=>cases r;rfl
 |_=>simp[He,JQ,JP]at h
def Wy{P:Program}{f:FuncId}{fr:Bool}{args:List V}{r:V}(h:VC P f fr args r)(ha:args.all JQ=true)(hr:He r=true)(w:World):
  Calls P f (args.map zL).toArray w λe w'=>e=.returned (MV r)/\Below w.heap.size w w':=by
 simp only[Z4D]at ha;refine Z7Z (h.2 w (λ_=>False) _ Z1 Z1 ?_) ?_
 ·intro i x hx;obtain⟨hi,rfl⟩:=Z4v.1 hx;have:((args.map zL).toArray).getD i undef=zL args[i]:=by simp[Array.getD,hi]
  rw[this];exact In (ha _ (Z4J hi))
 ·rintro e w' ⟨v,rfl,hb,hv⟩;exact⟨by rw[AS hr hv],hb⟩
def lyA(l:Ly):Value:=.agg #[.int .u64 l.base,.int .i64 l.cap,.int .i64 l.to,.int .i64 l.low,.int .i64 l.high,.int .i64 l.old,.int .i64 l.far]
def j3{l:Ly}(hl:l.fits)(part at_:Int)(w:World):Calls Sol.prog 75 #[lyA l,.agg #[.int .i64 part,.int .i64 at_]] w λe w'=>e=.returned (.tuple #[.int .u64 (ZG l part at_).1,.int .i64 (ZG l part at_).2])/\Below w.heap.size w w':=
 Wy (AG hl) rfl rfl w
def Wv{x:Int}(hx:U64 x)(w:World):Calls Sol.prog 44 #[.int .u64 x] w λe w'=>e=.returned (.tuple #[.int .u64 (adr x).1,.int .i64 (adr x).2])/\Below w.heap.size w w':=
 Wy (zu hx) rfl rfl w
def Uu{x:Int}(hx:U64 x)(w:World):Calls Sol.prog 69 #[.int .u64 x] w λe w'=>e=.returned (.tuple #[.agg #[.int .i64 (unpk x).1,.int .i64 (unpk x).2.1],.int .i64 (unpk x).2.2])/\Below w.heap.size w w':=
 Wy (Gx hx) rfl rfl w
def zp{h:Hp}{x:Nat->Value}(hG:∀b,G b->b<w.heap.size)(hr:∀j,j<5->Rd w G (.sl ((lsH h j).map vu)) (x j)):
  Calls Sol.prog 64 #[hpA h x] w λe w'=>e=.returned (lyA (layH h))/\Below w.heap.size w w':=by
 refine Z7Z ((zq (h:=h)).2 w G _ hG rfl ?_) ?_
 ·intro i y hy
  match i,hy with
  |0,hy=>
   cases hy;refine .agg _ _ rfl (by simp[V.one]) ?_;intro i y hy
   match i,hy with
   |0,hy=>cases hy;exact .int _ _
   |1,hy=>cases hy;exact .int _ _
   |2,hy=>cases hy;exact .int _ _
   |3,hy=>cases hy;exact .bool _
   |4,hy=>cases hy;exact .int _ _
   |5,hy=>cases hy;exact hr 0 Z0
   |6,hy=>cases hy;exact hr 1 Z0
   |7,hy=>cases hy;exact hr 2 Z0
   |8,hy=>cases hy;exact hr 3 Z0
   |9,hy=>cases hy;exact hr 4 Z0
 ·rintro e w' ⟨v,rfl,hb,hv⟩;exact⟨by rw[AS Z4r hv];rfl,hb⟩
end
end Vm
end
