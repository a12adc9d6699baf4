import Derived.Test.YtffknkhabklijaaChecked
import Derived.Carry
import Derived.ProofKit
import Derived.OpenShut
import Derived.Conc.SmallLaws
import Derived.StillTail
import Derived.Scope
import Derived.Conc.Own3
import Derived.RangeFuncNested
import Derived.RangeFuncBound
import Derived.RangeFuncLeaves
import Derived.WalkKit
import Derived.WalkSpells
import Derived.WalkLawsBesides
import Derived.StillTailTactics
import Derived.Deep.RegionHeld3
import Derived.Deep.AppendLies
import Derived.Deep.Onto
import Derived.Deep.RegionLaw
import Derived.Deep.OwnRows
import Derived.Lib.Hide
import Derived.Lib.AppendZerosOnto
import Derived.Lib.SliceRun
import Derived.Laws.CopyOwn
import Derived.Test.YtffknkhabklijaaSViewLive4
set_option linter.unusedSimpArgs false
set_option linter.unusedVariables false
set_option linter.defProp false
set_option maxHeartbeats 4000000
set_option maxRecDepth 100000
def ZiM:=@_root_.List.take_append_drop
def ZhT:=@_root_.List.append_nil
def ZhK:=@_root_.Int.tmod_eq_emod_of_nonneg
def ZjX:=@_root_.Int.tdiv_eq_ediv_of_nonneg
def ZjW:=@_root_.Int.fdiv_eq_ediv_of_nonneg
def ZhE:=@_root_.List.take_add_one
def Zkx:=@_root_.Int.emod_nonneg
def Zk2:=@_root_.Int.emod_lt_of_pos
def ZkD:=@_root_.List.set_append_right
def ZhF:=@_root_.List.drop_eq_getElem_cons
def ZhR:=@_root_.List.append_assoc
def Zjz:=@_root_.List.map_set
def ZjS:=@_root_.List.sum_append
def Zky:=@_root_.List.all_append
def ZjQ:=@_root_.List.length_pos_iff
def Zje:=@_root_.List.getElem?_eq_none_iff
def Zk3:=@_root_.List.findIdx?_cons
def ZjO:=@_root_.List.find?_cons
def ZjV:=@_root_.decide_true
def Zjm:=@_root_.Bool.true_eq_false
def Zhx:=@_root_.List.findIdx?_eq_some_iff_getElem
def ZjT:=@_root_.List.take_succ_cons
def Zjo:=@_root_.List.length_eq_zero_iff
def ZhH:=@_root_.Decidable.byContradiction
def ZkO:=@_root_.decide_false
def Zj8:=@_root_.Bool.false_or
def ZjN:=@_root_.Go.grownBy_putObj'
def ZhS:=@_root_.Go.World.putObj_heap_other
def Zks:=@_root_.Array.ext
section
namespace Vm
open Go
open Go.Proofs
def sig(f:FuncId):Option (List OT):=
 if f=102 then some [.fz,.mem [.own 97],.mem [.own 3]]else
 if f=50 then some [.fz,.mem [.fz,.fz]]else
 if f=80 then some [.fz,.own 97]else
 if f=47 then some [.fz,.own 97]else
 if f=121 then some [.mem [.fz,.fz,.fz,.fz,.fz,.fz,.fz,.fz,.fz,.fz,.fz,.fz,.fz,.fz,.fz,.fz,.fz,.fz,.fz,.fz,.fz,.own 84,.own 115],.fz,.fz]else
 if f=105 then some [.mem [.fz,.fz,.fz,.fz,.fz,.fz,.fz,.fz,.fz,.fz,.fz,.fz,.fz,.fz,.fz,.fz,.fz,.fz,.fz,.fz,.fz,.own 84,.own 115]]else
 if f=1000101 then some [.mem [.fz,.fz,.fz,.fz,.fz,.fz,.fz,.fz,.fz,.fz,.fz,.fz,.fz,.fz,.fz,.fz,.fz,.fz,.fz,.fz,.fz,.own 84,.own 115]]else
 none
@[simp] def pI(n:Int):E:=.c (.int .i64 n)
@[simp] def pU(n:Int):E:=.c (.int .u64 n)
@[simp] def pF:E:=.c (.bool false)
@[simp] def pT:E:=.c (.bool true)
@[simp] def pN:E:=.c (.sl [])
@[simp] def pG(e:E):Nat->Nat->List E
 |_,0=>[]
 |i,n+1=>.fld e i::pG e (i+1) n
@[simp] def pS(a n:Nat):OV:=.m (pG (.sz (.s a) n) 0 n)
@[simp] def pM(e:E)(n:Nat):OV:=.m (pG e 0 n)
@[simp] def pY:E:=.ag [pU 0,pI 0,pI 0,pF,pI 0,pN,pN,pN,pN,pN]
@[simp] def pZ:OV:=.m [pU 0,pI 0,pI 0,pF,pI 0,pN,pN,pN,pN,pN]
@[simp] def pR(l:List (Nat×OV)):Stm:=.reg ⟨[],[],l⟩
@[simp] def pC(e:List EF)(l:List (Nat×OV)):Stm:=.reg ⟨e,[],l⟩
@[simp] def pV(t:Nat)(e:E):Nat×OV:=(t,.v e)
@[simp] def pK(t f:Nat)(l:List E):EF:=.call t [] (.id f) false false l
@[simp] def pQ:List Stm->Stm->Stm
 | [],z=>z
 |a::l,z=>.seq a (pQ l z)
def fresh(f:FuncId):Bool:=f==81||f==117||f==119
def follows:Sol.prog.follows .mixedOrders=true:=by kernel_rfl
section
def Z7u(x:Option V)(A B:Prop):Prop:=
 match x with
 |some (.bool true)=>A
 |some (.bool false)=>B
 |_=>False
@[simp] theorem Zb3(b:Bool)(A B:Prop):Z7u (some (.bool b)) A B↔if b=true then A else B:=by cases b<;>simp[Z7u]
def onO{α:Type}(x:Option α)(K:α->Prop):Prop:=
 match x with
 |some x=>K x
 |none=>False
@[simp] theorem Zew{α:Type}(x:α)(K:α->Prop):onO (some x) K↔K x:=ZiC
@[simp] theorem Zev{α:Type}(K:α->Prop):onO none K↔False:=ZiC
@[simp] theorem Zfg{α β:Type}(f:α->β)(x:Option α)(K:β->Prop):onO (x.map f) K↔onO x (λy=>K (f y)):=by cases x<;>rfl
@[simp] theorem Zeu{α β:Type}(f:α->Option β)(x:Option α)(K:β->Prop):onO (x.bind f) K↔onO x (λy=>onO (f y) K):=by cases x<;>rfl
@[simp] theorem Zff{α:Type}(p:Prop) [Decidable p](x y:Option α)(K:α->Prop):onO (if p then x else y) K↔if p then onO x K else onO y K:=by split<;>rfl
def yj(P:Program) [Lg P](f:FuncId)(fr fl:Bool)(xs:List V)(K:V->Prop):Prop:=∃r,VC P f fr xs r/\(fl=true->flV r=some r)/\K r
theorem Z1{P:Program} [Lg P]{f:FuncId}{fr fl:Bool}{xs:List V}{K:V->Prop}{r:V}(h:VC P f fr xs r)(hf:fl=true->flV r=some r)(hK:K r):yj P f fr fl xs K:=⟨r,h,hf,hK⟩
def Z1G(P:Program) [Lg P](f:FuncId)(ks:List OT)(xs:List V)(K:V->Prop):Prop:=∃R,VCM P f ks xs R/\K R
theorem Ya{P:Program} [Lg P]{f:FuncId}{ks:List OT}{xs:List V}{K:V->Prop}{R:V}(h:VCM P f ks xs R)(hK:K R):Z1G P f ks xs K:=⟨R,h,hK⟩
def kS(P:Program) [Lg P](b:Stm)(N:St->Prop)(X:Nat->St->Prop)(R:St->Prop)(s:St):Prop:=wpS P b s N X R
def xB(id:Nat)(N:St->Prop)(X:Nat->St->Prop)(i:Nat)(s:St):Prop:=if i=id then N s else X i s
def kR(chks:List (Zi×E))(outs:List (Nat×OV))(K:St->Prop)(t:St):Prop:=wpC t chks/\wpO outs t t K
def kO(l:List (Nat×OV))(t u:St)(i:Nat)(K:St->Prop)(x:SV):Prop:=wpO l t (putS u i x) K
def kL(P:Program) [Lg P](l:List EF)(s:St)(i:Nat)(K:St->Prop)(x:V):Prop:=wpE P l (putS s i (.v x)) K
def kA(P:Program) [Lg P](f:FuncId)(fr fl:Bool)(K:V->Prop)(xs:List V):Prop:=yj P f fr fl xs K
def kAE(P:Program) [Lg P](fr fl:Bool)(K:V->Prop)(xs:List V)(v:V):Prop:=onO (cloV v) λn=>yj P n.1 fr fl (xs++n.2) K
def kAF(P:Program) [Lg P](x:Option V)(fr fl:Bool)(K:V->Prop)(xs:List V):Prop:=onO x (kAE P fr fl K xs)
def kAM(P:Program) [Lg P](f:Option FuncId)(ks:List OT)(K:V->Prop)(xs:List V):Prop:=onO f λn=>Z1G P n ks xs K
def kW(P:Program) [Lg P](l:List EF)(s:St)(i:Nat)(K:St->Prop)(os:List V):Prop:=if os=[]then wpE P l s K else wpE P l (putS s i (.v (.tup (.bool false::os)))) K
def kT(_:V):Prop:=True
section
variable {P:Program}[Lg P]{N R:St->Prop}{X:Nat->St->Prop}{K:St->Prop}{s t u:St}
@[simp] theorem Zgy(b:Stm):kS P b N X R s↔wpS P b s N X R:=ZiC
@[simp] theorem ZfV(id:Nat):xB id N X id s↔N s:=by simp[xB]
theorem UD(id i:Nat):xB id N X i s↔if i=id then N s else X i s:=ZiC
@[simp] theorem ZgG{id i:Nat}(h:i≠id):xB id N X i s↔X i s:=by simp[xB,h]
@[simp] theorem Zgx(chks:List (Zi×E))(outs:List (Nat×OV)):kR chks outs K t↔wpC t chks/\wpO outs t t K:=ZiC
@[simp] theorem Zgw(l:List (Nat×OV))(i:Nat)(x:SV):kO l t u i K x↔wpO l t (putS u i x) K:=ZiC
@[simp] theorem Zgv(l:List EF)(i:Nat)(x:V):kL P l s i K x↔wpE P l (putS s i (.v x)) K:=ZiC
@[simp] theorem Zgu(f:FuncId)(fr fl:Bool)(K:V->Prop)(xs:List V):kA P f fr fl K xs↔yj P f fr fl xs K:=ZiC
@[simp] theorem Zeo(v:V)(fr fl:Bool)(K:V->Prop)(xs:List V):kAF P (some v) fr fl K xs↔kAE P fr fl K xs v:=ZiC
@[simp] theorem Zg9(f:FuncId)(fr fl:Bool)(K:V->Prop)(xs:List V):kAE P fr fl K xs (.fn f)↔yj P f fr fl xs K:=by simp[kAE,cloV]
@[simp] theorem Zf8(f:FuncId)(cs:List V)(fr fl:Bool)(K:V->Prop)(xs:List V):kAE P fr fl K xs (.clo f cs)↔yj P f fr fl (xs++cs) K:=by simp[kAE,cloV]
@[simp] theorem Zep(f:FuncId)(ks:List OT)(K:V->Prop)(xs:List V):kAM P (some f) ks K xs↔Z1G P f ks xs K:=ZiC
@[simp] theorem Zga(l:List EF)(i:Nat):kW P l s i K []↔wpE P l s K:=by simp[kW]
@[simp] theorem Zf9(l:List EF)(i:Nat)(x:V)(os:List V):kW P l s i K (x::os)↔wpE P l (putS s i (.v (.tup (.bool false::x::os)))) K:=by simp[kW]
@[simp] theorem Zgz(x:V):kT x↔True:=ZiC
@[simp] theorem ZfS(r:Reg):wpS P (.reg r) s N X R↔wpR P r s N:=ZiC
@[simp] theorem ZeJ:wpS P .skip s N X R↔N s:=ZiC
@[simp] theorem ZfU(a b:Stm):wpS P (.seq a b) s N X R↔wpS P a s (kS P b N X R) X R:=ZiC
@[simp] theorem ZeH(c:E)(a b:Stm):wpS P (.cond c a b) s N X R↔Z7u (eval s c) (wpS P a s N X R) (wpS P b s N X R):=by
 simp only[wpS,Z7u];generalize eval s c=x;cases x with
 |none=>rfl
 |some v=>cases v<;>first|rfl|(rename_i q;cases q<;>rfl)
@[simp] theorem ZdV(id:Nat)(a:Stm):wpS P (.block id a) s N X R↔wpS P a s N (xB id N X) R:=ZiC
@[simp] theorem ZeI(id:Nat):wpS P (.exit id) s N X R↔X id s:=ZiC
@[simp] theorem ZfT:wpS P .ret s N X R↔R s:=ZiC
theorem YQ{keep:List Nat}{a:Stm}(I:St->Prop)(μ:St->Nat)(h0:I (YH keep s))(h1:∀s,I s->wpS P a s (λs'=>I (YH keep s')/\μ (YH keep s')<μ s) X R):wpS P (.loop keep a) s N X R:=⟨I,μ,h0,h1⟩
@[simp] theorem Zgm(efs:List EF)(chks:List (Zi×E))(outs:List (Nat×OV)):wpR P ⟨efs,chks,outs⟩ s K↔wpE P efs s (kR chks outs K):=ZiC
@[simp] theorem ZfR:wpO [] t u K↔K u:=ZiC
@[simp] theorem ZeG(i:Nat)(o:OV)(l:List (Nat×OV)):wpO ((i,o)::l) t u K↔onO (ovV t o) (kO l t u i K):=by
 simp only[wpO,onO,kO];cases ovV t o<;>rfl
@[simp] theorem ZfP:wpC t []↔True:=ZiC
@[simp] theorem ZeE(C:Zi)(e:E)(l:List (Zi×E)):wpC t ((C,e)::l)↔(Wm t C=true->onO (eval t e) kT)/\wpC t l:=by
 simp only[wpC,onO,kT];cases eval t e<;>simp
@[simp] theorem ZfQ:wpE P [] s K↔K s:=ZiC
@[simp] theorem Zgl(i:Nat)(C:Zi)(e:E)(l:List EF):wpE P (.lt i C e::l) s K↔if Wm s C=true then onO (eval s e) (kL P l s i K)else wpE P l s K:=by
 simp only[wpE,onO,kL];cases eval s e<;>rfl
@[simp] theorem ZeF(i:Nat)(C:Zi)(f:FuncId)(fr fl:Bool)(es:List E)(l:List EF):wpE P (.call i C (.id f) fr fl es::l) s K↔if Wm s C=true then onO (Yc s es) (kA P f fr fl (kL P l s i K))else wpE P l s K:=by
 simp only[wpE,onO,kA,yj,kL,fnV];cases Yc s es<;>simp
@[simp] theorem ZdT(i:Nat)(C:Zi)(x:E)(fr fl:Bool)(es:List E)(l:List EF):wpE P (.call i C (.e x) fr fl es::l) s K↔if Wm s C=true then onO (Yc s es) (kAF P (eval s x) fr fl (kL P l s i K))else wpE P l s K:=by
 simp only[wpE,onO,kAF,kAE,yj,kL,fnV];cases Yc s es with
 |none=>simp
 |some xs=>
  cases eval s x with
  |none=>simp
  |some v=>cases hv:cloV v<;>simp[hv]
@[simp] theorem ZdU(i:Nat)(C:Zi)(f:FN)(ks:List OT)(es:List E)(l:List EF):wpE P (.callm i C f ks es::l) s K↔
  if Wm s C=true then onO (Yc s es) (kAM P (fnOf s f) ks (kL P l s i K))
  else onO (oldV s ks es) (kW P l s i K):=by
 simp only[wpE,onO,Z1G,kAM,kL,kW];split
 ·cases Yc s es<;>cases fnOf s f<;>simp
 ·cases oldV s ks es with
  |none=>simp
  |some os=>cases os<;>simp
@[simp] theorem ZgD(e:E):ovV t (.v e)=(eval t e).map .v:=rfl
@[simp] theorem ZgC(l:List E):ovV t (.m l)=(Yc t l).map .m:=rfl
@[simp] theorem Zgg:ovV t .no=some .no:=rfl
@[simp] theorem Zb5:Wm s []=true:=rfl
theorem Z0n(i:Nat)(b:Bool)(C:Zi):Wm s ((i,b)::C)=((match get s i with|.v (.bool c)=>c==b|_=>false)&&Wm s C):=rfl
end
@[simp] theorem Zem(x:SV)(s:St):get (x::s) 0=x:=rfl
@[simp] theorem Zel(x:SV)(s:St)(n:Nat):get (x::s) (n+1)=get s n:=by simp[get]
@[simp] theorem Zdl(x y:SV)(s:St):putS (y::s) 0 x=x::s:=rfl
@[simp] theorem Zdk(x y:SV)(s:St)(n:Nat):putS (y::s) (n+1) x=y::putS s n x:=rfl
@[simp] theorem Z8i(x:SV):putS [] 0 x=[x]:=rfl
@[simp] theorem Z8h(x:SV)(n:Nat):putS [] (n+1) x=.no::putS [] n x:=rfl
@[simp] theorem Zd4(s:St):YH [] s=[]:=rfl
@[simp] theorem Zb6(i:Nat)(l:List Nat)(s:St):YH (i::l) s=putS (YH l s) i (get s i):=rfl
attribute [simp] ptV eval Yc Z0n resV JP Sa finV J2 Xu Z3H argS Kh fnOf oldV
section
variable {k:IntKind}{a b:Int}{x y:V}{l r:List V}
@[simp] theorem ZdY:binV .add (.int k a) (.int k b)=some (.int k (k.wrap (a+b))):=by simp[binV]
@[simp] theorem Ze8:binV .sub (.int k a) (.int k b)=some (.int k (k.wrap (a-b))):=by simp[binV]
@[simp] theorem Ze4:binV .mul (.int k a) (.int k b)=some (.int k (k.wrap (a*b))):=by simp[binV]
@[simp] theorem Ze6:binV .quo (.int k a) (.int k b)=if b≠0 then some (.int k (k.wrap (a.tdiv b)))else none:=by simp[binV]
@[simp] theorem Ze7:binV .rem (.int k a) (.int k b)=if b≠0 then some (.int k (a.tmod b))else none:=by simp[binV]
@[simp] theorem ZdZ:binV .eql (.int k a) (.int k b)=some (.bool (decide (a=b))):=by simp[binV];rfl
@[simp] theorem Ze5:binV .neq (.int k a) (.int k b)=some (.bool (!decide (a=b))):=by simp[binV];rfl
@[simp] theorem Ze3:binV .lss (.int k a) (.int k b)=some (.bool (decide (a<b))):=by simp[binV]
@[simp] theorem Ze2:binV .leq (.int k a) (.int k b)=some (.bool (decide (a<=b))):=by simp[binV]
@[simp] theorem Ze1:binV .gtr (.int k a) (.int k b)=some (.bool (decide (b<a))):=by simp[binV]
@[simp] theorem Ze0:binV .geq (.int k a) (.int k b)=some (.bool (decide (b<=a))):=by simp[binV]
@[simp] theorem Zef(p q n:Bool):eqV n (.bool p) (.bool q)=some (.bool (n ^^ (p==q))):=rfl
@[simp] theorem ZfM:unV .neg (.int k a)=some (.int k (k.wrap (0-a))):=rfl
@[simp] theorem ZfN(p:Bool):unV .not (.bool p)=some (.bool !p):=rfl
@[simp] theorem Zby(k':IntKind):Z3m k' (.int k a)=some (.int k' (k'.wrap a)):=rfl
@[simp] theorem Zfa:lenV (.sl l)=some (.int .i64 l.length):=rfl
@[simp] theorem Zet(id:Nat)(vs:List V):qH (.mp id l vs)=some (.int .i64 l.length):=rfl
@[simp] theorem Zer(id:Nat)(vs:List V):Z5P (.mp id l vs)=some (.mp id [] []):=rfl
@[simp] theorem Zes:minV (.int k a) (.int k b)=some (.int k (if b<a then b else a)):=rfl
@[simp] theorem Zeq:maxV (.int k a) (.int k b)=some (.int k (if b>a then b else a)):=rfl
@[simp] theorem Zeg(i:Nat):extV (.tup l) i=l[i]? :=rfl
@[simp] theorem Zen(i n:Nat):idxV (.sl l) (.int k (i:Int)) n=(l[i]?).bind λz=>if z.cells.length=n then some z else none:=by simp[idxV]
@[simp] theorem Zbu:(V.int k a).cells=[V.int k a]:=rfl
@[simp] theorem Zb2(p:Bool):(V.bool p).cells=[V.bool p]:=rfl
@[simp] theorem Zbv(s:ByteArray):(V.str s).cells=[V.str s]:=rfl
@[simp] theorem Zec:(V.sl l).cells=[V.sl l]:=rfl
@[simp] theorem Zbt:(V.agg l).cells=l:=rfl
@[simp] theorem Zeb(id:Nat):(V.mp id l r).cells=[V.mp id l r]:=rfl
@[simp] theorem Zea(f:FuncId):(V.fn f).cells=[V.fn f]:=rfl
@[simp] theorem Zfo:(V.int k a).one=true:=rfl
@[simp] theorem ZeC(p:Bool):(V.bool p).one=true:=rfl
@[simp] theorem Zgf:(V.sl l).one=true:=rfl
@[simp] theorem Zge(id:Nat):(V.mp id l r).one=true:=rfl
@[simp] theorem Zgd(f:FuncId):(V.fn f).one=true:=rfl
@[simp] theorem Zfl:(V.agg l).one=false:=rfl
@[simp] theorem Zez:oneV (.int k a)=some (.int k a):=rfl
@[simp] theorem Zd3(p:Bool):oneV (.bool p)=some (.bool p):=rfl
@[simp] theorem ZeB(s:ByteArray):oneV (.str s)=some (.str s):=rfl
@[simp] theorem Zfk:oneV (.sl l)=some (.sl l):=rfl
@[simp] theorem Zfj(id:Nat):oneV (.mp id l r)=some (.mp id l r):=rfl
@[simp] theorem Zfi(f:FuncId):oneV (.fn f)=some (.fn f):=rfl
@[simp] theorem Zeh(o:Nat):fldV (.agg l) o=(l[o]?).bind oneV:=rfl
@[simp] theorem Zej:fldV (.int k a) 0=some (.int k a):=rfl
@[simp] theorem ZbE(p:Bool):fldV (.bool p) 0=some (.bool p):=rfl
@[simp] theorem Zf5:fldV (.sl l) 0=some (.sl l):=rfl
@[simp] theorem Zek(s:ByteArray):fldV (.str s) 0=some (.str s):=rfl
@[simp] theorem Zco(o n:Nat):RX (.agg l) o n=if o+n<=l.length then some (.agg ((l.drop o).take n))else none:=rfl
@[simp] theorem Zfz(n:Nat):szV (.agg l) n=if l.length=n then some (.agg l)else none:=rfl
@[simp] theorem ZcC:Z0C (.agg l)=some (.agg l):=rfl
@[simp] theorem ZdJ:K3 (.ptr l)=some (.agg l):=rfl
@[simp] theorem ZcD(p:Bool)(A B:Option V):iteV (.bool p) A B=if p=true then A else B:=by cases p<;>rfl
@[simp] theorem ZfW:agV l=.agg (flat l):=rfl
@[simp] theorem Zb4:flat (x::l)=x.cells++flat l:=rfl
@[simp] theorem ZbD:flat []=[]:=rfl
@[simp] theorem ZeO(n:Nat):appV n (.sl l) (.sl r)=if l.length+r.length<=lim/\Yr n r=true then some (.sl (l++r))else none:=rfl
@[simp] theorem Zba(n:Nat):Yr n []=true:=rfl
@[simp] theorem ZaN(n:Nat):Yr n (x::l)=(x.cells.length==n&&Yr n l):=rfl
theorem XN{α:Type}{f:α->V}{n:Nat}{l:List α}(h:∀x,(f x).cells.length=n):Yr n (l.map f)=true:=by
 simp[Yr,h]
@[simp] theorem Z6J(l:List Int):Yr 1 (l.map (V.int k))=true:=XN λ_=>rfl
@[simp] theorem Zfc(n:Nat):mkV x (.int k (n:Int))=if n<=lim then some (.sl (List.replicate n x))else none:=by
 simp only[mkV];have:((n:Int)<=(lim:Nat))↔n<=lim:=by omega
 simp[this]
@[simp] theorem Z8z(i j n:Nat):slcV n (.sl l) (.int k (i:Int)) (.int k (j:Int))=if i<=j/\j<=l.length/\Yr n l=true then some (.sl ((l.take j).drop i))else none:=by
 simp[slcV]
@[simp] theorem ZdG(i n:Nat):Z1p n (.sl l) (.int k (i:Int))=if i<=l.length/\Yr n l=true then some (.sl (l.drop i))else none:=by
 simp[Z1p]
@[simp] theorem ZeD(i o:Nat):updV (.sl l) (.int k (i:Int)) o y=(l[i]?).bind λz=>if o+y.cells.length<=z.cells.length/\y.cells≠[]then some (.sl (l.set i (z.put o y.cells)))else none:=by
 simp[updV]
end
abbrev vi(n:Int):V:=.int .i64 n
abbrev vu(n:Int):V:=.int .u64 n
@[simp] theorem Zfd(n:Nat):((n:Int)<0)↔False:=⟨λh=>absurd h (by omega),False.elim⟩
theorem Z6(n:Int)(h1: -9223372036854775808<=n)(h2:n<=9223372036854775807):IntKind.i64.wrap n=n:=by
 rw[IntKind.wrap_i64];omega
end
end Vm
end
section
namespace Vm
open Go Go.ChangeShapes Go.WideShapes Go.ChangeAt Go.RowKit
section
def yQ(P:Program)(n:Nat):List Field->Nat->Bool
 | [],o=>o==n
 |f::l,o=>f.offset==o&&yQ P n l (o+P.cellsOf f.type)
def okTy(P:Program):Nat->TypeId->Bool
 |0,_=>false
 |n+1,t=>match P.underlying t with
  |some .bool|some (.int _)|some .string=>true
  |some (.slice e)=>okTy P n e&&decide (0<P.cellsOf e)
  |some (.struct fs)=>yQ P (P.cellsOf t) fs.toList 0&&fs.toList.all λf=>okTy P n f.type
  |some (.array m e)=>okTy P n e&&m*P.cellsOf e==P.cellsOf t
  |_=>false
def tyV(P:Program):Nat->TypeId->V->Prop
 |0,_,_=>False
 |n+1,t,x=>match P.underlying t with
  |some .bool=>∃b,x=.bool b
  |some (.int k)=>∃m,x=.int k m/\(Lit.int k m).wf=true
  |some .string=>∃s,x=.str s/\s.size<=maxLen
  |some (.slice e)=>∃l,x=.sl l/\l.length<=maxLen/\∀y∈l,tyV P n e y
  |some (.struct fs)=>∃ys,x=.agg (flat ys)/\ys.length=fs.toList.length/\∀(i:Nat) (f:Field) (y:V),fs.toList[i]?=some f->ys[i]?=some y->tyV P n f.type y
  |some (.array m e)=>∃ys,x=.agg (flat ys)/\ys.length=m/\∀y∈ys,tyV P n e y
  |_=>False
def RdC(w:World)(G:Nat->Prop)(cs:List V)(vs:List Value):Prop:=
 vs.length=cs.length/\∀(i:Nat) (c:V),cs[i]?=some c->c.one=true/\∃u,vs[i]?=some u/\Rd w G c u
theorem RdC.nil{w:World}{G:Nat->Prop}:RdC w G [] []:=⟨rfl,λi c h=>by simp at h⟩
theorem RdC.append{w:World}{G:Nat->Prop}{cs cs':List V}{vs vs':List Value}(h:RdC w G cs vs)(h':RdC w G cs' vs'):RdC w G (cs++cs') (vs++vs'):=by
 refine⟨by simp[h.1,h'.1],λi c hi=> ?_⟩;rw[List.getElem?_append]at hi⊢;rw[h.1];split at hi
 ·rename_i hlt;rw[if_pos hlt];exact h.2 i c hi
 ·rename_i hlt;rw[if_neg hlt];exact h'.2 _ c hi
theorem RdC.one{w:World}{G:Nat->Prop}{c:V}{v:Value}(h1:c.one=true)(h:Rd w G c v):RdC w G [c] [v]:=
 ⟨rfl,λi x hi=>by
  cases i with
  |zero=>simp at hi;subst hi;exact⟨h1,v,rfl,h⟩
  |succ i=>simp at hi⟩
theorem V9{α:Type}{Q:Nat->α->Prop}:∀(n:Nat),(∀i,i<n->∃y,Q i y)->∃l:List α,l.length=n/\∀(i:Nat) (y:α),l[i]?=some y->Q i y
 |0,_=>⟨[],rfl,λi y h=>by simp at h⟩
 |n+1,h=>by
  obtain⟨l,h1,h2⟩:=V9 n λi hi=>h i (by omega);obtain⟨y,hy⟩:=h n (by omega);refine⟨l++[y],by simp[h1],λi z hz=> ?_⟩;rw[List.getElem?_append]at hz;split at hz
  ·exact h2 i z hz
  ·rename_i hlt;rw[List.getElem?_singleton]at hz;split at hz
   ·rename_i he;have:i=n:=by omega
    subst this;simp only[ZgH]at hz;subst hz;exact hy
   ·cases hz
theorem Sx{w:World}{b:Nat}{a:Addr}{n:Nat}{cs:List Value}(h:w.cells? b a n=some cs):cs.length=n/\∀i,i<n->w.cell? (a.add i)=cs[i]? :=by
 unfold World.cells? at h;split at h
 ·have h1:=mapM_some_length h;rw[Zke]at h1;refine⟨h1,λi hi=>mapM_some_get h i i ?_⟩;rw[List.getElem?_range hi]
 ·cases h
theorem Z9J{w:World}{a:Addr}{v:Value}(h:w.cell? a=some v):a.block<w.heap.size:=by
 unfold World.cell? at h;rcases ZkF a.block w.heap.size with h1|h1
 ·exact h1
 ·have:w.heap[a.block]?=none:=by simp[h1]
  simp[this]at h
theorem zN{w:World}{G:Nat->Prop}:∀ {ys:List V} {vss:List (List Value)},vss.length=ys.length->(∀(i:Nat) (y:V) (vs:List Value),ys[i]?=some y->vss[i]?=some vs->RdC w G y.cells vs)->RdC w G (flat ys) vss.flatten
 | [],[],_,_=>by simpa using RdC.nil
 | [],_::_,h,_=>by simp at h
 |_::_,[],h,_=>by simp at h
 |y::ys,vs::vss,h,hr=>by
  rw[WL,List.flatten_cons];exact(hr 0 y vs rfl rfl).append (zN (by simpa using h) λi z us hz hu=>hr (i+1) z us (by simpa using hz) (by simpa using hu))
theorem Z1X{P:Program}{n:Nat}{cs:List Value}:∀ {l:List Field} {o:Nat},yQ P n l o=true->o<=n/\(cs.length=n->cs.drop o=(l.map λf=>(cs.drop f.offset).take (P.cellsOf f.type)).flatten)
 | [],o,h=>by
   simp only[yQ,Zhq]at h;subst h;exact⟨ZgP _,λhc=>by simp[<-hc]⟩
 |f::l,o,h=>by
  simp only[yQ,ZgM,Zhq]at h;obtain⟨h1,h2⟩:=h;obtain⟨h3,h4⟩:=Z1X (cs:=cs) h2;refine⟨by omega,λhc=> ?_⟩;rw[Zha,List.flatten_cons,<-h4 hc,h1,<-List.drop_drop,ZiM]
theorem Z9A{cs:List Value}{k:Nat}:∀ {m:Nat},cs.length=m*k->cs=((List.range m).map λi=>(cs.drop (i*k)).take k).flatten:=by
 have:∀(m:Nat) (cs:List Value),cs.take (m*k)=((List.range m).map λi=>(cs.drop (i*k)).take k).flatten:=by
  intro m
  induction m with
  |zero=>intro cs;simp
  |succ m ih=>
   intro cs;rw[ZiA,ZhU,List.flatten_append,<-ih,Zi2,List.take_add];simp
 intro m h;have h2:=this m cs;rw[Zhi (by omega)]at h2;exact h2
section
variable {H:Type}{enc:TypeId×Value->H}{P:Program}{w:World}{spare:Nat->Bool}{held:Bool}
theorem S9:∀ {n:Nat} {t:TypeId} {fuel:Nat} {cs:List Value} {d:DataW H×List MemPlace},okTy P n t=true->DataW.trod enc P w 0 spare held fuel t cs=some d->
  ∃x,tyV P n t x/\RdC w (λb=>b<w.heap.size) x.cells cs
 |0,t,fuel,cs,d,hk,h=>by cases hk
 |n+1,t,fuel,cs,d,hk,h=>by
  unfold okTy at hk;unfold tyV;split at hk
  ·rename_i ht;obtain⟨b,rfl,_⟩:=DataW.trod_bool ht h;exact⟨.bool b,⟨b,rfl⟩,.one rfl (.bool b)⟩
  ·rename_i k ht;obtain⟨m,rfl,_,hw⟩:=DataW.trod_int ht h;exact⟨.int k m,⟨m,rfl,hw⟩,.one rfl (.int k m)⟩
  ·rename_i ht;obtain⟨s,rfl,_,hw⟩:=DataW.trod_string ht h;exact⟨.str s,⟨s,rfl,hw⟩,.one rfl (.str s)⟩
  ·rename_i e ht;simp only[ZgM,Zh1]at hk;obtain⟨hk1,hk2⟩:=hk;rcases DataW.trod_slice ht h with ⟨rfl,_⟩|⟨a,len,cap,elems,rest,m,_,rfl,_,_,hlc,hcm,hel,hat,_⟩
   ·exact⟨.sl [],⟨[],rfl,by simp,by simp⟩,.one rfl (.nil _ _ (ZhO _))⟩
   ·have heach:∀i,i<len->∃y,tyV P n e y/\∃vs,w.cells? 0 (a.add (i*P.cellsOf e)) (P.cellsOf e)=some vs/\RdC w (λb=>b<w.heap.size) y.cells vs:=by
     intro i hi;have h1:=hat i hi;rw[ZgJ (by omega)]at h1;simp only[ZgI]at h1;obtain⟨vs,h2,h3⟩:=h1;obtain⟨y,hy,hr⟩:=S9 hk1 h3;exact⟨y,hy,vs,h2,hr⟩
    obtain⟨l,hl1,hl2⟩:=V9 len heach
    have hty:∀y∈l,tyV P n e y:=λy hy=>by
     obtain⟨i,hi⟩:=Zh8 hy;exact(hl2 i y hi).1
    refine⟨.sl l,⟨l,rfl,by omega,hty⟩,.one rfl ?_⟩;cases hlen:len with
    |zero=>
     have:l=[]:=Zhz (by omega);subst this;exact .nil _ _ hcm
    |succ len'=>
     obtain⟨b,o,spot⟩:=a
     have hspot:spot=none:=by
      obtain⟨y,_,vs,hv,_⟩:=heach 0 (by omega);obtain⟨h1,h2⟩:=Sx hv;have h3:=h2 0 hk2;rw[ZgJ (by omega)]at h3;have h4:=World.cell?_spot h3;cases spot with
      |none=>rfl
      |some s=>simp[Addr.add]at h4
     subst hspot
     have hcell:∀(i j:Nat) (y:V),l[i]?=some y->j<P.cellsOf e->∃(u:Value),w.cell? ⟨b,o+(i*P.cellsOf e+j),none⟩=some u/\∃c,y.cells[j]?=some c/\c.one=true/\Rd w (λb=>b<w.heap.size) c u:=by
      intro i j y hy hj;obtain⟨_,vs,hv,hr⟩:=hl2 i y hy;obtain⟨h1,h2⟩:=Sx hv;have h3:=h2 j hj;rw[ZiI,ZiI,ZgJ (by omega)]at h3;have hyl:j<y.cells.length:=by rw[<-hr.1];omega
      obtain⟨q1,u,q2,q3⟩:=hr.2 j y.cells[j] (ZgJ hyl);rw[ZgJ (by omega),ZgH]at q2;subst q2;exact⟨_,by rw[<-Zif];exact h3,_,ZgJ hyl,q1,q3⟩
     have hfit:∀y∈l,y.fits (P.cellsOf e):=λy hy=>by
      obtain⟨i,hi⟩:=Zh8 hy;obtain⟨_,vs,hv,hr⟩:=hl2 i y hi;refine⟨by rw[<-hr.1,(Sx hv).1],λc hc=> ?_⟩;obtain⟨j,hj⟩:=Zh8 hc;exact(hr.2 j c hj).1
     have hdiv:∀i,i<l.length*P.cellsOf e->∃y,l[i / P.cellsOf e]?=some y/\i%P.cellsOf e<P.cellsOf e/\i=i / P.cellsOf e*P.cellsOf e+i%P.cellsOf e:=by
      intro i hi;have h1:i / P.cellsOf e<l.length:=(ZkE hk2).2 hi;exact⟨_,ZgJ h1,ZjH _ hk2,by rw[Nat.mul_comm];exact(Nat.div_add_mod _ _).symm⟩
     have hb:b<w.heap.size:=by
      obtain⟨y,hy⟩:∃y,l[0]?=some y:=⟨_,ZgJ (by omega)⟩;obtain⟨u,hu,_⟩:=hcell 0 0 y hy hk2;exact Z9J hu
     have hsl:=Rd.sl (w:=w) (G:=λb=>b<w.heap.size) l b o cap (P.cellsOf e) (λi=>(w.cell? ⟨b,o+i,none⟩).getD undef) (by omega) hcm hb hfit (λi hi=> ?_) (λi c hi=> ?_)
     ·rw[hl1,hlen]at hsl;exact hsl
     ·obtain⟨y,h1,h2,h3⟩:=hdiv i hi;obtain⟨u,hu,_⟩:=hcell _ _ y h1 h2;rw[<-h3]at hu;rw[hu];rfl
     ·have hil:i<l.length*P.cellsOf e:=by
       rw[<-Yl hfit];exact(ZgL.1 hi).1
      obtain⟨y,h1,h2,h3⟩:=hdiv i hil;obtain⟨u,hu,c',hc',_,hr⟩:=hcell _ _ y h1 h2;rw[<-h3]at hu;rw[h3,X2 hfit h1 _ h2,hc']at hi;cases hi;simp only[hu,Zhe];exact hr
  ·rename_i fs ht;simp only[ZgM,ZgT]at hk;obtain⟨hk1,hk2⟩:=hk;obtain⟨xs,m,_,_,hcl,hxl,hat⟩:=DataW.trod_struct ht h
   obtain⟨ys,hy1,hy2⟩:=V9 (Q:=λi y=>∀f,fs.toList[i]?=some f->tyV P n f.type y/\RdC w (λb=>b<w.heap.size) y.cells ((cs.drop f.offset).take (P.cellsOf f.type))) fs.toList.length (by
    intro i hi;have hf:fs.toList[i]?=some fs.toList[i]:=ZgJ hi;have h1:=hat i fs.toList[i] (by simp);rw[ZgJ (by rw[hxl];exact hi)]at h1;obtain⟨y,hy,hr⟩:=S9 (hk2 _ (ZgZ hi)) h1;exact⟨y,λf h2=>by rw[hf]at h2;cases h2;exact⟨hy,hr⟩⟩)
   refine⟨.agg (flat ys),⟨ys,rfl,hy1,λi f y hf hy=>(hy2 i y hy f hf).1⟩,?_⟩;have hcut:=(Z1X (cs:=cs) hk1).2 hcl;rw[List.drop_zero]at hcut;rw[hcut];refine zN (by simp[hy1]) λi y vs hy hv=> ?_;rw[Zh2,ZgK]at hv;obtain⟨f,hf,rfl⟩:=hv;exact(hy2 i y hy f hf).2
  ·rename_i m e ht;simp only[ZgM,Zhq]at hk;obtain⟨hk1,hk2⟩:=hk;obtain⟨xs,q,_,_,hcl,hxl,hat⟩:=DataW.trod_array ht h
   obtain⟨ys,hy1,hy2⟩:=V9 (Q:=λi y=>tyV P n e y/\RdC w (λb=>b<w.heap.size) y.cells ((cs.drop (i*P.cellsOf e)).take (P.cellsOf e))) m (by
    intro i hi;have h1:=hat i hi;rw[ZgJ (by omega)]at h1;exact S9 hk1 h1)
   refine⟨.agg (flat ys),⟨ys,rfl,hy1,λy hy=> ?_⟩,?_⟩
   ·obtain⟨i,hi⟩:=Zh8 hy;exact(hy2 i y hi).1
   ·rw[Z9A (cs:=cs) (k:=P.cellsOf e) (m:=m) (by omega)];refine zN (by simp[hy1]) λi y vs hy hv=> ?_;rw[Zh2,ZgK]at hv;obtain⟨j,hj,rfl⟩:=hv
    have:j=i:=by
     rw[ZgL]at hj;obtain⟨_,hj⟩:=hj;simpa using hj.symm
    subst this;exact(hy2 j y hy).2
  ·cases hk
theorem Z8m{n:Nat}{t:TypeId}{v:Value}{d:DataW H}{ps:List MemPlace}{r:Reach}{b0:Nat}(hk:okTy P n t=true)(hval:Value.okWide P w r b0 t v)(h:DataW.Trod enc P w 0 spare held t v d ps):
  ∃x,tyV P n t x/\Rd w (λb=>b<w.heap.size) x v:=by
 obtain⟨fuel,h⟩:=h;obtain⟨x,hx,hr⟩:=S9 hk h;refine⟨x,hx,?_⟩
 have h1:∀ {c:V},x=c->c.cells=[c]->v.cells.toList=[v]->Rd w (λb=>b<w.heap.size) x v:=by
  intro c he hc hv;subst he;rw[hc,hv]at hr;obtain⟨_,u,q1,q2⟩:=hr.2 0 x rfl;simp at q1;subst q1;exact q2
 have h2:∀ {cs:List V} {vs:Array Value},x=.agg cs->v=.agg vs->Rd w (λb=>b<w.heap.size) x v:=by
  intro cs vs he hv;subst he hv;refine .agg cs vs (by have:=hr.1;simpa[Value.cells]using this) (λc hc=> ?_) λi c hi=> ?_
  ·obtain⟨i,hi⟩:=Zh8 hc;exact(hr.2 i c hi).1
  ·obtain⟨_,u,q1,q2⟩:=hr.2 i c hi
   have:vs.getD i undef=u:=by
    have q3:vs[i]?=some u:=by simpa[Value.cells]using q1
    simp[ZgN,q3]
   rw[this];exact q2
 cases n with
 |zero=>cases hk
 |succ n=>
  unfold okTy at hk;unfold tyV at hx;split at hk
  ·rename_i ht;rw[ht]at hx;obtain⟨b,rfl⟩:=hx;obtain⟨c,rfl⟩:=okWide_bool ht hval;exact h1 rfl rfl rfl
  ·rename_i k ht;rw[ht]at hx;obtain⟨b,rfl,_⟩:=hx;obtain⟨c,rfl⟩:=okWide_int ht hval;exact h1 rfl rfl rfl
  ·rename_i ht;rw[ht]at hx;obtain⟨b,rfl,_⟩:=hx;obtain⟨c,rfl⟩:=okWide_string ht hval;exact h1 rfl rfl rfl
  ·rename_i e ht;rw[ht]at hx;obtain⟨b,rfl,_⟩:=hx;obtain⟨c,_,_,rfl⟩:=okWide_slice ht hval;exact h1 rfl rfl rfl
  ·rename_i fs ht;rw[ht]at hx;obtain⟨b,rfl,_⟩:=hx;simp only[Value.okWide,ht]at hval;obtain⟨cs,rfl,_⟩:=hval;exact h2 rfl rfl
  ·rename_i m e ht;rw[ht]at hx;obtain⟨b,rfl,_⟩:=hx;simp only[Value.okWide,ht]at hval;obtain⟨cs,rfl,_⟩:=hval;exact h2 rfl rfl
  ·cases hk
theorem jc{n:Nat}{r:Reach}{b0:Nat}:∀ {ts:List TypeId} {vs:List Value} {ds:List (DataW H)} {ps:List MemPlace},DataW.TrodAll enc P w 0 spare held ts vs ds ps->(∀t∈ts,okTy P n t=true)->
  (∀(j:Nat) t v,ts[j]?=some t->vs[j]?=some v->Value.okWide P w r b0 t v)->
  ∃xs:List V,xs.length=vs.length/\vs.length=ts.length/\ds.length=ts.length/\(∀(i:Nat) (t:TypeId) (x:V),ts[i]?=some t->xs[i]?=some x->tyV P n t x)/\∀(i:Nat) (x:V) (v:Value),xs[i]?=some x->vs[i]?=some v->Rd w (λb=>b<w.heap.size) x v
 | [],vs,ds,ps,h,_,_=>by
   obtain⟨rfl,rfl,rfl⟩:=trodAll_nil h;exact⟨[],rfl,rfl,rfl,λi t x h=>by simp at h,λi x v h=>by simp at h⟩
 |t::ts,vs,ds,ps,h,hk,hval=>by
  obtain⟨v,vs',d,ds',p,q,rfl,rfl,rfl,h1,h2⟩:=trodAll_cons h;obtain⟨x,hx1,hx2⟩:=Z8m (hk t (by simp)) (hval 0 t v rfl rfl) h1;obtain⟨xs,q1,q2,q5,q3,q4⟩:=jc h2 (λt ht=>hk t (by simp[ht])) λj t' v' ht hv=>hval (j+1) t' v' (by simpa using ht) (by simpa using hv);refine⟨x::xs,by simp[q1],by simp[q2],by simp[q5],λi t' x' ht hx=> ?_,λi x' v' hx hv=> ?_⟩
  ·cases i with
   |zero=>simp at ht hx;subst ht hx;exact hx1
   |succ i=>exact q3 i t' x' (by simpa using ht) (by simpa using hx)
  ·cases i with
   |zero=>simp at hv hx;subst hv hx;exact hx2
   |succ i=>exact q4 i x' v' (by simpa using hx) (by simpa using hv)
theorem yg{W W':World}(hl:laidOutB P=true)(hb:Below W.heap.size W W'):∀ {ts:List TypeId} {vs:List Value} {ds:List (DataW H)} {ps:List MemPlace},DataW.TrodAll enc P W 0 (λ_=>true) true ts vs ds ps->
  (∀t∈ts,P.readableRec t=true/\t<P.types.size)->(∀x∈ps,x.block<W.heap.size)->DataW.TrodAll enc P W' 0 (λb=>decide (b<W.heap.size)) true ts vs ds ps
 | [],vs,ds,ps,h,_,_=>by
   obtain⟨rfl,rfl,rfl⟩:=trodAll_nil h;exact trodAll_mk0
 |t::ts,vs,ds,ps,h,hk,hlt=>by
  obtain⟨v,vs',d,ds',p,q,rfl,rfl,rfl,h1,h2⟩:=trodAll_cons h;exact trodAll_cons_mk (Below.trod hl (hk t (by simp)).1 (hk t (by simp)).2 h1 hb λx hx=>hlt x (by simp[hx])) (yg hl hb h2 (λt ht=>hk t (by simp[ht])) λx hx=>hlt x (by simp[hx]))
end
theorem zj{P:Program} [Lg P]{f:FuncId}{fn:Func}{s:ChangeSpec}{tb:TypeId}(n:Nat)(hl:laidOutB P=true)(hok:(fn.params.toList.all λt=>okTy P n t)=true)(hread:(fn.params.toList.all λt=>P.readableRec t&&decide (t<P.types.size))=true)
  (hvars:s.vars=[]) (hres:fn.resultTypes=#[tb]) (hb:P.underlying tb=some .bool)
  (hfn:∀(H:Type) (ds:List (DataW H)),ds.length=fn.params.toList.length->s.fn H ds= {results:=[.lit (.bool true)],args:=ds})
  (hlaw:∀xs:List V,xs.length=fn.params.toList.length->(∀(i:Nat) (t:TypeId) (x:V),fn.params.toList[i]?=some t->xs[i]?=some x->tyV P n t x)->VC P f false xs (.bool true))
  (H:Type) (enc:TypeId×Value->H) (W:World) (base:Nat) (args:Array Value) (ds gs:List (DataW H)) (before:List MemPlace)
  (hval:∀(j:Nat) t v,fn.params[j]?=some t->args[j]?=some v->Value.okWide P W .any base t v)
  (hW:DataW.Whole enc P fn.params.toList s.vars false W args.toList ds gs before):
  Lg.calls P f args W λe W'=>∃v,e=.returned v/\s.post enc P fn false true false false W args v W':=by
 have hlt:∀x∈before,x.block<W.heap.size:=λx hx=>by simpa using hW.lt x hx
 have hW':=hW;obtain⟨p,q,hA,hV,rfl,_,_⟩:=hW;rw[hvars]at hV;obtain⟨rfl,rfl⟩:=trodVars_none hV;rw[ZhT]at hlt hW';obtain⟨xs,q1,q2,q5,q3,q4⟩:=jc (n:=n) hA (ZgT.1 hok) λj t v ht hv=>hval j t v (by simpa using ht) (by simpa using hv);obtain⟨_,hvc⟩:=hlaw xs (by rw[q1,q2]) q3;refine Lg.calls_mono (hvc W (λb=>b<W.heap.size) args (λb h=>h) (by simpa using q1.symm) λi x hx=> ?_) λe W' he=> ?_
 ·have hi:i<args.toList.length:=by rw[<-q1];exact(ZgL.1 hx).1
  have:args.getD i undef=args.toList[i]:=by
   have hi2:i<args.size:=by simpa using hi
   simp[ZgN,hi2]
  rw[this];exact q4 i x _ hx (ZgJ hi)
 ·obtain⟨v,rfl,hbel,hrd⟩:=he;cases hrd;refine⟨_,rfl,ds,[],p,[],p,[],hW',?_,?_,?_,hbel.frame _,λh=>by cases h⟩
  ·rw[hfn H _ (by rw[ZhT];exact q5),hres];exact trodAll_mk1 (shut_bool hb true)
  ·rw[hfn H _ (by rw[ZhT];exact q5),ZhT];exact yg hl hbel hA (λt ht=>by simpa using ZgT.1 hread t ht) hlt
  ·rw[hvars,hfn H _ (by rw[ZhT];exact q5)];rfl
theorem Z5E{α:Type}{enc:α->V}{Q:α->Prop}:∀ {l:List V},(∀y∈l,∃a,y=enc a/\Q a)->∃l':List α,l=l'.map enc/\∀a∈l',Q a
 | [],_=>⟨[],rfl,by simp⟩
 |y::l,h=>by
  obtain⟨a,rfl,ha⟩:=h y (by simp);obtain⟨l',rfl,hl⟩:=Z5E (l:=l) λz hz=>h z (Zhb _ hz)
  exact⟨a::l',rfl,λb hb=>by
   rcases Zh0.1 hb with rfl|hb
   ·exact ha
   ·exact hl b hb⟩
theorem Z9t{P:Program}{n:Nat}{t:TypeId}{x:V}{k:IntKind}(ht:P.underlying t=some (.int k))(h:tyV P (n+1) t x):∃m,x=.int k m/\k.min<=m/\m<=k.max:=by
 unfold tyV at h;rw[ht]at h;obtain⟨m,rfl,hw⟩:=h;simp only[Lit.wf,ZgM,Zh1]at hw;exact⟨m,rfl,hw⟩
theorem zY{P:Program}{n:Nat}{t e:TypeId}{x:V}{α:Type}{enc:α->V}{Q:α->Prop}(ht:P.underlying t=some (.slice e))(h:tyV P (n+1) t x)(hQ:∀y,tyV P n e y->∃a,y=enc a/\Q a):∃l:List α,x=.sl (l.map enc)/\l.length<=maxLen/\∀a∈l,Q a:=by
 unfold tyV at h;rw[ht]at h;obtain⟨l,rfl,h1,h2⟩:=h;obtain⟨l',rfl,h3⟩:=Z5E λy hy=>hQ y (h2 y hy);exact⟨l',rfl,by simpa using h1,h3⟩
theorem jB{P:Program}{n:Nat}{t:TypeId}{x:V}{fs:Array Field}(ht:P.underlying t=some (.struct fs))(h:tyV P (n+1) t x):∃ys,x=.agg (flat ys)/\ys.length=fs.toList.length/\∀(i:Nat) (f:Field) (y:V),fs.toList[i]?=some f->ys[i]?=some y->tyV P n f.type y:=by
 unfold tyV at h;rw[ht]at h;exact h
end
end Vm
end
section
namespace Vm
open Go
open Go.Proofs
section
def S6(s:St):List (Nat×SV)->St
 | []=>s
 |(i,x)::l=>S6 (putS s i x) l
@[simp] theorem Zdo(s:St):S6 s []=s:=rfl
@[simp] theorem Zb7(s:St)(i:Nat)(x:SV)(l:List (Nat×SV)):S6 s ((i,x)::l)=S6 (putS s i x) l:=rfl
section
variable {P:Program}[Lg P]{K K':St->Prop}
theorem Z2P(hK:∀s,K s->K' s){t:St}:∀ {l:List (Nat×OV)} {u:St},wpO l t u K->wpO l t u K'
 | [],_,h=>hK _ h
 | (i,o)::l,u,h=>by
   simp only[wpO]at h⊢;split
   ·rename_i x hx;rw[hx]at h;exact Z2P hK h
   ·rename_i hx;rw[hx]at h;exact h
theorem Wv(hK:∀s,K s->K' s):∀ {l:List EF} {s:St},wpE P l s K->wpE P l s K'
 | [],_,h=>hK _ h
 | .lt i C e::l,s,h=>by
   simp only[wpE]at h⊢;split
   ·rename_i hc;rw[if_pos hc]at h;split
    ·rename_i x hx;rw[hx]at h;exact Wv hK h
    ·rename_i hx;rw[hx]at h;exact h
   ·rename_i hc;rw[if_neg hc]at h;exact Wv hK h
 | .call i C f fr fl es::l,s,h=>by
   simp only[wpE]at h⊢;split
   ·rename_i hc;rw[if_pos hc]at h;split
    ·rename_i x n hx hn;rw[hx,hn]at h;obtain⟨r,h1,h2,h3⟩:=h;exact⟨r,h1,h2,Wv hK h3⟩
    ·rename_i hne;split at h
     ·rename_i x n hx hn;exact(hne x n hx hn).elim
     ·exact h
   ·rename_i hc;rw[if_neg hc]at h;exact Wv hK h
 | .callm i C f ks es::l,s,h=>by
   simp only[wpE]at h⊢;split
   ·rename_i hc;rw[if_pos hc]at h;split
    ·rename_i x n hx hn;rw[hx,hn]at h;obtain⟨r,h1,h3⟩:=h;exact⟨r,h1,Wv hK h3⟩
    ·rename_i hx;split at h
     ·rename_i x n h1 h2;exact(hx x n h1 h2).elim
     ·exact h
   ·rename_i hc;rw[if_neg hc]at h;split at h
    ·exact Wv hK h
    ·exact Wv hK h
    ·exact h.elim
theorem Ww:∀ {a:Stm} {s:St} {N N' R R':St->Prop} {X X':Nat->St->Prop},wpS P a s N X R->(∀s,N s->N' s)->(∀i s,X i s->X' i s)->(∀s,R s->R' s)->wpS P a s N' X' R'
 |.reg r,s,_,_,_,_,_,_,h,hN,_,_=>Wv (λt ht=>⟨ht.1,Z2P hN ht.2⟩) h
 |.skip,s,_,_,_,_,_,_,h,hN,_,_=>hN _ h
 |.seq a b,s,_,_,_,_,_,_,h,hN,hX,hR=>Ww (a:=a) (s:=s) h (λt ht=>Ww (a:=b) (s:=t) ht hN hX hR) hX hR
 | .cond c a b,s,_,_,_,_,_,_,h,hN,hX,hR=>by
   simp only[wpS]at h⊢;split
   ·rename_i hc;rw[hc]at h;exact Ww h hN hX hR
   ·rename_i hc;rw[hc]at h;exact Ww h hN hX hR
   ·rename_i h1 h2;split at h
    ·rename_i hc;exact(h1 hc).elim
    ·rename_i hc;exact(h2 hc).elim
    ·exact h
 | .block id a,s,_,_,_,_,_,_,h,hN,hX,hR=>Ww (a:=a) (s:=s) h hN (λi t ht=>by
   split
   ·rename_i hi;rw[if_pos hi]at ht;exact hN _ ht
   ·rename_i hi;rw[if_neg hi]at ht;exact hX _ _ ht) hR
 | .loop keep a,s,_,_,_,_,_,_,h,hN,hX,hR=>by
   obtain⟨I,m,h1,h2⟩:=h;exact⟨I,m,h1,λt ht=>Ww (a:=a) (s:=t) (h2 t ht) (λ_ h=>h) hX hR⟩
 |.exit id,s,_,_,_,_,_,_,h,_,hX,_=>hX _ _ h
 |.ret,s,_,_,_,_,_,_,h,_,_,hR=>hR _ h
end
theorem Xw{P:Program} [Lg P]{keep:List Nat}{a:Stm}{s:St}{N R:St->Prop}{X:Nat->St->Prop}{ι:Type}(L:ι->List (Nat×SV))(Inv:ι->Prop)(m:St->Nat)(p0:ι)
  (h0:YH keep s=S6 (YH keep s) (L p0)) (hI:Inv p0)
  (h1:∀p,Inv p->wpS P a (S6 (YH keep s) (L p)) (λs'=>∃q,Inv q/\YH keep s'=S6 (YH keep s) (L q)/\m (S6 (YH keep s) (L q))<m (S6 (YH keep s) (L p))) X R):
  wpS P (.loop keep a) s N X R:=by
 refine⟨λt=>∃p,Inv p/\t=S6 (YH keep s) (L p),m,⟨p0,hI,h0⟩,?_⟩;rintro t ⟨p,hp,rfl⟩;refine Ww (h1 p hp) (λs' hs=> ?_) (λ_ _ h=>h) (λ_ h=>h);obtain⟨q,hq,he,hm⟩:=hs;rw[he];exact⟨⟨q,hq,rfl⟩,hm⟩
def cnt(c:Nat)(n:Nat)(t:St):Nat:=match get t c with|.v (.int _ k)=>n-k.toNat|_=>0
theorem YJ{P:Program} [Lg P]{keep:List Nat}{a:Stm}{s:St}{N R:St->Prop}{X:Nat->St->Prop}(c n:Nat)(L:Nat->List (Nat×SV))(Inv:Nat->Prop)
  (h0:YH keep s=S6 (YH keep s) (L 0)) (hc:∀i,get (S6 (YH keep s) (L i)) c=.v (vi i)) (hI:Inv 0)
  (h1:∀i,i<=n->Inv i->wpS P a (S6 (YH keep s) (L i)) (λs'=>i<n/\Inv (i+1)/\YH keep s'=S6 (YH keep s) (L (i+1))) X R):
  wpS P (.loop keep a) s N X R:=by
 refine Xw L (λi=>i<=n/\Inv i) (cnt c n) 0 h0 ⟨by omega,hI⟩ ?_;rintro i ⟨hi,hv⟩;refine Ww (h1 i hi hv) (λs' hs=> ?_) (λ_ _ h=>h) (λ_ h=>h);obtain⟨h,hv',he⟩:=hs;refine⟨i+1,⟨by omega,hv'⟩,he,?_⟩;simp only[cnt,hc];simp;omega
theorem Qw{P:Program} [Lg P]{keep:List Nat}{a:Stm}{s:St}{N R:St->Prop}{X:Nat->St->Prop}(c n:Nat)(Inv:Nat->Prop)
  (h0:YH keep s=putS (YH keep s) c (.v (vi 0))) (hc:∀x,get (putS (YH keep s) c x) c=x) (hI:Inv 0)
  (h1:∀i,i<=n->Inv i->wpS P a (putS (YH keep s) c (.v (vi i))) (λs'=>i<n/\Inv (i+1)/\YH keep s'=putS (YH keep s) c (.v (vi (i+1)))) X R):
  wpS P (.loop keep a) s N X R:=
 YJ c n (λi=>[(c,.v (vi i))]) Inv h0 (λi=>hc _) hI h1
end
def p44:Fn:=⟨5,[0,2,3,5,12],
pQ [pR [pV 1 (pU 0),pV 2 (pI 0)],pQ [pR [pV 3 (.bin .eql (.s 0) (pU 0))]] (.cond (.s 3) (pQ [pR [pV 1 (pU 0),pV 2 (pI 6)]] .ret) .skip),pQ [.reg ⟨[.lt 5 [] (.bin .eql (.bin .rem (.s 0) (pU 2)) (pU 0))],[([(5,false)],.bin .eql (.s 0) (pU 1))],[pV 4 (.ite (.s 5) pT (.bin .eql (.s 0) (pU 1)))]⟩] (.cond (.s 4) (pQ [pR [pV 1 (pU 0),pV 2 (pI 3)]] .ret) .skip),pR [pV 1 (.bin .quo (.s 0) (pU 2)),pV 2 (pI 0)]] .ret,[(1,.v),(2,.v)]⟩
def c44:Zj Sol.prog fresh sig [.fz] [] Try.f44=some p44:=by kernel_rfl
def p69:Fn:=⟨5,[0,2,3,4,20],
pQ [pR [(1,.m [pI 0,pI 0]),pV 2 (pI 0)],pR [(3,pM (.ag [.conv .i64 (.bin .rem (.bin .shr (.s 0) (pU 1)) (pU 65536)),.conv .i64 (.bin .shr (.s 0) (pU 17))]) 2)],pQ [.reg ⟨[.lt 5 [] (.bin .neq (.bin .rem (.s 0) (pU 2)) (pU 0)),.call 6 [(5,false)] (.id 94) false false [.mm 3 0 2]],[([(5,false)],.un .not (.s 6))],[pV 4 (.ite (.s 5) pT (.un .not (.s 6)))]⟩] (.cond (.s 4) (pQ [pR [(1,pM (.ag [pI 0,pI 0]) 2),pV 2 (pI 3)]] .ret) .skip),pR [(1,pM (.mm 3 0 2) 2),pV 2 (pI 0)]] .ret,[(1,(.ag 2)),(2,.v)]⟩
def c69:Zj Sol.prog fresh sig [.fz] [] Try.f69=some p69:=by kernel_rfl
def p94:Fn:=⟨3,[0,1,2],
pQ [pR [(1,pS 0 2),pV 2 pF],.reg ⟨[.lt 3 [] (.bin .geq (.m 1 0) (pI 0)),.lt 4 [] (.ite (.s 3) (.bin .leq (.m 1 0) (pI 255)) pF),.lt 5 [] (.ite (.s 4) (.bin .geq (.m 1 1) (pI 0)) pF)],[([(3,true)],.bin .leq (.m 1 0) (pI 255)),([(4,true)],.bin .geq (.m 1 1) (pI 0)),([(5,true)],.bin .leq (.m 1 1) (.m 1 0))],[pV 2 (.ite (.s 5) (.bin .leq (.m 1 1) (.m 1 0)) pF)]⟩] .ret,[(2,.v)]⟩
def c94:Zj Sol.prog fresh sig [.fz] [] Try.f94=some p94:=by kernel_rfl
def p99:Fn:=⟨6,[0,1,2,3,4,8],
pQ [pR [(1,pS 0 2),pV 2 (pU 0),pV 3 (pI 0)],pC [pK 6 116 [.mm 1 0 2]] [pV 4 (.s 6)],pQ [pR [pV 5 (.un .not (.s 4))]] (.cond (.s 5) (pQ [pR [pV 2 (pU 0),pV 3 (pI 1)]] .ret) .skip),pR [pV 2 (.bin .mul (pU 2) (.bin .add (.conv .u64 (.m 1 0)) (.bin .mul (pU 65536) (.conv .u64 (.m 1 1))))),pV 3 (pI 0)]] .ret,[(2,.v),(3,.v)]⟩
def c99:Zj Sol.prog fresh sig [.fz] [] Try.f99=some p99:=by kernel_rfl
def p101:Fn:=⟨4,[0,2,3,9],
pQ [pR [pV 1 (pU 0),pV 2 (pI 0)],pQ [.reg ⟨[.lt 4 [] (.bin .lss (.s 0) (pU 1))],[([(4,false)],.bin .gtr (.s 0) (pU 9223372036854775807))],[pV 3 (.ite (.s 4) pT (.bin .gtr (.s 0) (pU 9223372036854775807)))]⟩] (.cond (.s 3) (pQ [pR [pV 1 (pU 0),pV 2 (pI 1)]] .ret) .skip),pR [pV 1 (.bin .add (.bin .mul (pU 2) (.s 0)) (pU 1)),pV 2 (pI 0)]] .ret,[(1,.v),(2,.v)]⟩
def c101:Zj Sol.prog fresh sig [.fz] [] Try.f101=some p101:=by kernel_rfl
def p116:Fn:=⟨3,[0,1,2],
pQ [pR [(1,pS 0 2),pV 2 pF],.reg ⟨[.lt 3 [] (.bin .geq (.m 1 0) (pI 0)),.lt 4 [] (.ite (.s 3) (.bin .leq (.m 1 0) (pI 255)) pF),.lt 5 [] (.ite (.s 4) (.bin .geq (.m 1 1) (pI 0)) pF)],[([(3,true)],.bin .leq (.m 1 0) (pI 255)),([(4,true)],.bin .geq (.m 1 1) (pI 0)),([(5,true)],.bin .leq (.m 1 1) (.m 1 0))],[pV 2 (.ite (.s 5) (.bin .leq (.m 1 1) (.m 1 0)) pF)]⟩] .ret,[(2,.v)]⟩
def c116:Zj Sol.prog fresh sig [.fz] [] Try.f116=some p116:=by kernel_rfl
end Vm
end
section
namespace Vm
open Go Go.Proofs
def Fit(n:Int):Prop:= -9223372036854775808<=n/\n<=9223372036854775807
def U64(n:Int):Prop:=0<=n/\n<18446744073709551616
def Zr(n:Int)(h1:0<=n)(h2:n<=18446744073709551615):IntKind.u64.wrap n=n:=by
 rw[IntKind.wrap_u64];omega
def ZZ{α:Type}{l:List α}{i:Nat}{x:α}(h:l[i]?=some x):∀hl:i<l.length,l[i]'hl=x:=λhl=>by
 rw[ZgJ hl]at h;exact Zig h
def Zs(size ptrs:Int):Bool:=decide (0<=size)&&decide (size<=255)&&decide (0<=ptrs)&&decide (ptrs<=size)
theorem Zf{s p:Int}:Zs s p=true↔0<=s/\s<=255/\0<=p/\p<=s:=by simp[Zs,and_assoc]
abbrev shV(s p:Int):V:=.agg [vi s,vi p]
def ji{s p:Int}:VC Sol.prog 94 false [shV s p] (.bool (Zs s p)):=by
 refine Z9 Sol.func94 follows (by kernel_rfl) c94 rfl ?_;by_cases h1:0<=s<;>by_cases h2:s<=255<;>by_cases h3:0<=p<;>by_cases h4:p<=s<;>simp[p94,Zs,h1,h2,h3,h4]
def jf{s p:Int}:VC Sol.prog 116 false [shV s p] (.bool (Zs s p)):=by
 refine Z9 Sol.func116 follows (by kernel_rfl) c116 rfl ?_;by_cases h1:0<=s<;>by_cases h2:s<=255<;>by_cases h3:0<=p<;>by_cases h4:p<=s<;>simp[p116,Zs,h1,h2,h3,h4]
def adr(w:Int):Int×Int:=if w=0 then(0,6)else if w%2=0\/w=1 then(0,3)else(w / 2,0)
def ye{w:Int}(hw:U64 w):VC Sol.prog 44 false [vu w] (.tup [vu (adr w).1,vi (adr w).2]):=by
 refine Z9 Sol.func44 follows (by kernel_rfl) c44 rfl ?_;obtain⟨h1,h2⟩:=hw;have e1:w.tmod 2=w%2:=ZhK h1;have e2:w.tdiv 2=w / 2:=ZjX h1;have e3:=Zr (w / 2) (by omega) (by omega);by_cases h0:w=0
 ·simp[p44,adr,h0]
 ·by_cases h3:w%2=0
  ·simp[p44,adr,h0,e1,h3]
  ·by_cases h4:w=1
   ·subst h4;simp[p44,adr]
   ·simp[p44,adr,h0,e1,e2,h3,h4,e3]
def Q3(a:Int):Int×Int:=if a<1\/9223372036854775807<a then(0,1)else(2*a+1,0)
def Z1c{a:Int}(hw:U64 a):VC Sol.prog 101 false [vu a] (.tup [vu (Q3 a).1,vi (Q3 a).2]):=by
 refine Z9 Sol.func101 follows (by kernel_rfl) c101 rfl ?_;obtain⟨h1,h2⟩:=hw;by_cases h3:a<1
 ·simp[p101,Q3,h3]
 ·by_cases h4:9223372036854775807<a
  ·simp[p101,Q3,h3,h4]
  ·have e1:=Zr (2*a) (by omega) (by omega);have e2:=Zr (2*a+1) (by omega) (by omega);simp[p101,Q3,h3,h4,e1,e2]
def Q1(s p:Int):Int×Int:=if Zs s p then(2*(s+65536*p),0)else(0,1)
def Z3P{s p:Int}:VC Sol.prog 99 false [shV s p] (.tup [vu (Q1 s p).1,vi (Q1 s p).2]):=by
 refine Z9 Sol.func99 follows (by kernel_rfl) c99 rfl ?_;simp[p99];refine Z1 jf (by simp) ?_;cases h:Zs s p
 ·simp[Q1,h]
 ·obtain⟨h1,h2,h3,h4⟩:=Zf.1 h;have e1:=Zr s (by omega) (by omega);have e2:=Zr p (by omega) (by omega);have e3:=Zr (65536*p) (by omega) (by omega);have e4:=Zr (s+65536*p) (by omega) (by omega);have e5:=Zr (2*(s+65536*p)) (by omega) (by omega);simp[Q1,h,e1,e2,e3,e4,e5]
def unpk(w:Int):Int×Int×Int:=if w%2=0/\Zs (w / 2%65536) (w / 131072)=true then(w / 2%65536,w / 131072,0)else(0,0,3)
def Z6Y{w:Int}(hw:U64 w):VC Sol.prog 69 false [vu w] (.tup [shV (unpk w).1 (unpk w).2.1,vi (unpk w).2.2]):=by
 refine Z9 Sol.func69 follows (by kernel_rfl) c69 rfl ?_;obtain⟨h1,h2⟩:=hw
 have s1:w.fdiv (2 ^ min 1 IntKind.u64.bits)=w / 2:=by
  rw[show(2:Int) ^ min 1 IntKind.u64.bits=2 by decide];exact ZjW _ (by omega)
 have s2:w.fdiv (2 ^ min 17 IntKind.u64.bits)=w / 131072:=by
  rw[show(2:Int) ^ min 17 IntKind.u64.bits=131072 by decide];exact ZjW _ (by omega)
 have m1:=Zr (w / 2) (by omega) (by omega);have m2:=Zr (w / 131072) (by omega) (by omega);have e1:w.tmod 2=w%2:=ZhK h1;have e2:(w / 2).tmod 65536=w / 2%65536:=ZhK (by omega);have e3:=Z6 (w / 2%65536) (by omega) (by omega);have e4:=Z6 (w / 131072) (by omega) (by omega);simp[p69,binV,s1,s2,e1,e2,e3,e4,m1,m2];by_cases h3:w%2=0
 ·simp[h3];refine Z1 ji (by simp) ?_;cases h4:Zs (w / 2%65536) (w / 131072)
  ·simp[unpk,h3,h4]
  ·simp[unpk,h3,h4]
 ·simp[h3,unpk]
end Vm
end
section
namespace Vm
open Go
open Go.Proofs
def p31:Fn:=⟨11,[0,1,2,3,4,5,6,12,7,8,28],
pQ [pR [(2,pS 0 7),(3,pS 1 2),pV 4 (pU 0),pV 5 (pI 0)],pC [pK 11 62 [.mm 2 0 7]] [pV 6 (.s 11)],pQ [pR [pV 7 (.un .not (.s 6))]] (.cond (.s 7) (pQ [pR [pV 4 (pU 0),pV 5 (pI 1)]] .ret) .skip),pC [pK 12 63 [.mm 2 0 7,.m 3 0]] [pV 8 (.ext (.s 12) 0),pV 9 (.ext (.s 12) 1)],pQ [.reg ⟨[.lt 13 [] (.bin .lss (.m 3 1) (pI 0))],[([(13,false)],.bin .geq (.m 3 1) (.s 9))],[pV 10 (.ite (.s 13) pT (.bin .geq (.m 3 1) (.s 9)))]⟩] (.cond (.s 10) (pQ [pR [pV 4 (pU 0),pV 5 (pI 6)]] .ret) .skip),pR [pV 4 (.bin .add (.s 8) (.conv .u64 (.m 3 1))),pV 5 (pI 0)]] .ret,[(4,.v),(5,.v)]⟩
def c31:Zj Sol.prog fresh sig [.fz,.fz] [] Try.f31=some p31:=by kernel_rfl
def p62:Fn:=⟨5,[0,1,2,35,53],
pQ [pR [(1,pS 0 7),pV 2 pF],pQ [.reg ⟨[.lt 5 [] (.bin .lss (.m 1 0) (pU 1)),.lt 6 [] (.ite (.s 5) pT (.bin .lss (.m 1 1) (pI 0))),.lt 7 [] (.ite (.s 6) pT (.bin .gtr (.m 1 1) (pI 4096))),.lt 8 [] (.ite (.s 7) pT (.bin .gtr (.m 1 0) (.bin .sub (pU 9223372036854775808) (.bin .mul (pU 2) (.conv .u64 (.m 1 1)))))),.lt 9 [] (.ite (.s 8) pT (.bin .lss (.m 1 2) (pI 0)))],[([(5,false)],.bin .lss (.m 1 1) (pI 0)),([(6,false)],.bin .gtr (.m 1 1) (pI 4096)),([(7,false)],.bin .gtr (.m 1 0) (.bin .sub (pU 9223372036854775808) (.bin .mul (pU 2) (.conv .u64 (.m 1 1))))),([(8,false)],.bin .lss (.m 1 2) (pI 0)),([(9,false)],.bin .gtr (.m 1 2) (pI 1))],[pV 3 (.ite (.s 9) pT (.bin .gtr (.m 1 2) (pI 1)))]⟩] (.cond (.s 3) (pQ [pR [pV 2 pF]] .ret) .skip),pQ [.reg ⟨[.lt 10 [] (.bin .lss (.m 1 3) (pI 0)),.lt 11 [] (.ite (.s 10) pT (.bin .lss (.m 1 4) (pI 0))),.lt 12 [] (.ite (.s 11) pT (.bin .lss (.m 1 5) (pI 0)))],[([(10,false)],.bin .lss (.m 1 4) (pI 0)),([(11,false)],.bin .lss (.m 1 5) (pI 0)),([(12,false)],.bin .lss (.m 1 6) (pI 0))],[pV 4 (.ite (.s 12) pT (.bin .lss (.m 1 6) (pI 0)))]⟩] (.cond (.s 4) (pQ [pR [pV 2 pF]] .ret) .skip),.reg ⟨[.lt 13 [] (.bin .leq (.m 1 3) (.m 1 1)),.lt 14 [] (.ite (.s 13) (.bin .leq (.m 1 4) (.bin .sub (.m 1 1) (.m 1 3))) pF),.lt 15 [] (.ite (.s 14) (.bin .leq (.m 1 5) (.m 1 1)) pF)],[([(13,true)],.bin .leq (.m 1 4) (.bin .sub (.m 1 1) (.m 1 3))),([(14,true)],.bin .leq (.m 1 5) (.m 1 1)),([(15,true)],.bin .leq (.m 1 6) (.bin .sub (.m 1 1) (.m 1 5)))],[pV 2 (.ite (.s 15) (.bin .leq (.m 1 6) (.bin .sub (.m 1 1) (.m 1 5))) pF)]⟩] .ret,[(2,.v)]⟩
def c62:Zj Sol.prog fresh sig [.fz] [] Try.f62=some p62:=by kernel_rfl
def p63:Fn:=⟨12,[0,1,2,4,5,6,7,28,27,33,45,50],
pQ [pR [(2,pS 0 7),pV 3 (pU 0),pV 4 (pI 0)],pR [pV 5 (.bin .add (.m 2 0) (.conv .u64 (.bin .mul (.m 2 2) (.m 2 1))))],pR [pV 6 (.bin .add (.m 2 0) (.conv .u64 (.bin .mul (.bin .sub (pI 1) (.m 2 2)) (.m 2 1))))],pQ [pR [pV 8 (.s 1)]] (.block 0 (pQ [pR [pV 7 (.bin .eql (.s 8) (pI 1))]] (.cond (.s 7) (pQ [pR [pV 3 (.s 5),pV 4 (.m 2 3)]] .ret) (pQ [pR [pV 9 (.bin .eql (.s 8) (pI 2))]] (.cond (.s 9) (pQ [pR [pV 3 (.bin .add (.s 5) (.conv .u64 (.bin .sub (.m 2 1) (.m 2 4)))),pV 4 (.m 2 4)]] .ret) (pQ [pR [pV 10 (.bin .eql (.s 8) (pI 3))]] (.cond (.s 10) (pQ [pR [pV 3 (.s 6),pV 4 (.m 2 5)]] .ret) (pQ [pR [pV 11 (.bin .eql (.s 8) (pI 4))]] (.cond (.s 11) (pQ [pR [pV 3 (.bin .add (.s 6) (.conv .u64 (.bin .sub (.m 2 1) (.m 2 6)))),pV 4 (.m 2 6)]] .ret) .skip))))))))),pR [pV 3 (pU 0),pV 4 (pI 0)]] .ret,[(3,.v),(4,.v)]⟩
def c63:Zj Sol.prog fresh sig [.fz,.fz] [] Try.f63=some p63:=by kernel_rfl
def p65:Fn:=⟨4,[0,1,2,25],
pQ [pR [(1,pS 0 7),pV 2 pF],pQ [.reg ⟨[.lt 4 [] (.bin .lss (.m 1 1) (pI 0)),.lt 5 [] (.ite (.s 4) pT (.bin .gtr (.m 1 1) (pI 4096))),.lt 6 [] (.ite (.s 5) pT (.bin .lss (.m 1 0) (pU 1)))],[([(4,false)],.bin .gtr (.m 1 1) (pI 4096)),([(5,false)],.bin .lss (.m 1 0) (pU 1)),([(6,false)],.bin .gtr (.m 1 0) (.bin .sub (pU 9223372036854775808) (.bin .mul (pU 2) (.conv .u64 (.m 1 1)))))],[pV 3 (.ite (.s 6) pT (.bin .gtr (.m 1 0) (.bin .sub (pU 9223372036854775808) (.bin .mul (pU 2) (.conv .u64 (.m 1 1))))))]⟩] (.cond (.s 3) (pQ [pR [pV 2 pF]] .ret) .skip),.reg ⟨[.lt 7 [] (.bin .eql (.m 1 2) (pI 0)),.lt 8 [] (.ite (.s 7) pT (.bin .eql (.m 1 2) (pI 1))),.call 9 [(8,true)] (.id 91) false false [.m 1 3,.m 1 4,.m 1 1],.lt 10 [] (.ite (.s 8) (.s 9) pF),.call 11 [(10,true)] (.id 91) false false [.m 1 5,.m 1 6,.m 1 1]],[([(7,false)],.bin .eql (.m 1 2) (pI 1))],[pV 2 (.ite (.s 10) (.s 11) pF)]⟩] .ret,[(2,.v)]⟩
def c65:Zj Sol.prog fresh sig [.fz] [] Try.f65=some p65:=by kernel_rfl
def p75:Fn:=⟨10,[0,1,2,3,4,5,9,17,6,33],
pQ [pR [(2,pS 0 7),(3,pS 1 2),pV 4 (pU 0),pV 5 (pI 0)],pQ [pC [pK 10 65 [.mm 2 0 7]] [pV 6 (.un .not (.s 10))]] (.cond (.s 6) (pQ [pR [pV 4 (pU 0),pV 5 (pI 1)]] .ret) .skip),pQ [.reg ⟨[.lt 11 [] (.bin .lss (.m 3 0) (pI 1))],[([(11,false)],.bin .gtr (.m 3 0) (pI 4))],[pV 7 (.ite (.s 11) pT (.bin .gtr (.m 3 0) (pI 4)))]⟩] (.cond (.s 7) (pQ [pR [pV 4 (pU 0),pV 5 (pI 6)]] .ret) .skip),pC [pK 12 93 [.mm 2 0 7]] [(8,pM (.sz (.ai (.s 12) (.bin .sub (.m 3 0) (pI 1)) 4 2 true) 2) 2)],pQ [.reg ⟨[.lt 13 [] (.bin .lss (.m 3 1) (pI 0))],[([(13,false)],.bin .geq (.m 3 1) (.m 8 1))],[pV 9 (.ite (.s 13) pT (.bin .geq (.m 3 1) (.m 8 1)))]⟩] (.cond (.s 9) (pQ [pR [pV 4 (pU 0),pV 5 (pI 6)]] .ret) .skip),pR [pV 4 (.bin .add (.m 8 0) (.conv .u64 (.m 3 1))),pV 5 (pI 0)]] .ret,[(4,.v),(5,.v)]⟩
def c75:Zj Sol.prog fresh sig [.fz,.fz] [] Try.f75=some p75:=by kernel_rfl
def p91:Fn:=⟨4,[0,1,2,6],
pQ [pR [pV 3 pF],.reg ⟨[.lt 4 [] (.bin .geq (.s 0) (pI 0)),.lt 5 [] (.ite (.s 4) (.bin .geq (.s 1) (pI 0)) pF),.lt 6 [] (.ite (.s 5) (.bin .leq (.s 0) (.s 2)) pF)],[([(4,true)],.bin .geq (.s 1) (pI 0)),([(5,true)],.bin .leq (.s 0) (.s 2)),([(6,true)],.bin .leq (.s 1) (.bin .sub (.s 2) (.s 0)))],[pV 3 (.ite (.s 6) (.bin .leq (.s 1) (.bin .sub (.s 2) (.s 0))) pF)]⟩] .ret,[(3,.v)]⟩
def c91:Zj Sol.prog fresh sig [.fz,.fz,.fz] [] Try.f91=some p91:=by kernel_rfl
def p93:Fn:=⟨3,[0,1,2],
pQ [pR [(1,pS 0 7),(2,.m [pU 0,pI 0,pU 0,pI 0,pU 0,pI 0,pU 0,pI 0])],pC [pK 3 113 [.mm 1 0 7,pI 1],pK 4 113 [.mm 1 0 7,pI 2],pK 5 113 [.mm 1 0 7,pI 3],pK 6 113 [.mm 1 0 7,pI 4]] [(2,pM (.ag [.fld (.ag [.one (.s 3),.m 1 3]) 0,.fld (.ag [.one (.s 3),.m 1 3]) 1,.fld (.ag [.one (.s 4),.m 1 4]) 0,.fld (.ag [.one (.s 4),.m 1 4]) 1,.fld (.ag [.one (.s 5),.m 1 5]) 0,.fld (.ag [.one (.s 5),.m 1 5]) 1,.fld (.ag [.one (.s 6),.m 1 6]) 0,.fld (.ag [.one (.s 6),.m 1 6]) 1]) 8)]] .ret,[(2,(.ag 8))]⟩
def c93:Zj Sol.prog fresh sig [.fz] [] Try.f93=some p93:=by kernel_rfl
def p113:Fn:=⟨10,[0,1,2,4,5,9,8,11,13,15],
pQ [pR [(2,pS 0 7),pV 3 (pU 0)],pR [pV 4 (.m 2 0)],pQ [pR [pV 6 (.s 1)]] (.block 0 (pQ [.block 4 (pQ [.block 3 (pQ [.block 2 (pQ [.block 1 (pQ [pQ [pQ [pR [pV 5 (.bin .eql (.s 6) (pI 2))]] (.cond (.s 5) (.exit 1) .skip),pQ [pR [pV 7 (.bin .eql (.s 6) (pI 1))]] (.cond (.s 7) (.exit 2) .skip),pQ [pR [pV 8 (.bin .eql (.s 6) (pI 4))]] (.cond (.s 8) (.exit 3) .skip),pR [pV 9 (.bin .eql (.s 6) (pI 3))]] (.cond (.s 9) (.exit 4) .skip)] (.exit 0))] (pR [pV 4 (.bin .add (.s 4) (.conv .u64 (.bin .sub (.m 2 1) (.m 2 4))))])),pR [pV 4 (.bin .add (.s 4) (.conv .u64 (.bin .mul (.m 2 2) (.m 2 1))))]] (.exit 0))] (pR [pV 4 (.bin .add (.s 4) (.conv .u64 (.bin .sub (.m 2 1) (.m 2 6))))])),pR [pV 4 (.bin .add (.s 4) (.conv .u64 (.bin .mul (.bin .sub (pI 1) (.m 2 2)) (.m 2 1))))]] (.exit 0))),pR [pV 3 (.s 4)]] .ret,[(3,.v)]⟩
def c113:Zj Sol.prog fresh sig [.fz,.fz] [] Try.f113=some p113:=by kernel_rfl
end Vm
end
section
namespace Vm
open Go Go.Proofs
structure Ly where
 base:Int
 cap:Int
 to:Int
 low:Int
 high:Int
 old:Int
 far:Int
 deriving DecidableEq,Inhabited
def lyV(l:Ly):V:=.agg [vu l.base,vi l.cap,vi l.to,vi l.low,vi l.high,vi l.old,vi l.far]
@[simp] theorem ZfE(l:Ly):szV (lyV l) 7=some (lyV l):=rfl
@[simp] theorem ZcI(l:Ly):(lyV l).cells=[vu l.base,vi l.cap,vi l.to,vi l.low,vi l.high,vi l.old,vi l.far]:=rfl
@[simp] theorem ZbY(l:Ly):fldV (lyV l) 0=some (vu l.base):=rfl
@[simp] theorem ZbZ(l:Ly):fldV (lyV l) 1=some (vi l.cap):=rfl
@[simp] theorem Zc0(l:Ly):fldV (lyV l) 2=some (vi l.to):=rfl
@[simp] theorem Zc1(l:Ly):fldV (lyV l) 3=some (vi l.low):=rfl
@[simp] theorem Zc2(l:Ly):fldV (lyV l) 4=some (vi l.high):=rfl
@[simp] theorem Zc3(l:Ly):fldV (lyV l) 5=some (vi l.old):=rfl
@[simp] theorem Zc4(l:Ly):fldV (lyV l) 6=some (vi l.far):=rfl
def Ly.fits(l:Ly):Prop:=U64 l.base/\Fit l.cap/\Fit l.to/\Fit l.low/\Fit l.high/\Fit l.old/\Fit l.far
def WA(a b words:Int):Bool:=decide (0<=a)&&decide (0<=b)&&decide (a<=words)&&decide (b<=words-a)
def Zl(l:Ly):Bool:=decide (0<=l.cap)&&decide (l.cap<=4096)&&decide (1<=l.base)&&decide (l.base<=9223372036854775808-2*l.cap)&&(decide (l.to=0)||decide (l.to=1))&&WA l.low l.high l.cap&&WA l.old l.far l.cap
def Ys{l:Ly}:Zl l=true↔0<=l.cap/\l.cap<=4096/\1<=l.base/\l.base<=9223372036854775808-2*l.cap/\(l.to=0\/l.to=1)/\(0<=l.low/\0<=l.high/\l.low<=l.cap/\l.high<=l.cap-l.low)/\(0<=l.old/\0<=l.far/\l.old<=l.cap/\l.far<=l.cap-l.old):=by
 simp[Zl,WA,and_assoc]
def ZF{l:Ly}:Zl l=false↔ ¬(0<=l.cap/\l.cap<=4096/\1<=l.base/\l.base<=9223372036854775808-2*l.cap/\(l.to=0\/l.to=1)/\(0<=l.low/\0<=l.high/\l.low<=l.cap/\l.high<=l.cap-l.low)/\(0<=l.old/\0<=l.far/\l.old<=l.cap/\l.far<=l.cap-l.old)):=by
 rw[<-Ys];simp
def jL{a b w:Int}(ha:Fit a)(hb:Fit b)(hw:Fit w):VC Sol.prog 91 false [vi a,vi b,vi w] (.bool (WA a b w)):=by
 refine Z9 Sol.func91 follows (by kernel_rfl) c91 rfl ?_;obtain⟨a1,a2⟩:=ha;obtain⟨w1,w2⟩:=hw;by_cases h1:0<=a
 ·by_cases h2:a<=w
  ·have e:=Z6 (w-a) (by omega) (by omega);by_cases h3:0<=b<;>simp[p91,WA,h1,h2,h3,e]
  ·by_cases h3:0<=b<;>simp[p91,WA,h1,h2,h3]
 ·simp[p91,WA,h1]
def jj{l:Ly}(hl:l.fits):VC Sol.prog 65 false [lyV l] (.bool (Zl l)):=by
 refine Z9 Sol.func65 follows (by kernel_rfl) c65 rfl ?_;obtain⟨⟨hb1,hb2⟩,hc,ht,h1,h2,h3,h4⟩:=hl;obtain⟨c1,c2⟩:=hc;simp[p65];by_cases g1:l.cap<0
 ·have:Zl l=false:=ZF.2 (by omega);simp[g1,this]
 by_cases g2:4096<l.cap
 ·have:Zl l=false:=ZF.2 (by omega);simp[g1,g2,this]
 by_cases g3:l.base<1
 ·have:Zl l=false:=ZF.2 (by omega);simp[g1,g2,g3,this]
 have e1:=Zr l.cap (by omega) (by omega);have e2:=Zr (2*l.cap) (by omega) (by omega);have e3:=Zr (9223372036854775808-2*l.cap) (by omega) (by omega);by_cases g4:9223372036854775808-2*l.cap<l.base
 ·have:Zl l=false:=ZF.2 (by omega);simp[g1,g2,g3,e1,e2,e3,g4,this]
 by_cases g5:l.to=0\/l.to=1
 ·have k1:=jL h1 h2 ⟨c1,c2⟩;have k2:=jL h3 h4 ⟨c1,c2⟩
  have hr:Zl l=(WA l.low l.high l.cap&&WA l.old l.far l.cap):=by
   rcases g5 with h|h<;>simp[Zl,show 0<=l.cap by omega,show l.cap<=4096 by omega,show 1<=l.base by omega,show l.base<=9223372036854775808-2*l.cap by omega,h]
  rw[hr];rcases g5 with g5|g5
  all_goals
   cases hw:WA l.low l.high l.cap
   ·rw[hw]at k1;simp[g1,g2,g3,e1,e2,e3,g4,g5];refine Z1 k1 (by simp) ?_;simp
   ·rw[hw]at k1;simp[g1,g2,g3,e1,e2,e3,g4,g5];refine Z1 k1 (by simp) ?_;simp;refine Z1 k2 (by simp) ?_;simp
 ·have:Zl l=false:=ZF.2 (by omega);have g6:¬l.to=0:=λh=>g5 (.inl h);have g7:¬l.to=1:=λh=>g5 (.inr h);simp[g1,g2,g3,e1,e2,e3,g4,g6,g7,this]
def jg{l:Ly}(hl:l.fits):VC Sol.prog 62 false [lyV l] (.bool (Zl l)):=by
 refine Z9 Sol.func62 follows (by kernel_rfl) c62 rfl ?_;obtain⟨⟨hb1,hb2⟩,hc,ht,h1,h2,h3,h4⟩:=hl;obtain⟨c1,c2⟩:=hc;simp[p62];by_cases g3:l.base<1
 ·have:Zl l=false:=ZF.2 (by omega);simp[g3,this]
 by_cases g1:l.cap<0
 ·have:Zl l=false:=ZF.2 (by omega);simp[g1,g3,this]
 by_cases g2:4096<l.cap
 ·have:Zl l=false:=ZF.2 (by omega);simp[g1,g2,g3,this]
 have e1:=Zr l.cap (by omega) (by omega);have e2:=Zr (2*l.cap) (by omega) (by omega);have e3:=Zr (9223372036854775808-2*l.cap) (by omega) (by omega);by_cases g4:9223372036854775808-2*l.cap<l.base
 ·have:Zl l=false:=ZF.2 (by omega);simp[g1,g2,g3,e1,e2,e3,g4,this]
 by_cases g5:l.to<0
 ·have:Zl l=false:=ZF.2 (by omega);simp[g1,g2,g3,e1,e2,e3,g4,g5,this]
 by_cases g6:1<l.to
 ·have:Zl l=false:=ZF.2 (by omega);simp[g1,g2,g3,e1,e2,e3,g4,g5,g6,this]
 by_cases q1:l.low<0
 ·have:Zl l=false:=ZF.2 (by omega);simp[g1,g2,g3,e1,e2,e3,g4,g5,g6,q1,this]
 by_cases q2:l.high<0
 ·have:Zl l=false:=ZF.2 (by omega);simp[g1,g2,g3,e1,e2,e3,g4,g5,g6,q1,q2,this]
 by_cases q3:l.old<0
 ·have:Zl l=false:=ZF.2 (by omega);simp[g1,g2,g3,e1,e2,e3,g4,g5,g6,q1,q2,q3,this]
 by_cases q4:l.far<0
 ·have:Zl l=false:=ZF.2 (by omega);simp[g1,g2,g3,e1,e2,e3,g4,g5,g6,q1,q2,q3,q4,this]
 obtain⟨l1,l2⟩:=h1;obtain⟨o1,o2⟩:=h3;have w1:=Z6 (l.cap-l.low) (by omega) (by omega);have w2:=Z6 (l.cap-l.old) (by omega) (by omega);by_cases r1:l.low<=l.cap
 ·by_cases r2:l.high<=l.cap-l.low
  ·by_cases r3:l.old<=l.cap
   ·by_cases r4:l.far<=l.cap-l.old
    ·have:Zl l=true:=Ys.2 (by omega);simp[g1,g2,g3,e1,e2,e3,g4,g5,g6,q1,q2,q3,q4,w1,w2,r1,r2,r3,r4,this]
    ·have:Zl l=false:=ZF.2 (by omega);simp[g1,g2,g3,e1,e2,e3,g4,g5,g6,q1,q2,q3,q4,w1,w2,r1,r2,r3,r4,this]
   ·have:Zl l=false:=ZF.2 (by omega);simp[g1,g2,g3,e1,e2,e3,g4,g5,g6,q1,q2,q3,q4,w1,w2,r1,r2,r3,this]
  ·have:Zl l=false:=ZF.2 (by omega);simp[g1,g2,g3,e1,e2,e3,g4,g5,g6,q1,q2,q3,q4,w1,w2,r1,r2,this]
 ·have:Zl l=false:=ZF.2 (by omega);simp[g1,g2,g3,e1,e2,e3,g4,g5,g6,q1,q2,q3,q4,w1,w2,r1,this]
def fstL(l:Ly)(part:Int):Int:=
 if part=1 then l.base+l.to*l.cap else if part=2 then l.base+l.to*l.cap+(l.cap-l.high)else if part=3 then l.base+(1-l.to)*l.cap else l.base+(1-l.to)*l.cap+(l.cap-l.far)
def sizL(l:Ly)(part:Int):Int:=if part=1 then l.low else if part=2 then l.high else if part=3 then l.old else l.far
def Z8E{l:Ly}(hr:Zl l=true):(l.to*l.cap=0/\(1-l.to)*l.cap=l.cap)\/(l.to*l.cap=l.cap/\(1-l.to)*l.cap=0):=by
 obtain⟨_,_,_,_,ht,_⟩:=Ys.1 hr;rcases ht with h|h
 ·rw[h];exact .inl ⟨by simp,by simp⟩
 ·rw[h];exact .inr ⟨by simp,by simp⟩
def Y1{l:Ly}(hr:Zl l=true)(k:Int):1<=fstL l k/\fstL l k+sizL l k<=9223372036854775808/\0<=sizL l k/\sizL l k<=4096:=by
 have h:=Ys.1 hr;have ht:=Z8E hr;unfold fstL sizL;by_cases k1:k=1
 ·simp only[if_pos k1];omega
 by_cases k2:k=2
 ·simp only[if_neg k1,if_pos k2];omega
 by_cases k3:k=3
 ·simp only[if_neg k1,if_neg k2,if_pos k3];omega
 ·simp only[if_neg k1,if_neg k2,if_neg k3];omega
def Q9{l:Ly}(hr:Zl l=true){k:Int}(hk:1<=k/\k<=4):VC Sol.prog 113 false [lyV l,vi k] (vu (fstL l k)):=by
 refine Z9 Sol.func113 follows (by kernel_rfl) c113 rfl ?_;have h:=Ys.1 hr;have ht:=Z8E hr;have w1:=Z6 (l.to*l.cap) (by omega) (by omega);have w2:=Z6 (1-l.to) (by omega) (by omega);have w3:=Z6 ((1-l.to)*l.cap) (by omega) (by omega);have w4:=Z6 (l.cap-l.high) (by omega) (by omega);have w5:=Z6 (l.cap-l.far) (by omega) (by omega);have u1:=Zr (l.to*l.cap) (by omega) (by omega);have u3:=Zr ((1-l.to)*l.cap) (by omega) (by omega);have u4:=Zr (l.cap-l.high) (by omega) (by omega);have u5:=Zr (l.cap-l.far) (by omega) (by omega);have v1:=Zr (l.base+l.to*l.cap) (by omega) (by omega);have v2:=Zr (l.base+(l.cap-l.high)) (by omega) (by omega);have v3:=Zr (l.base+(l.cap-l.high)+l.to*l.cap) (by omega) (by omega);have v4:=Zr (l.base+(1-l.to)*l.cap) (by omega) (by omega);have v5:=Zr (l.base+(l.cap-l.far)) (by omega) (by omega);have v6:=Zr (l.base+(l.cap-l.far)+(1-l.to)*l.cap) (by omega) (by omega);have hk':k=1\/k=2\/k=3\/k=4:=by omega
 rcases hk' with rfl|rfl|rfl|rfl
 ·simp[p113,UD,fstL,w1,u1,v1]
 ·simp[p113,UD,fstL,w1,u1,w4,u4,v2,v3];omega
 ·simp[p113,UD,fstL,w2,w3,u3,v4]
 ·simp[p113,UD,fstL,w2,w3,u3,w5,u5,v5,v6];omega
def K0(l:Ly):V:=.agg [vu (fstL l 1),vi l.low,vu (fstL l 2),vi l.high,vu (fstL l 3),vi l.old,vu (fstL l 4),vi l.far]
def Z8C{l:Ly}(hr:Zl l=true):VC Sol.prog 93 false [lyV l] (K0 l):=by
 refine Z9 Sol.func93 follows (by kernel_rfl) c93 rfl ?_;simp[p93];refine Z1 (Q9 hr (k:=1) (by omega)) (by simp[lyV]) ?_;simp;refine Z1 (Q9 hr (k:=2) (by omega)) (by simp[lyV]) ?_;simp;refine Z1 (Q9 hr (k:=3) (by omega)) (by simp[lyV]) ?_;simp;refine Z1 (Q9 hr (k:=4) (by omega)) (by simp[lyV]) ?_;simp[K0]
@[simp] theorem ZdA(l:Ly):sizL l 1=l.low:=rfl
@[simp] theorem ZdB(l:Ly):sizL l 2=l.high:=rfl
@[simp] theorem ZdC(l:Ly):sizL l 3=l.old:=rfl
@[simp] theorem ZdD(l:Ly):sizL l 4=l.far:=rfl
def ZI(l:Ly)(part at_:Int):Int×Int:=
 if Zl l=false then(0,1)else if part<1\/4<part then(0,6)else if at_<0\/sizL l part<=at_ then(0,6)else(fstL l part+at_,0)
def Z1B{l:Ly}(hl:l.fits){part at_:Int}:VC Sol.prog 75 false [lyV l,.agg [vi part,vi at_]] (.tup [vu (ZI l part at_).1,vi (ZI l part at_).2]):=by
 refine Z9 Sol.func75 follows (by kernel_rfl) c75 rfl ?_;simp[p75];refine Z1 (jj hl) (by simp) ?_;cases hr:Zl l
 ·simp[ZI,hr]
 ·simp;by_cases h1:part<1
  ·simp[ZI,hr,h1]
  by_cases h2:4<part
  ·simp[ZI,hr,h1,h2]
  have hk:part=1\/part=2\/part=3\/part=4:=by omega
  simp[h1,h2];refine Z1 (Z8C hr) (by simp[K0]) ?_;rcases hk with rfl|rfl|rfl|rfl
  ·have hw:=Y1 hr 1;simp only[ZdA]at hw;simp[K0,aiV,Z6];by_cases h3:at_<0
   ·simp[ZI,hr,h3]
   by_cases h4:l.low<=at_
   ·simp[ZI,hr,h3,h4]
   ·have u1:=Zr at_ (by omega) (by omega);have u2:=Zr (fstL l 1+at_) (by omega) (by omega);simp[ZI,hr,h3,h4,u1,u2]
  ·have hw:=Y1 hr 2;simp only[ZdB]at hw;simp[K0,aiV,Z6];by_cases h3:at_<0
   ·simp[ZI,hr,h3]
   by_cases h4:l.high<=at_
   ·simp[ZI,hr,h3,h4]
   ·have u1:=Zr at_ (by omega) (by omega);have u2:=Zr (fstL l 2+at_) (by omega) (by omega);simp[ZI,hr,h3,h4,u1,u2]
  ·have hw:=Y1 hr 3;simp only[ZdC]at hw;simp[K0,aiV,Z6];by_cases h3:at_<0
   ·simp[ZI,hr,h3]
   by_cases h4:l.old<=at_
   ·simp[ZI,hr,h3,h4]
   ·have u1:=Zr at_ (by omega) (by omega);have u2:=Zr (fstL l 3+at_) (by omega) (by omega);simp[ZI,hr,h3,h4,u1,u2]
  ·have hw:=Y1 hr 4;simp only[ZdD]at hw;simp[K0,aiV,Z6];by_cases h3:at_<0
   ·simp[ZI,hr,h3]
   by_cases h4:l.far<=at_
   ·simp[ZI,hr,h3,h4]
   ·have u1:=Zr at_ (by omega) (by omega);have u2:=Zr (fstL l 4+at_) (by omega) (by omega);simp[ZI,hr,h3,h4,u1,u2]
def X8{l:Ly}(hr:Zl l=true){k:Int}(hk:1<=k/\k<=4):VC Sol.prog 63 false [lyV l,vi k] (.tup [vu (fstL l k),vi (sizL l k)]):=by
 refine Z9 Sol.func63 follows (by kernel_rfl) c63 rfl ?_;have h:=Ys.1 hr;have ht:=Z8E hr;have w1:=Z6 (l.to*l.cap) (by omega) (by omega);have w2:=Z6 (1-l.to) (by omega) (by omega);have w3:=Z6 ((1-l.to)*l.cap) (by omega) (by omega);have w4:=Z6 (l.cap-l.high) (by omega) (by omega);have w5:=Z6 (l.cap-l.far) (by omega) (by omega);have u1:=Zr (l.to*l.cap) (by omega) (by omega);have u3:=Zr ((1-l.to)*l.cap) (by omega) (by omega);have u4:=Zr (l.cap-l.high) (by omega) (by omega);have u5:=Zr (l.cap-l.far) (by omega) (by omega);have v1:=Zr (l.base+l.to*l.cap) (by omega) (by omega);have v2:=Zr (l.base+l.to*l.cap+(l.cap-l.high)) (by omega) (by omega);have v4:=Zr (l.base+(1-l.to)*l.cap) (by omega) (by omega);have v5:=Zr (l.base+(1-l.to)*l.cap+(l.cap-l.far)) (by omega) (by omega);have hk':k=1\/k=2\/k=3\/k=4:=by omega
 rcases hk' with rfl|rfl|rfl|rfl
 all_goals simp[p63,UD,fstL,w1,u1,w2,w3,u3,w4,u4,w5,u5,v1,v2,v4,v5]
def JK{l:Ly}(hr:Zl l=true){k:Int}(hk:k<1\/4<k):VC Sol.prog 63 false [lyV l,vi k] (.tup [vu 0,vi 0]):=by
 refine Z9 Sol.func63 follows (by kernel_rfl) c63 rfl ?_;simp[p63,UD,show k≠1 by omega,show k≠2 by omega,show k≠3 by omega,show k≠4 by omega]
def Z1b{l:Ly}(hl:l.fits){part at_:Int}:VC Sol.prog 31 false [lyV l,.agg [vi part,vi at_]] (.tup [vu (ZI l part at_).1,vi (ZI l part at_).2]):=by
 refine Z9 Sol.func31 follows (by kernel_rfl) c31 rfl ?_;simp[p31];refine Z1 (jg hl) (by simp) ?_;cases hr:Zl l
 ·simp[ZI,hr]
 ·simp;by_cases hp:part<1\/4<part
  ·refine Z1 (JK hr hp) (by simp) ?_;by_cases h3:at_<0
   ·simp[ZI,hr,hp,h3]
   ·simp[ZI,hr,hp,h3,show 0<=at_ by omega]
  have hk:part=1\/part=2\/part=3\/part=4:=by omega
  rcases hk with rfl|rfl|rfl|rfl
  ·have hw:=Y1 hr 1;simp only[ZdA]at hw;refine Z1 (X8 hr (k:=1) (by omega)) (by simp) ?_;by_cases h3:at_<0
   ·simp[ZI,hr,h3]
   by_cases h4:l.low<=at_
   ·simp[ZI,hr,h3,h4]
   ·have u1:=Zr at_ (by omega) (by omega);have u2:=Zr (fstL l 1+at_) (by omega) (by omega);simp[ZI,hr,h3,h4,u1,u2]
  ·have hw:=Y1 hr 2;simp only[ZdB]at hw;refine Z1 (X8 hr (k:=2) (by omega)) (by simp) ?_;by_cases h3:at_<0
   ·simp[ZI,hr,h3]
   by_cases h4:l.high<=at_
   ·simp[ZI,hr,h3,h4]
   ·have u1:=Zr at_ (by omega) (by omega);have u2:=Zr (fstL l 2+at_) (by omega) (by omega);simp[ZI,hr,h3,h4,u1,u2]
  ·have hw:=Y1 hr 3;simp only[ZdC]at hw;refine Z1 (X8 hr (k:=3) (by omega)) (by simp) ?_;by_cases h3:at_<0
   ·simp[ZI,hr,h3]
   by_cases h4:l.old<=at_
   ·simp[ZI,hr,h3,h4]
   ·have u1:=Zr at_ (by omega) (by omega);have u2:=Zr (fstL l 3+at_) (by omega) (by omega);simp[ZI,hr,h3,h4,u1,u2]
  ·have hw:=Y1 hr 4;simp only[ZdD]at hw;refine Z1 (X8 hr (k:=4) (by omega)) (by simp) ?_;by_cases h3:at_<0
   ·simp[ZI,hr,h3]
   by_cases h4:l.far<=at_
   ·simp[ZI,hr,h3,h4]
   ·have u1:=Zr at_ (by omega) (by omega);have u2:=Zr (fstL l 4+at_) (by omega) (by omega);simp[ZI,hr,h3,h4,u1,u2]
def inL(l:Ly)(a k:Int):Bool:=decide (fstL l k<=a)&&decide (a<fstL l k+sizL l k)
def Z7y(l:Ly)(a:Int):Int×Int×Int:=
 if Zl l=false then(0,0,1)else if inL l a 1 then(1,a-fstL l 1,0)else if inL l a 2 then(2,a-fstL l 2,0)else if inL l a 3 then(3,a-fstL l 3,0)else if inL l a 4 then(4,a-fstL l 4,0)else(0,0,6)
end Vm
end
section
namespace Vm
open Go
open Go.Proofs
def p28:Fn:=⟨8,[0,1,2,4,6,5,10,14],
pQ [pR [(2,pS 0 10),pV 3 pN],pQ [pR [pV 5 (.s 1)]] (.block 0 (pQ [pR [pV 4 (.bin .eql (.s 5) (pI 1))]] (.cond (.s 4) (pQ [pR [pV 3 (.m 2 5)]] .ret) (pQ [pR [pV 6 (.bin .eql (.s 5) (pI 2))]] (.cond (.s 6) (pQ [pR [pV 3 (.m 2 6)]] .ret) (pQ [pR [pV 7 (.bin .eql (.s 5) (pI 3))]] (.cond (.s 7) (pQ [pR [pV 3 (.m 2 7)]] .ret) .skip))))))),pR [pV 3 (.m 2 8)]] .ret,[(3,.v)]⟩
def c28:Zj Sol.prog fresh sig [.fz,.fz] [] Try.f28=some p28:=by kernel_rfl
def p29:Fn:=⟨9,[0,1,2,3,6,10,7,14,18],
pQ [pR [(3,pS 0 10),(4,pZ)],pQ [pR [pV 6 (.s 1)]] (.block 0 (pQ [pR [pV 5 (.bin .eql (.s 6) (pI 1))]] (.cond (.s 5) (pR [(3,.m [.m 3 0,.m 3 1,.m 3 2,.m 3 3,.m 3 4,.one (.s 2),.m 3 6,.m 3 7,.m 3 8,.m 3 9])]) (pQ [pR [pV 7 (.bin .eql (.s 6) (pI 2))]] (.cond (.s 7) (pR [(3,.m [.m 3 0,.m 3 1,.m 3 2,.m 3 3,.m 3 4,.m 3 5,.one (.s 2),.m 3 7,.m 3 8,.m 3 9])]) (pQ [pR [pV 8 (.bin .eql (.s 6) (pI 3))]] (.cond (.s 8) (pR [(3,.m [.m 3 0,.m 3 1,.m 3 2,.m 3 3,.m 3 4,.m 3 5,.m 3 6,.one (.s 2),.m 3 8,.m 3 9])]) (pR [(3,.m [.m 3 0,.m 3 1,.m 3 2,.m 3 3,.m 3 4,.m 3 5,.m 3 6,.m 3 7,.one (.s 2),.m 3 9])])))))))),pR [(4,pM (.mm 3 0 10) 10)]] .ret,[(4,(.ag 10))]⟩
def c29:Zj Sol.prog fresh sig [.fz,.fz,.fz] [] Try.f29=some p29:=by kernel_rfl
def p32:Fn:=⟨3,[0,1,2],
pQ [pR [(1,pS 0 10),(2,.m [pU 0,pI 0,pI 0,pI 0,pI 0,pI 0,pI 0])],pR [(2,pM (.ag [.m 1 0,.m 1 1,.m 1 2,.len (.m 1 5),.len (.m 1 6),.len (.m 1 7),.len (.m 1 8)]) 7)]] .ret,[(2,(.ag 7))]⟩
def c32:Zj Sol.prog fresh sig [.fz] [] Try.f32=some p32:=by kernel_rfl
def p49:Fn:=⟨7,[0,1,4,10,5,14,25],
pQ [pR [pV 2 pF],pQ [pR [pV 3 (.bin .neq (.len (.s 0)) (.len (.s 1)))]] (.cond (.s 3) (pQ [pR [pV 2 pF]] .ret) .skip),pQ [pR [pV 4 (pI 0)]] (.block 0 (.loop [0,1,2,3,4] (pQ [pQ [pR [pV 5 (.bin .lss (.s 4) (.len (.s 0)))]] (.cond (.s 5) .skip (.exit 0)),.block 1 (pQ [pR [pV 6 (.bin .neq (.fld (.idx (.s 0) (.s 4) 1) 0) (.fld (.idx (.s 1) (.s 4) 1) 0))]] (.cond (.s 6) (pQ [pR [pV 2 pF]] .ret) .skip))] (pR [pV 4 (.bin .add (.s 4) (pI 1))])))),pR [pV 2 pT]] .ret,[(2,.v)]⟩
def c49:Zj Sol.prog fresh sig [.fz,.fz] [] Try.f49=some p49:=by kernel_rfl
def p53:Fn:=⟨4,[0,1,4,6],
pQ [pR [pV 2 (pI 0)],pQ [pR [pV 3 (.bin .lss (.s 0) (pI 0))]] (.cond (.s 3) (pR [pV 0 (.un .neg (.bin .add (.s 0) (pI 1)))]) .skip),pR [pV 2 (.bin .rem (.s 0) (.s 1))]] .ret,[(2,.v)]⟩
def c53:Zj Sol.prog fresh sig [.fz,.fz] [] Try.f53=some p53:=by kernel_rfl
def p64:Fn:=⟨3,[0,1,2],
pQ [pR [(1,pS 0 10),(2,.m [pU 0,pI 0,pI 0,pI 0,pI 0,pI 0,pI 0])],pR [(2,pM (.ag [.m 1 0,.m 1 1,.m 1 2,.len (.m 1 5),.len (.m 1 6),.len (.m 1 7),.len (.m 1 8)]) 7)]] .ret,[(2,(.ag 7))]⟩
def c64:Zj Sol.prog fresh sig [.fz] [] Try.f64=some p64:=by kernel_rfl
def p77:Fn:=⟨4,[0,1,4,6],
pQ [pR [pV 2 (pI 0)],pQ [pR [pV 3 (.bin .lss (.s 0) (pI 0))]] (.cond (.s 3) (pR [pV 0 (.un .neg (.bin .add (.s 0) (pI 1)))]) .skip),pR [pV 2 (.bin .rem (.s 0) (.s 1))]] .ret,[(2,.v)]⟩
def c77:Zj Sol.prog fresh sig [.fz,.fz] [] Try.f77=some p77:=by kernel_rfl
end Vm
end
section
namespace Vm
open Go Go.Proofs
structure Hp where
 base:Int
 cap:Int
 to:Int
 cycle:Bool
 scan:Int
 low:List Int
 high:List Int
 old:List Int
 far:List Int
 roots:List Int
 deriving DecidableEq,Inhabited
def hpV(h:Hp):V:=.agg [vu h.base,vi h.cap,vi h.to,.bool h.cycle,vi h.scan,.sl (h.low.map vu),.sl (h.high.map vu),.sl (h.old.map vu),.sl (h.far.map vu),.sl (h.roots.map vu)]
@[simp] theorem ZfD(h:Hp):szV (hpV h) 10=some (hpV h):=rfl
@[simp] theorem ZcB(h:Hp):(hpV h).cells=[vu h.base,vi h.cap,vi h.to,.bool h.cycle,vi h.scan,.sl (h.low.map vu),.sl (h.high.map vu),.sl (h.old.map vu),.sl (h.far.map vu),.sl (h.roots.map vu)]:=rfl
@[simp] theorem ZbO(h:Hp):fldV (hpV h) 0=some (vu h.base):=rfl
@[simp] theorem ZbP(h:Hp):fldV (hpV h) 1=some (vi h.cap):=rfl
@[simp] theorem ZbQ(h:Hp):fldV (hpV h) 2=some (vi h.to):=rfl
@[simp] theorem ZbR(h:Hp):fldV (hpV h) 3=some (.bool h.cycle):=rfl
@[simp] theorem ZbS(h:Hp):fldV (hpV h) 4=some (vi h.scan):=rfl
@[simp] theorem ZbT(h:Hp):fldV (hpV h) 5=some (.sl (h.low.map vu)):=rfl
@[simp] theorem ZbU(h:Hp):fldV (hpV h) 6=some (.sl (h.high.map vu)):=rfl
@[simp] theorem ZbV(h:Hp):fldV (hpV h) 7=some (.sl (h.old.map vu)):=rfl
@[simp] theorem ZbW(h:Hp):fldV (hpV h) 8=some (.sl (h.far.map vu)):=rfl
@[simp] theorem ZbX(h:Hp):fldV (hpV h) 9=some (.sl (h.roots.map vu)):=rfl
def layH(h:Hp):Ly:=⟨h.base,h.cap,h.to,h.low.length,h.high.length,h.old.length,h.far.length⟩
structure Hp.ok (h:Hp):Prop where
 base:U64 h.base
 cap:Fit h.cap
 to:Fit h.to
 scan:Fit h.scan
 low:h.low.length<=1000000
 high:h.high.length<=1000000
 old:h.old.length<=1000000
 far:h.far.length<=1000000
 roots:h.roots.length<=1000000
 lowW:∀w∈h.low,U64 w
 highW:∀w∈h.high,U64 w
 oldW:∀w∈h.old,U64 w
 farW:∀w∈h.far,U64 w
 rootsW:∀w∈h.roots,U64 w
def z8{α:Type}{l:List α}(h:l.length<=1000000):Fit (l.length:Int):=⟨by omega,by omega⟩
def Hp.ok.lay{h:Hp}(hh:h.ok):(layH h).fits:=⟨hh.base,hh.cap,hh.to,z8 hh.low,z8 hh.high,z8 hh.old,z8 hh.far⟩
def y9{h:Hp}:VC Sol.prog 64 false [hpV h] (lyV (layH h)):=by
 refine Z9 Sol.func64 follows (by kernel_rfl) c64 rfl ?_;simp[p64,lyV,layH]
def je{h:Hp}:VC Sol.prog 32 false [hpV h] (lyV (layH h)):=by
 refine Z9 Sol.func32 follows (by kernel_rfl) c32 rfl ?_;simp[p32,lyV,layH]
def Zm(h:Hp)(n:Int):List Int:=if n=1 then h.low else if n=2 then h.high else if n=3 then h.old else h.far
@[simp] theorem Z9c(h:Hp):Zm h 1=h.low:=rfl
@[simp] theorem Z9d(h:Hp):Zm h 2=h.high:=rfl
@[simp] theorem Z9e(h:Hp):Zm h 3=h.old:=rfl
@[simp] theorem Z9f(h:Hp):Zm h 4=h.far:=rfl
def Z4s{h:Hp}{n:Int}:VC Sol.prog 28 false [hpV h,vi n] (.sl ((Zm h n).map vu)):=by
 refine Z9 Sol.func28 follows (by kernel_rfl) c28 rfl ?_;by_cases h1:n=1
 ·simp[p28,Zm,h1]
 by_cases h2:n=2
 ·simp[p28,Zm,h2]
 by_cases h3:n=3<;>simp[p28,Zm,h1,h2,h3]
def WZ(h:Hp)(n:Int)(l:List Int):Hp:=if n=1 then {h with low:=l}else if n=2 then {h with high:=l}else if n=3 then {h with old:=l}else {h with far:=l}
@[simp] theorem Zgh(h:Hp)(l:List Int):WZ h 1 l= {h with low:=l}:=rfl
@[simp] theorem Zgi(h:Hp)(l:List Int):WZ h 2 l= {h with high:=l}:=rfl
@[simp] theorem Zgj(h:Hp)(l:List Int):WZ h 3 l= {h with old:=l}:=rfl
@[simp] theorem Zgk(h:Hp)(l:List Int):WZ h 4 l= {h with far:=l}:=rfl
def Z4u{h:Hp}{n:Int}{l:List Int}:VC Sol.prog 29 false [hpV h,vi n,.sl (l.map vu)] (hpV (WZ h n l)):=by
 refine Z9 Sol.func29 follows (by kernel_rfl) c29 rfl ?_;by_cases h1:n=1
 ·simp[p29,WZ,h1,hpV]
 by_cases h2:n=2
 ·simp[p29,WZ,h2,hpV]
 by_cases h3:n=3<;>simp[p29,WZ,h1,h2,h3,hpV]
def Uc{α:Type}{a b:List α}{i:Nat}(h:a.take i=b.take i)(hx:a[i]?=b[i]?):a.take (i+1)=b.take (i+1):=by
 rw[ZhE,ZhE,h,hx]
def ZcN{α:Type}{a b:List α}{i:Nat}(h:a[i]? ≠b[i]?):a≠b:=λe=>h (by rw[e])
def Zam{a b:List Int}(ha:a.length<=1000000):VC Sol.prog 49 false [.sl (a.map vu),.sl (b.map vu)] (.bool (decide (a=b))):=by
 refine Z9 Sol.func49 follows (by kernel_rfl) c49 rfl ?_;by_cases hl:a.length=b.length
 ·simp[p49,hl];refine Qw 4 b.length (λi=>a.take i=b.take i) (by simp) (by simp) (by simp) ?_;intro i hi heq;have hw:=Z6 ((i:Int)+1) (by omega) (by omega);by_cases h:i<b.length
  ·have h':i<a.length:=by omega
   by_cases hx:a[i]=b[i]
   ·simp[h,h',hx,hw];exact Uc heq (by simp[h,h',hx])
   ·simp[h,h',hx];exact ZcN (i:=i) (by simp[h,h',hx])
  ·have:i=b.length:=by omega
   subst this;rw[Zib,Zhi (by omega)]at heq;simp[heq]
 ·simp[p49,show ¬((a.length:Int)=(b.length:Int))by omega];intro e;subst e;exact hl rfl
def pick(c n:Int):Int:=(if c<0 then-(c+1)else c) %n
def Wz{c n:Int}(hn:0<n):0<=pick c n/\pick c n<n:=⟨Zkx _ (by omega),Zk2 _ hn⟩
def VY{c n:Int}(hc:Fit c)(hn:0<n):VC Sol.prog 77 false [vi c,vi n] (vi (pick c n)):=by
 refine Z9 Sol.func77 follows (by kernel_rfl) c77 rfl ?_;obtain⟨h1,h2⟩:=hc;by_cases h:c<0
 ·simp[p77,h];simp(disch:=omega) only[Z6];refine⟨by omega,?_⟩;unfold pick;rw[if_pos h,ZhK (by omega)]
 ·simp[p77,h];refine⟨by omega,?_⟩;unfold pick;rw[if_neg h,ZhK (by omega)]
def j4{c n:Int}(hc:Fit c)(hn:0<n):VC Sol.prog 53 false [vi c,vi n] (vi (pick c n)):=by
 refine Z9 Sol.func53 follows (by kernel_rfl) c53 rfl ?_;obtain⟨h1,h2⟩:=hc;by_cases h:c<0
 ·simp[p53,h];simp(disch:=omega) only[Z6];refine⟨by omega,?_⟩;unfold pick;rw[if_pos h,ZhK (by omega)]
 ·simp[p53,h];refine⟨by omega,?_⟩;unfold pick;rw[if_neg h,ZhK (by omega)]
end Vm
end
section
namespace Vm
open Go
open Go.Proofs
def p23:Fn:=⟨13,[0,1,4,5,6,7,16,8,9,30,10,78,97],
pQ [pR [(2,.m [pN,pN])],pR [pV 3 (.mn (.len (.s 0)) (pI 10))],pR [(4,.m [pN,pN])],pQ [pR [pV 5 (pI 0)]] (.block 0 (.loop [0,1,2,3,4,5] (pQ [pQ [pR [pV 6 (.bin .lss (.s 5) (.s 3))]] (.cond (.s 6) .skip (.exit 0)),.block 1 (pQ [pR [(7,.m [pN,pN])],pQ [pR [pV 8 (pI 0)]] (.block 2 (.loop [0,1,2,3,4,5,6,7,8] (pQ [pQ [.reg ⟨[.lt 13 [] (.bin .lss (.s 8) (.len (.fld (.idx (.s 0) (.s 5) 2) 0)))],[([(13,true)],.bin .lss (.s 8) (pI 4))],[pV 9 (.ite (.s 13) (.bin .lss (.s 8) (pI 4)) pF)]⟩] (.cond (.s 9) .skip (.exit 2)),.block 3 (pC [pK 14 53 [.fld (.idx (.fld (.idx (.s 0) (.s 5) 2) 0) (.s 8) 1) 0,.bin .add (.s 3) (pI 1)]] [(7,.m [.app (.m 7 0) (.lit [.bin .sub (.s 14) (pI 1)]) 1,.m 7 1])])] (pR [pV 8 (.bin .add (.s 8) (pI 1))])))),pR [(7,.m [.m 7 0,.app pN (.slc (.fld (.idx (.s 0) (.s 5) 2) 1) (pI 0) (.mn (.len (.fld (.idx (.s 0) (.s 5) 2) 1)) (pI 4)) 1) 1])]] (pR [(4,.m [.app (.m 4 0) (.lit [.mm 7 0 2]) 2,.m 4 1])]))] (pR [pV 5 (.bin .add (.s 5) (pI 1))])))),pQ [pR [pV 10 (pI 0)]] (.block 4 (.loop [0,1,2,3,4,5,6,10] (pQ [pQ [.reg ⟨[.lt 15 [] (.bin .lss (.s 10) (.len (.s 1)))],[([(15,true)],.bin .lss (.s 10) (pI 5))],[pV 11 (.ite (.s 15) (.bin .lss (.s 10) (pI 5)) pF)]⟩] (.cond (.s 11) .skip (.exit 4)),.block 5 (pC [pK 16 53 [.fld (.idx (.s 1) (.s 10) 1) 0,.bin .add (.s 3) (pI 1)]] [(4,.m [.m 4 0,.app (.m 4 1) (.lit [.bin .sub (.s 16) (pI 1)]) 1])])] (pR [pV 10 (.bin .add (.s 10) (pI 1))])))),pQ [pR [pV 12 (.bin .eql (.len (.m 4 1)) (pI 0))]] (.cond (.s 12) (pR [(4,.m [.m 4 0,.app (.m 4 1) (.lit [.bin .sub (.s 3) (pI 1)]) 1])]) .skip),pR [(2,pM (.mm 4 0 2) 2)]] .ret,[(2,(.ag 2))]⟩
def c23:Zj Sol.prog fresh sig [.fz,.fz] [] Try.f23=some p23:=by kernel_rfl
def p76:Fn:=⟨10,[0,1,2,3,6,7,8,14,9,31],
pQ [pR [(3,pS 0 7),pV 4 (pI 0),pV 5 pF],pR [pV 6 (.s 1)],pQ [pR [pV 7 (.bin .gtr (.len (.m 3 2)) (pI 0))]] (.cond (.s 7) (pR [pV 6 (.fld (.idx (.m 3 2) (.bin .rem (.s 1) (.len (.m 3 2))) 1) 0)]) .skip),pC [pK 10 77 [.s 6,pI 3]] [pV 8 (.s 10)],pQ [.reg ⟨[.lt 11 [] (.bin .eql (.s 8) (pI 2))],[([(11,true)],.un .not (.s 2))],[pV 9 (.ite (.s 11) (.un .not (.s 2)) pF)]⟩] (.cond (.s 9) (pR [pV 8 (pI 1)]) .skip),pC [pK 12 77 [.bin .quo (.s 6) (pI 3),pI 2]] [pV 4 (.s 8),pV 5 (.bin .eql (.s 12) (pI 1))]] .ret,[(4,.v),(5,.v)]⟩
def c76:Zj Sol.prog fresh sig [.fz,.fz,.fz] [] Try.f76=some p76:=by kernel_rfl
def p78:Fn:=⟨15,[0,1,2,3,4,5,6,8,9,10,11,12,44,13,76],
pQ [pR [(4,pS 0 14),(5,pS 1 2),(6,pS 2 2),(7,.m [pU 0,pI 0,pI 0,pF,pI 0,pN,pN,pN,pN,pN,pN,pN,pN,pN])],pC [pK 15 28 [.mm 4 0 10,.m 5 0]] [pV 8 (.app pN (.s 15) 1)],pC [pK 16 99 [.ag [.bin .add (.len (.m 6 0)) (.len (.m 6 1)),.len (.m 6 0)]]] [pV 9 (.ext (.s 16) 0),pV 10 (.ext (.s 16) 1)],.reg ⟨[],[([],.idx (.s 8) (.m 5 1) 1)],[pV 8 (.upd (.s 8) (.m 5 1) 0 (.one (.s 9)))]⟩,pQ [pR [pV 11 (pI 0)]] (.block 0 (.loop [0,1,2,3,4,5,6,7,8,9,10,11] (pQ [pQ [pR [pV 12 (.bin .lss (.s 11) (.len (.m 6 0)))]] (.cond (.s 12) .skip (.exit 0)),.block 1 (.reg ⟨[pK 17 100 [.mm 4 0 14,.ag [.m 5 0,.bin .add (.bin .add (.m 5 1) (pI 1)) (.s 11)],.fld (.idx (.m 6 0) (.s 11) 1) 0,.bin .add (.s 3) (.s 11)]],[([],.idx (.s 8) (.bin .add (.bin .add (.m 5 1) (pI 1)) (.s 11)) 1)],[pV 8 (.upd (.s 8) (.bin .add (.bin .add (.m 5 1) (pI 1)) (.s 11)) 0 (.one (.s 17)))]⟩)] (pR [pV 11 (.bin .add (.s 11) (pI 1))])))),pQ [pR [pV 13 (pI 0)]] (.block 2 (.loop [0,1,2,3,4,5,6,7,8,9,10,11,12,13] (pQ [pQ [pR [pV 14 (.bin .lss (.s 13) (.len (.m 6 1)))]] (.cond (.s 14) .skip (.exit 2)),.block 3 (.reg ⟨[],[([],.idx (.s 8) (.bin .add (.bin .add (.bin .add (.m 5 1) (pI 1)) (.len (.m 6 0))) (.s 13)) 1)],[pV 8 (.upd (.s 8) (.bin .add (.bin .add (.bin .add (.m 5 1) (pI 1)) (.len (.m 6 0))) (.s 13)) 0 (.fld (.idx (.m 6 1) (.s 13) 1) 0))]⟩)] (pR [pV 13 (.bin .add (.s 13) (pI 1))])))),pC [pK 18 29 [.mm 4 0 10,.m 5 0,.s 8]] [(4,.m [.fld (.sz (.s 18) 10) 0,.fld (.sz (.s 18) 10) 1,.fld (.sz (.s 18) 10) 2,.fld (.sz (.s 18) 10) 3,.fld (.sz (.s 18) 10) 4,.fld (.sz (.s 18) 10) 5,.fld (.sz (.s 18) 10) 6,.fld (.sz (.s 18) 10) 7,.fld (.sz (.s 18) 10) 8,.fld (.sz (.s 18) 10) 9,.m 4 10,.m 4 11,.m 4 12,.m 4 13])],pR [(7,pM (.mm 4 0 14) 14)]] .ret,[(7,(.ag 14))]⟩
def c78:Zj Sol.prog fresh sig [.fz,.fz,.fz,.fz] [] Try.f78=some p78:=by kernel_rfl
def p79:Fn:=⟨10,[0,1,2,3,4,11,5,6,7,8],
pQ [pR [(2,pS 0 14),(3,pS 1 2),pV 4 (pU 0)],pQ [pR [pV 5 (.bin .eql (.m 3 0) (pI 0))]] (.cond (.s 5) (pQ [pR [pV 4 (pU 0)]] .ret) .skip),pC [pK 10 32 [.mm 2 0 10],pK 11 31 [.s 10,.mm 3 0 2]] [pV 6 (.ext (.s 11) 0),pV 7 (.ext (.s 11) 1)],pC [pK 12 101 [.s 6]] [pV 8 (.ext (.s 12) 0),pV 9 (.ext (.s 12) 1)],pR [pV 4 (.s 8)]] .ret,[(4,.v)]⟩
def c79:Zj Sol.prog fresh sig [.fz,.fz] [] Try.f79=some p79:=by kernel_rfl
def p100:Fn:=⟨10,[0,1,2,3,4,5,8,10,13,54],
pQ [pR [(4,pS 0 14),(5,pS 1 2),pV 6 (pU 0)],pQ [pR [pV 7 (.bin .lss (.s 2) (pI 0))]] (.cond (.s 7) (pQ [pR [pV 6 (pU 0)]] .ret) .skip),pQ [pR [pV 8 (.bin .gtr (.m 5 0) (pI 2))]] (.cond (.s 8) (pQ [pC [pK 10 79 [.mm 4 0 14,.flds (.idx (.m 4 13) (.s 2) 2) 0 2]] [pV 6 (.s 10)]] .ret) .skip),pQ [.reg ⟨[.lt 11 [] (.bin .eql (.m 5 0) (pI 1)),.lt 12 [] (.ite (.s 11) (.bin .geq (.m 5 1) (.m 4 4)) pF),.lt 13 [(12,true)] (.bin .eql (.fld (.idx (.m 4 12) (.s 2) 2) 0) (pI 0)),.lt 14 [(12,true),(13,false)] (.bin .gtr (.fld (.idx (.m 4 13) (.s 2) 2) 0) (pI 0))],[([(11,true)],.bin .geq (.m 5 1) (.m 4 4)),([(12,true),(13,false),(14,true)],.bin .eql (.bin .rem (.s 3) (pI 2)) (pI 0)),([(12,true),(13,false)],.ite (.s 14) (.bin .eql (.bin .rem (.s 3) (pI 2)) (pI 0)) pF),([(12,true)],.ite (.s 13) pT (.ite (.s 14) (.bin .eql (.bin .rem (.s 3) (pI 2)) (pI 0)) pF))],[pV 9 (.ite (.s 12) (.ite (.s 13) pT (.ite (.s 14) (.bin .eql (.bin .rem (.s 3) (pI 2)) (pI 0)) pF)) pF)]⟩] (.cond (.s 9) (pQ [pC [pK 15 79 [.mm 4 0 14,.flds (.idx (.m 4 13) (.s 2) 2) 0 2]] [pV 6 (.s 15)]] .ret) .skip),pC [pK 16 79 [.mm 4 0 14,.flds (.idx (.m 4 12) (.s 2) 2) 0 2]] [pV 6 (.s 16)]] .ret,[(6,.v)]⟩
def c100:Zj Sol.prog fresh sig [.fz,.fz,.fz,.fz] [] Try.f100=some p100:=by kernel_rfl
end Vm
end
section
namespace Vm
open Go Go.Proofs
structure Nd where
 ptrs:List Int
 data:List Int
 deriving DecidableEq,Inhabited
structure Gr where
 nodes:List Nd
 roots:List Int
 deriving DecidableEq,Inhabited
def ndV(n:Nd):V:=.agg [.sl (n.ptrs.map vi),.sl (n.data.map vu)]
def grV(g:Gr):V:=.agg [.sl (g.nodes.map ndV),.sl (g.roots.map vi)]
@[simp] theorem ZcM(n:Nd):(ndV n).cells=[.sl (n.ptrs.map vi),.sl (n.data.map vu)]:=rfl
@[simp] theorem Zb9(l:List Nd):Yr 2 (l.map ndV)=true:=XN λ_=>rfl
@[simp] theorem Zcr(n:Nd):RX (ndV n) 0 2=some (ndV n):=rfl
@[simp] theorem Zc5(n:Nd):fldV (ndV n) 0=some (.sl (n.ptrs.map vi)):=rfl
@[simp] theorem Zc6(n:Nd):fldV (ndV n) 1=some (.sl (n.data.map vu)):=rfl
@[simp] theorem ZfF(n:Nd):szV (ndV n) 2=some (ndV n):=rfl
@[simp] theorem Zcq(g:Gr):RX (grV g) 0 2=some (grV g):=rfl
@[simp] theorem ZbM(g:Gr):fldV (grV g) 0=some (.sl (g.nodes.map ndV)):=rfl
@[simp] theorem ZbN(g:Gr):fldV (grV g) 1=some (.sl (g.roots.map vi)):=rfl
@[simp] theorem ZfC(g:Gr):szV (grV g) 2=some (grV g):=rfl
@[simp] theorem Zcz(g:Gr):(grV g).cells=[.sl (g.nodes.map ndV),.sl (g.roots.map vi)]:=rfl
@[simp] theorem ZdF{k:IntKind}{l:List V}(j n:Nat):slcV n (.sl l) (.int k 0) (.int k (j:Int))=if j<=l.length/\Yr n l=true then some (.sl (l.take j))else none:=by
 have:=Z8z (k:=k) (l:=l) 0 j n;simpa using this
def rp(n:Nat)(p:Int):Int:=pick p (n+1) -1
def mkNd(n:Nat)(x:Nd):Nd:=⟨(x.ptrs.take 4).map (rp n),x.data.take 4⟩
def mkN(l:List Nd):Nat:=min l.length 10
def mkG(l:List Nd)(roots:List Int):Gr:=⟨(l.take (mkN l)).map (mkNd (mkN l)),if roots.take 5=[]then [(mkN l:Int) -1]else(roots.take 5).map (rp (mkN l))⟩
def Z7c{l:List Nd}{roots:List Int}(hl:∀x∈l,∀p∈x.ptrs,Fit p)(hr:∀p∈roots,Fit p):VC Sol.prog 23 false [.sl (l.map ndV),.sl (roots.map vi)] (grV (mkG l roots)):=by
 refine Z9 Sol.func23 follows (by kernel_rfl) c23 rfl ?_;have hn10:mkN l<=10:=by unfold mkN;omega
 have hnl:mkN l<=l.length:=by unfold mkN;omega
 have hmin:(if(10:Int)< (l.length:Int)then(10:Int)else(l.length:Int))=(mkN l:Int):=by
  unfold mkN;split<;>omega
 simp[p23,hmin];generalize hn:mkN l=n at*;have hwn:=Z6 ((n:Int)+1) (by omega) (by omega);refine YQ (λt=>∃i:Nat,i<=n/\t=[.v (.sl (l.map ndV)),.v (.sl (roots.map vi)),.m [.sl [],.sl []],.v (vi n),.m [.sl (((l.take i).map (mkNd n)).map ndV),.sl []],.v (vi i)]) (λt=>match get t 5 with|.v (.int _ i)=>n-i.toNat|_=>0) ?_ ?_
 ·exact⟨0,by simp,by simp⟩
 ·rintro t ⟨i,hi,rfl⟩;have hw:=Z6 ((i:Int)+1) (by omega) (by omega);by_cases h:i<n
  ·have hil:i<l.length:=by omega
   have hx:l[i]?=some l[i]:=ZgJ hil;simp[h];generalize hnd:l[i]=x at hx;have hxp:∀p∈x.ptrs,Fit p:=hl x (ZgQ hx);have hdm:(if(4:Int)< (x.data.length:Int)then(4:Int)else(x.data.length:Int))=((min x.data.length 4:Nat):Int):=by split<;>omega
   refine YQ (λt=>∃k:Nat,k<=x.ptrs.length/\k<=4/\t=[.v (.sl (l.map ndV)),.v (.sl (roots.map vi)),.m [.sl [],.sl []],.v (vi n),.m [.sl (((l.take i).map (mkNd n)).map ndV),.sl []],.v (vi i),.v (.bool true),.m [.sl (((x.ptrs.take k).map (rp n)).map vi),.sl []],.v (vi k)]) (λt=>match get t 8 with|.v (.int _ i)=>4-i.toNat|_=>0) ?_ ?_
   ·exact⟨0,by simp,by simp,by simp⟩
   ·rintro t ⟨k,hk,hk4,rfl⟩;have hwk:=Z6 ((k:Int)+1) (by omega) (by omega);by_cases h4:k<x.ptrs.length/\k<4
    ·obtain⟨ha,hb⟩:=h4;have hp:x.ptrs[k]?=some x.ptrs[k]:=ZgJ ha;have hkb:(k:Int)<4:=by omega
     simp[hil,hnd,ha,hkb,hwn];refine Z1 (j4 (hxp _ (ZgZ ha)) (by omega)) (by simp) ?_;have hpl:=Wz (c:=x.ptrs[k]) (n:=(n:Int)+1) (by omega);have hwp:=Z6 (pick x.ptrs[k] ((n:Int)+1) -1) (by omega) (by omega);simp[hwk,hwp];refine⟨by simp[lim];omega,⟨k+1,by omega,by omega,?_,by simp⟩,by omega⟩;rw[ZhE,Zh2,hp];rfl
    ·have hend:(x.ptrs.take k)=x.ptrs.take 4:=by
      by_cases ha:k<x.ptrs.length
      ·have:k=4:=by omega
       rw[this]
      ·rw[Zhi (by omega),Zhi (by omega)]
     have hfin:(l.take (i+1)).map (ndV∘mkNd n)=(l.take i).map (ndV∘mkNd n)++[V.agg [.sl ((x.ptrs.take k).map (vi∘rp n)),.sl ((x.data.take (min x.data.length 4)).map vu)]]:=by
      rw[ZhE,hx,ZhU,hend]
      have hmd:x.data.take (min x.data.length 4)=x.data.take 4:=by
       by_cases hd:x.data.length<=4
       ·rw[Zhi (by omega),Zhi (by omega)]
       ·congr 1;omega
      rw[hmd];simp[ndV,mkNd]
     have hsz:Yr 1 ((x.data.take (min x.data.length 4)).map vu)=true:=Z6J _;have hl1:min x.data.length 4<=lim:=by simp[lim];omega
     have hl2:min i l.length+1<=lim:=by simp[lim];omega
     have hl3:min x.data.length 4<=x.data.length:=by omega
     simp only[List.map_take]at hfin hsz;have hkb:k<x.ptrs.length->¬(k:Int)<4:=by omega
     by_cases ha:k<x.ptrs.length
     all_goals (
      simp[hil,hnd,ha,hkb,hdm,hl1,hl2,hsz,hw,hl3];exact⟨⟨i+1,by omega,hfin.symm,by simp⟩,by omega⟩)
  ·have:i=n:=by omega
   subst this;simp;have hwn1:=Z6 ((i:Int) -1) (by omega) (by omega);refine YQ (λt=>∃k:Nat,k<=roots.length/\k<=5/\t=[.v (.sl (l.map ndV)),.v (.sl (roots.map vi)),.m [.sl [],.sl []],.v (vi i),.m [.sl ((l.take i).map (ndV∘mkNd i)),.sl ((roots.take k).map (vi∘rp i))],.v (vi i),.v (.bool false),.no,.no,.no,.v (vi k)]) (λt=>match get t 10 with|.v (.int _ i)=>5-i.toNat|_=>0) ?_ ?_
   ·exact⟨0,by simp,by simp,by simp⟩
   ·rintro t ⟨k,hk,hk5,rfl⟩;have hwk:=Z6 ((k:Int)+1) (by omega) (by omega);by_cases h5:k<roots.length/\k<5
    ·obtain⟨ha,hb⟩:=h5;have hp:roots[k]?=some roots[k]:=ZgJ ha;have hkb:(k:Int)<5:=by omega
     simp[ha,hkb,hwn];refine Z1 (j4 (hr _ (ZgZ ha)) (by omega)) (by simp) ?_;have hpl:=Wz (c:=roots[k]) (n:=(i:Int)+1) (by omega);have hwp:=Z6 (pick roots[k] ((i:Int)+1) -1) (by omega) (by omega);simp[hwk,hwp];refine⟨by simp[lim];omega,⟨k+1,by omega,by omega,?_,by simp⟩,by omega⟩;rw[ZhE,Zh2,hp];rfl
    ·have hend:(roots.take k)=roots.take 5:=by
      by_cases ha:k<roots.length
      ·have:k=5:=by omega
       rw[this]
      ·rw[Zhi (by omega),Zhi (by omega)]
     have hkb:k<roots.length->¬(k:Int)<5:=by omega
     have hg:mkG l roots=⟨(l.take i).map (mkNd i),if roots.take 5=[]then [(i:Int) -1]else(roots.take 5).map (rp i)⟩:=by
      unfold mkG;rw[hn]
     have hlen:(roots.take k).length=k:=by rw[ZhY];omega
     by_cases hz:k=0
     ·subst hz;have hnil:roots.take 5=[]:=by rw[<-hend];rfl
      rw[hg,if_pos hnil];have ha:¬0<roots.length:=by omega
      have hl1:1<=lim:=by simp[lim]
      simp[ha,grV,hwn1,hl1]
     ·have hnil:roots.take 5≠[]:=by
       rw[<-hend];intro h;rw[h]at hlen;simp at hlen;omega
      rw[hg,if_neg hnil,<-hend];have hr0:¬roots=[]:=by intro h;rw[h]at hk;simp at hk;omega
      by_cases ha:k<roots.length
      all_goals simp[ha,hkb,grV,hz,hr0]
def Zdv{n:Nat}{p:Int}: -1<=rp n p/\rp n p<n:=by
 have:=Wz (c:=p) (n:=(n:Int)+1) (by omega);unfold rp;omega
def TX(l:List Nd)(roots:List Int):(mkG l roots).nodes.length=mkN l:=by
 simp[mkG,mkN]
def SW(l:List Nd)(roots:List Int):mkN l<=10/\(mkG l roots).roots.length<=5/\∀x∈(mkG l roots).nodes,x.ptrs.length<=4/\x.data.length<=4:=by
 refine⟨by unfold mkN;omega,?_,λx hx=> ?_⟩
 ·simp only[mkG];split
  ·simp
  ·simp;omega
 ·simp only[mkG,ZgX]at hx;obtain⟨y,_,rfl⟩:=hx;simp only[mkNd,Zhu,ZhY];omega
end Vm
end
section
namespace Vm
open Go
open Go.Proofs
def p16:Fn:=⟨5,[0,1,2,3,10],
pQ [pR [(1,pS 0 7),(2,pZ)],pC [pK 5 45 [.mm 1 0 7,pT]] [(3,pS 5 14)],pQ [pR [pV 4 (.bin .eql (.len (.m 3 5)) (pI 0))]] (.cond (.s 4) (pQ [pC [pK 6 35 [.mm 1 0 7]] [(2,pS 6 10)]] .ret) .skip),pC [pK 7 46 [.mm 3 0 14,.mm 1 0 7]] [(2,pS 7 10)]] .ret,[(2,(.ag 10))]⟩
def c16:Zj Sol.prog fresh sig [.fz] [] Try.f16=some p16:=by kernel_rfl
def p35:Fn:=⟨3,[0,1,2],
pQ [pR [(1,pS 0 7),(2,pZ)],pC [pK 3 45 [.mm 1 0 7,pF],pK 4 46 [.s 3,.mm 1 0 7]] [(2,pS 4 10)]] .ret,[(2,(.ag 10))]⟩
def c35:Zj Sol.prog fresh sig [.fz] [] Try.f35=some p35:=by kernel_rfl
def p45:Fn:=⟨19,[0,1,2,4,5,6,7,8,26,9,10,11,12,13,57,81,14,82,165],
pQ [pR [(2,pS 0 7),(3,.m [pU 0,pI 0,pI 0,pF,pI 0,pN,pN,pN,pN,pN,pN,pN,pN,pN])],.reg ⟨[pK 19 23 [.m 2 0,.m 2 1]],[([],.ag [pU 0,pI 0,pI 0,pF,pI 0,pN,pN,pN,pN,pN,.fld (.sz (.s 19) 2) 0,.fld (.sz (.s 19) 2) 1,pN,pN])],[(4,.m [pU 0,pI 0,pI 0,pF,pI 0,pN,pN,pN,pN,pN,.fld (.sz (.s 19) 2) 0,.fld (.sz (.s 19) 2) 1,pN,pN])]⟩,pR [(5,.m [pI 0,pI 0,pI 0,pI 0,pI 0])],pR [pV 6 (pI 0)],pQ [pR [pV 7 (pI 0)]] (.block 0 (.loop [0,1,2,3,4,5,6,7] (pQ [pQ [pR [pV 8 (.bin .lss (.s 7) (.len (.m 4 10)))]] (.cond (.s 8) .skip (.exit 0)),.block 1 (pQ [pC [pK 20 76 [.mm 2 0 7,.s 7,.s 1]] [pV 9 (.ext (.s 20) 0),pV 10 (.ext (.s 20) 1)],pR [pV 11 (.bin .add (.bin .add (pI 1) (.len (.fld (.idx (.m 4 10) (.s 7) 2) 0))) (.len (.fld (.idx (.m 4 10) (.s 7) 2) 1)))],pR [(12,pM (.ag [pI 0,pI 0]) 2)],pR [(13,pM (.ag [pI 0,pI 0]) 2)],pQ [pR [pV 14 (.bin .lss (.s 9) (pI 2))]] (.cond (.s 14) (pQ [.reg ⟨[],[([],.ai (.c (.agg [(.bool true),(.bool true),(.bool true),(.bool true),(.bool true)])) (.bin .sub (pI 2) (.s 9)) 5 1 false)],[(12,pM (.ag [.bin .sub (pI 2) (.s 9),.one (.ai (.mm 5 0 5) (.bin .sub (pI 2) (.s 9)) 5 1 false)]) 2)]⟩] (.reg ⟨[],[([],.ai (.c (.agg [(.bool true),(.bool true),(.bool true),(.bool true),(.bool true)])) (.bin .sub (pI 2) (.s 9)) 5 1 false)],[(5,pM (.aput (.mm 5 0 5) (.bin .sub (pI 2) (.s 9)) 5 1 (.bin .add (.ai (.mm 5 0 5) (.bin .sub (pI 2) (.s 9)) 5 1 false) (.s 11))) 5)]⟩)) (pR [pV 6 (.bin .add (.s 6) (.s 11))])),pQ [pC [.lt 21 [] (.bin .gtr (.s 9) (pI 0))] [pV 15 (.ite (.s 21) (.s 1) pF)]] (.cond (.s 15) (pQ [pR [pV 16 (pI 3)],pQ [pR [pV 17 (.s 10)]] (.cond (.s 17) (pR [pV 16 (pI 4)]) .skip),.reg ⟨[],[([],.ai (.c (.agg [(.bool true),(.bool true),(.bool true),(.bool true),(.bool true)])) (.s 16) 5 1 false)],[(13,pM (.ag [.one (.s 16),.one (.ai (.mm 5 0 5) (.s 16) 5 1 false)]) 2)]⟩] (.reg ⟨[],[([],.ai (.c (.agg [(.bool true),(.bool true),(.bool true),(.bool true),(.bool true)])) (.s 16) 5 1 false)],[(5,pM (.aput (.mm 5 0 5) (.s 16) 5 1 (.bin .add (.ai (.mm 5 0 5) (.s 16) 5 1 false) (.s 11))) 5)]⟩)) .skip),pR [(4,.m [.m 4 0,.m 4 1,.m 4 2,.m 4 3,.m 4 4,.m 4 5,.m 4 6,.m 4 7,.m 4 8,.m 4 9,.m 4 10,.m 4 11,.app (.m 4 12) (.lit [.mm 12 0 2]) 2,.m 4 13])]] (pR [(4,.m [.m 4 0,.m 4 1,.m 4 2,.m 4 3,.m 4 4,.m 4 5,.m 4 6,.m 4 7,.m 4 8,.m 4 9,.m 4 10,.m 4 11,.m 4 12,.app (.m 4 13) (.lit [.mm 13 0 2]) 2])]))] (pR [pV 7 (.bin .add (.s 7) (pI 1))])))),.reg ⟨[pK 22 77 [.m 2 6,pI 2]],[([],.ai (.c (.agg [(.bool true),(.bool true),(.bool true),(.bool true),(.bool true)])) (pI 1) 5 1 false),([],.ai (.c (.agg [(.bool true),(.bool true),(.bool true),(.bool true),(.bool true)])) (pI 2) 5 1 false),([],.ai (.c (.agg [(.bool true),(.bool true),(.bool true),(.bool true),(.bool true)])) (pI 3) 5 1 false),([],.ai (.c (.agg [(.bool true),(.bool true),(.bool true),(.bool true),(.bool true)])) (pI 4) 5 1 false),([],.ag [pU 0,pI 0,.one (.s 22),.one (.s 1),pI 0,.mk (.int .u64 0) (.ai (.mm 5 0 5) (pI 1) 5 1 false),.mk (.int .u64 0) (.ai (.mm 5 0 5) (pI 2) 5 1 false),.mk (.int .u64 0) (.ai (.mm 5 0 5) (pI 3) 5 1 false),.mk (.int .u64 0) (.ai (.mm 5 0 5) (pI 4) 5 1 false),pN])],[(4,.m [pU 0,pI 0,.one (.s 22),.one (.s 1),pI 0,.mk (.int .u64 0) (.ai (.mm 5 0 5) (pI 1) 5 1 false),.mk (.int .u64 0) (.ai (.mm 5 0 5) (pI 2) 5 1 false),.mk (.int .u64 0) (.ai (.mm 5 0 5) (pI 3) 5 1 false),.mk (.int .u64 0) (.ai (.mm 5 0 5) (pI 4) 5 1 false),pN,.m 4 10,.m 4 11,.m 4 12,.m 4 13])]⟩,.reg ⟨[pK 23 77 [.m 2 4,pI 12]],[([],.ai (.c (.agg [(.bool true),(.bool true),(.bool true),(.bool true),(.bool true)])) (pI 1) 5 1 false),([],.ai (.c (.agg [(.bool true),(.bool true),(.bool true),(.bool true),(.bool true)])) (pI 2) 5 1 false),([],.ai (.c (.agg [(.bool true),(.bool true),(.bool true),(.bool true),(.bool true)])) (pI 3) 5 1 false),([],.ai (.c (.agg [(.bool true),(.bool true),(.bool true),(.bool true),(.bool true)])) (pI 4) 5 1 false)],[(4,.m [.m 4 0,.bin .add (.mx (.bin .add (.bin .add (.ai (.mm 5 0 5) (pI 1) 5 1 false) (.ai (.mm 5 0 5) (pI 2) 5 1 false)) (.s 6)) (.bin .add (.ai (.mm 5 0 5) (pI 3) 5 1 false) (.ai (.mm 5 0 5) (pI 4) 5 1 false))) (.s 23),.m 4 2,.m 4 3,.m 4 4,.m 4 5,.m 4 6,.m 4 7,.m 4 8,.m 4 9,.m 4 10,.m 4 11,.m 4 12,.m 4 13])]⟩,pR [(4,.m [.bin .add (pU 1) (.bin .rem (.m 2 3) (.bin .sub (pU 9223372036854775808) (.bin .mul (pU 2) (.conv .u64 (.m 4 1))))),.m 4 1,.m 4 2,.m 4 3,.m 4 4,.m 4 5,.m 4 6,.m 4 7,.m 4 8,.m 4 9,.m 4 10,.m 4 11,.m 4 12,.m 4 13])],.reg ⟨[],[([],.ai (.c (.agg [(.bool true),(.bool true),(.bool true),(.bool true),(.bool true)])) (pI 1) 5 1 false)],[(4,.m [.m 4 0,.m 4 1,.m 4 2,.m 4 3,.one (.ai (.mm 5 0 5) (pI 1) 5 1 false),.m 4 5,.m 4 6,.m 4 7,.m 4 8,.m 4 9,.m 4 10,.m 4 11,.m 4 12,.m 4 13])]⟩,pQ [.reg ⟨[.lt 24 [] (.s 1)],[([(24,true)],.ai (.c (.agg [(.bool true),(.bool true),(.bool true),(.bool true),(.bool true)])) (pI 1) 5 1 false),([(24,true)],.bin .gtr (.ai (.mm 5 0 5) (pI 1) 5 1 false) (pI 0))],[pV 18 (.ite (.s 24) (.bin .gtr (.ai (.mm 5 0 5) (pI 1) 5 1 false) (pI 0)) pF)]⟩] (.cond (.s 18) (.reg ⟨[pK 25 77 [.m 2 5,.ai (.mm 5 0 5) (pI 1) 5 1 false]],[([],.ai (.c (.agg [(.bool true),(.bool true),(.bool true),(.bool true),(.bool true)])) (pI 1) 5 1 false)],[(4,.m [.m 4 0,.m 4 1,.m 4 2,.m 4 3,.one (.s 25),.m 4 5,.m 4 6,.m 4 7,.m 4 8,.m 4 9,.m 4 10,.m 4 11,.m 4 12,.m 4 13])]⟩) .skip),pR [(3,pM (.mm 4 0 14) 14)]] .ret,[(3,(.ag 14))]⟩
def c45:Zj Sol.prog fresh sig [.fz,.fz] [] Try.f45=some p45:=by kernel_rfl
def p46:Fn:=⟨17,[0,1,2,3,4,5,16,6,31,59,83,7,8,9,125,10,134],
pQ [pR [(2,pS 0 14),(3,pS 1 7),(4,pZ)],pQ [pR [pV 5 (pI 0)]] (.block 0 (.loop [0,1,2,3,4,5] (pQ [pQ [pR [pV 6 (.bin .lss (.s 5) (.len (.m 2 10)))]] (.cond (.s 6) .skip (.exit 0)),.block 1 (pQ [pR [(7,pM (.flds (.idx (.m 2 10) (.s 5) 2) 0 2) 2)],pQ [pR [pV 8 (.bin .gtr (.fld (.idx (.m 2 12) (.s 5) 2) 0) (pI 0))]] (.cond (.s 8) (pC [pK 17 78 [.mm 2 0 14,.flds (.idx (.m 2 12) (.s 5) 2) 0 2,.mm 7 0 2,.bin .add (.m 3 4) (.s 5)]] [(2,pS 17 14)]) .skip),pQ [.reg ⟨[.lt 18 [] (.bin .gtr (.fld (.idx (.m 2 13) (.s 5) 2) 0) (pI 0))],[([(18,true)],.bin .eql (.fld (.idx (.m 2 12) (.s 5) 2) 0) (pI 0))],[pV 9 (.ite (.s 18) (.bin .eql (.fld (.idx (.m 2 12) (.s 5) 2) 0) (pI 0)) pF)]⟩] (.cond (.s 9) (pC [pK 19 78 [.mm 2 0 14,.flds (.idx (.m 2 13) (.s 5) 2) 0 2,.mm 7 0 2,pI 0]] [(2,pS 19 14)]) .skip),.reg ⟨[.lt 20 [] (.bin .gtr (.fld (.idx (.m 2 13) (.s 5) 2) 0) (pI 0))],[([(20,true)],.bin .gtr (.fld (.idx (.m 2 12) (.s 5) 2) 0) (pI 0))],[pV 10 (.ite (.s 20) (.bin .gtr (.fld (.idx (.m 2 12) (.s 5) 2) 0) (pI 0)) pF)]⟩] (.cond (.s 10) (pQ [pC [pK 21 28 [.mm 2 0 10,.fld (.idx (.m 2 13) (.s 5) 2) 0]] [pV 11 (.app pN (.s 21) 1)],.reg ⟨[pK 22 79 [.mm 2 0 14,.flds (.idx (.m 2 12) (.s 5) 2) 0 2]],[([],.idx (.s 11) (.fld (.idx (.m 2 13) (.s 5) 2) 1) 1)],[pV 11 (.upd (.s 11) (.fld (.idx (.m 2 13) (.s 5) 2) 1) 0 (.one (.s 22)))]⟩] (pC [pK 23 29 [.mm 2 0 10,.fld (.idx (.m 2 13) (.s 5) 2) 0,.s 11]] [(2,.m [.fld (.sz (.s 23) 10) 0,.fld (.sz (.s 23) 10) 1,.fld (.sz (.s 23) 10) 2,.fld (.sz (.s 23) 10) 3,.fld (.sz (.s 23) 10) 4,.fld (.sz (.s 23) 10) 5,.fld (.sz (.s 23) 10) 6,.fld (.sz (.s 23) 10) 7,.fld (.sz (.s 23) 10) 8,.fld (.sz (.s 23) 10) 9,.m 2 10,.m 2 11,.m 2 12,.m 2 13])])) .skip))] (pR [pV 5 (.bin .add (.s 5) (pI 1))])))),pR [pV 12 pN],pQ [pR [pV 13 (pI 0)]] (.block 2 (.loop [0,1,2,3,4,5,6,12,13] (pQ [pQ [pR [pV 14 (.bin .lss (.s 13) (.len (.m 2 11)))]] (.cond (.s 14) .skip (.exit 2)),.block 3 (pQ [pR [pV 15 (pU 0)],pQ [pR [pV 16 (.bin .geq (.fld (.idx (.m 2 11) (.s 13) 1) 0) (pI 0))]] (.cond (.s 16) (pC [pK 24 79 [.mm 2 0 14,.flds (.idx (.m 2 12) (.fld (.idx (.m 2 11) (.s 13) 1) 0) 2) 0 2]] [pV 15 (.s 24)]) .skip)] (pR [pV 12 (.app (.s 12) (.lit [.one (.s 15)]) 1)]))] (pR [pV 13 (.bin .add (.s 13) (pI 1))])))),pR [(2,.m [.m 2 0,.m 2 1,.m 2 2,.m 2 3,.m 2 4,.m 2 5,.m 2 6,.m 2 7,.m 2 8,.one (.s 12),.m 2 10,.m 2 11,.m 2 12,.m 2 13])],pR [(4,pM (.mm 2 0 10) 10)]] .ret,[(4,(.ag 10))]⟩
def c46:Zj Sol.prog fresh sig [.fz,.fz] [] Try.f46=some p46:=by kernel_rfl
end Vm
end
section
namespace Vm
open Go Go.Proofs
structure Pl where
 part:Int
 at_:Int
 deriving DecidableEq,Inhabited
def plV(p:Pl):V:=.agg [vi p.part,vi p.at_]
@[simp] theorem Zdj(p:Pl):(plV p).cells=[vi p.part,vi p.at_]:=rfl
@[simp] theorem Zct(p:Pl):RX (plV p) 0 2=some (plV p):=rfl
@[simp] theorem Zcc(p:Pl):fldV (plV p) 0=some (vi p.part):=rfl
@[simp] theorem Zcd(p:Pl):fldV (plV p) 1=some (vi p.at_):=rfl
@[simp] theorem ZfH(p:Pl):szV (plV p) 2=some (plV p):=rfl
@[simp] theorem Zbc(l:List Pl):Yr 2 (l.map plV)=true:=XN λ_=>rfl
structure Rw where
 nodes:List Nd
 roots:List Int
 cls:List Int
 base:Int
 slack:Int
 scan:Int
 to:Int
 deriving Inhabited
def rwV(x:Rw):V:=.agg [.sl (x.nodes.map ndV),.sl (x.roots.map vi),.sl (x.cls.map vi),vu x.base,vi x.slack,vi x.scan,vi x.to]
@[simp] theorem ZfI(x:Rw):szV (rwV x) 7=some (rwV x):=rfl
@[simp] theorem Zdx(x:Rw):(rwV x).cells=[.sl (x.nodes.map ndV),.sl (x.roots.map vi),.sl (x.cls.map vi),vu x.base,vi x.slack,vi x.scan,vi x.to]:=rfl
@[simp] theorem Zce(x:Rw):fldV (rwV x) 0=some (.sl (x.nodes.map ndV)):=rfl
@[simp] theorem Zcf(x:Rw):fldV (rwV x) 1=some (.sl (x.roots.map vi)):=rfl
@[simp] theorem Zcg(x:Rw):fldV (rwV x) 2=some (.sl (x.cls.map vi)):=rfl
@[simp] theorem Zch(x:Rw):fldV (rwV x) 3=some (vu x.base):=rfl
@[simp] theorem Zci(x:Rw):fldV (rwV x) 4=some (vi x.slack):=rfl
@[simp] theorem Zcj(x:Rw):fldV (rwV x) 5=some (vi x.scan):=rfl
@[simp] theorem Zck(x:Rw):fldV (rwV x) 6=some (vi x.to):=rfl
structure Rw.ok (x:Rw):Prop where
 ptrs:∀n∈x.nodes,∀p∈n.ptrs,Fit p
 data:∀n∈x.nodes,∀p∈n.data,U64 p
 roots:∀p∈x.roots,Fit p
 cls:∀p∈x.cls,Fit p
 base:U64 x.base
 slack:Fit x.slack
 scan:Fit x.scan
 to:Fit x.to
def rawC(x:Rw)(i:Nat):Int:=if x.cls.length=0 then i else(x.cls[i%x.cls.length]?).getD 0
def clsK(x:Rw)(i:Nat)(cycle:Bool):Int:=if pick (rawC x i) 3=2/\cycle=false then 1 else pick (rawC x i) 3
def clsF(x:Rw)(i:Nat):Bool:=decide (pick ((rawC x i).tdiv 3) 2=1)
def YW(x:Rw)(i:Nat)(cycle:Bool):clsK x i cycle=0\/clsK x i cycle=1\/(clsK x i cycle=2/\cycle=true):=by
 have:=Wz (c:=rawC x i) (n:=3) (by omega);unfold clsK
 grind
def Z7s{x:Rw}(hx:x.ok){i:Nat}(hi:i<=1000){cycle:Bool}:VC Sol.prog 76 false [rwV x,vi i,.bool cycle] (.tup [vi (clsK x i cycle),.bool (clsF x i)]):=by
 refine Z9 Sol.func76 follows (by kernel_rfl) c76 rfl ?_
 have hc:Fit (rawC x i):=by
  unfold rawC;split
  ·exact⟨by omega,by omega⟩
  ·rename_i h;have:i%x.cls.length<x.cls.length:=ZjH _ (by omega);rw[ZgJ this];exact hx.cls _ (ZgZ this)
 have hp3:=VY (c:=rawC x i) (n:=3) hc (by omega)
 have hd:Fit ((rawC x i).tdiv 3):=by
  obtain⟨h1,h2⟩:=hc;unfold Fit;rw[Int.tdiv_eq_ediv];have:Int.sign 3=1:=rfl;split<;>omega
 have hwd:=Z6 _ hd.1 hd.2;have hp2:=VY (c:=(rawC x i).tdiv 3) (n:=2) hd (by omega);have fin:∀(b:Bool),(decide (pick ((rawC x i).tdiv 3) 2=1)=b)->clsF x i=b:=λb h=>h;by_cases hl:x.cls.length=0
 ·have hr:rawC x i=i:=by simp[rawC,hl]
  rw[hr]at hp3 hp2 hwd;rw[ZjX (by omega)]at hp2 hwd;simp[p76,hl];refine Z1 hp3 (by simp) ?_;by_cases h2:pick (i:Int) 3=2
  ·cases cycle
   ·simp[h2,hwd];refine Z1 hp2 (by simp) ?_;simp[clsK,clsF,hr,h2]
   ·simp[h2,hwd];refine Z1 hp2 (by simp) ?_;simp[clsK,clsF,hr,h2]
  ·simp[h2,hwd];refine Z1 hp2 (by simp) ?_;simp[clsK,clsF,hr,h2]
 ·have hlt:i%x.cls.length<x.cls.length:=ZjH _ (by omega);have hg:x.cls[i%x.cls.length]?=some x.cls[i%x.cls.length]:=ZgJ hlt;have hr:rawC x i=x.cls[i%x.cls.length]:=by simp[rawC,hl,hg]
  have hm:(i:Int).tmod (x.cls.length:Int)=((i%x.cls.length:Nat):Int):=by
   rw[ZhK (by omega)];rfl
  rw[hr]at hp3 hp2 hwd;have h0:0<x.cls.length:=by omega
  have hne:x.cls≠[]:=λe=>by simp_all
  have hm':((i:Int) % (x.cls.length:Int))=((i%x.cls.length:Nat):Int):=rfl;generalize hcc:x.cls[i%x.cls.length]=c at*;generalize hii:i%x.cls.length=j at*;simp[p76,h0,hne,hm,hlt,hcc];refine Z1 hp3 (by simp) ?_;by_cases h2:pick c 3=2
  ·cases cycle
   ·simp[h2,hwd];refine Z1 hp2 (by simp) ?_;simp[clsK,clsF,hr,h2]
   ·simp[h2,hwd];refine Z1 hp2 (by simp) ?_;simp[clsK,clsF,hr,h2]
  ·simp[h2,hwd];refine Z1 hp2 (by simp) ?_;simp[clsK,clsF,hr,h2]
def sizN(n:Nd):Nat:=1+n.ptrs.length+n.data.length
structure St8 where
 n1:Nat
 n2:Nat
 n3:Nat
 n4:Nat
 wt:Nat
 here:List Pl
 old:List Pl
def ZU(x:Rw)(cycle:Bool)(sz:Nat)(i:Nat)(s:St8):St8:=
 let k:=clsK x i cycle
 let far:=clsF x i
 let o:Bool:=decide (0<k)&&cycle
 {n1:=if k=1 then s.n1+sz else s.n1
  n2:=if k=0 then s.n2+sz else s.n2
  n3:=if o&& !far then s.n3+sz else s.n3
  n4:=if o&&far then s.n4+sz else s.n4
  wt:=if k=2 then s.wt+sz else s.wt
  here:=s.here++[if k=0 then⟨2,s.n2⟩else if k=1 then⟨1,s.n1⟩else⟨0,0⟩]
  old:=s.old++[if o then(if far then⟨4,s.n4⟩else⟨3,s.n3⟩)else⟨0,0⟩]}
def stN(x:Rw)(cycle:Bool)(g:Gr):Nat->St8
 |0=>⟨0,0,0,0,0,[],[]⟩
 |i+1=>ZU x cycle (sizN ((g.nodes[i]?).getD default)) i (stN x cycle g i)
def jx{x:Rw}{cycle:Bool}{sz i:Nat}(hs:sz<=9)(s:St8)(h1:s.n1+s.n2+s.wt<=9*i)(h2:s.n3+s.n4<=9*i)(h3:s.here.length=i)(h4:s.old.length=i):
  (ZU x cycle sz i s).n1+(ZU x cycle sz i s).n2+(ZU x cycle sz i s).wt<=9*(i+1)/\(ZU x cycle sz i s).n3+(ZU x cycle sz i s).n4<=9*(i+1)/\(ZU x cycle sz i s).here.length=i+1/\(ZU x cycle sz i s).old.length=i+1:=by
 rcases YW x i cycle with hk|hk|⟨hk,rfl⟩
 ·grind [ZU]
 ·grind [clsF,ZU]
 grind [clsF,ZU]
def Ub{x:Rw}{cycle:Bool}{g:Gr}(hg:∀n∈g.nodes,sizN n<=9):∀i,i<=g.nodes.length->(stN x cycle g i).n1+(stN x cycle g i).n2+(stN x cycle g i).wt<=9*i/\(stN x cycle g i).n3+(stN x cycle g i).n4<=9*i/\(stN x cycle g i).here.length=i/\(stN x cycle g i).old.length=i
 |0,_=>by simp[stN]
 |i+1,hi=>by
  obtain⟨h1,h2,h3,h4⟩:=Ub (x:=x) (cycle:=cycle) hg i (by omega);have hn:=hg _ (ZgZ (show i<g.nodes.length by omega));simp only[stN,ZgJ (show i<g.nodes.length by omega),Zhe];simp_all[jx]
structure Bt where
 h:Hp
 g:Gr
 here:List Pl
 old:List Pl
def btC(b:Bt):List V:=[vu b.h.base,vi b.h.cap,vi b.h.to,.bool b.h.cycle,vi b.h.scan,.sl (b.h.low.map vu),.sl (b.h.high.map vu),.sl (b.h.old.map vu),.sl (b.h.far.map vu),.sl (b.h.roots.map vu),.sl (b.g.nodes.map ndV),.sl (b.g.roots.map vi),.sl (b.here.map plV),.sl (b.old.map plV)]
def btV(b:Bt):V:=.agg [vu b.h.base,vi b.h.cap,vi b.h.to,.bool b.h.cycle,vi b.h.scan,.sl (b.h.low.map vu),.sl (b.h.high.map vu),.sl (b.h.old.map vu),.sl (b.h.far.map vu),.sl (b.h.roots.map vu),.sl (b.g.nodes.map ndV),.sl (b.g.roots.map vi),.sl (b.here.map plV),.sl (b.old.map plV)]
def ZB(x:Rw)(cycle:Bool):Bt:=
 let g:=mkG x.nodes x.roots
 let s:=stN x cycle g g.nodes.length
 let cap:Int:=max ((s.n1:Int)+s.n2+s.wt) ((s.n3:Int)+s.n4)+pick x.slack 12
 ⟨⟨1+x.base% (9223372036854775808-2*cap),cap,pick x.to 2,cycle,if cycle=true/\0<s.n1 then pick x.scan s.n1 else s.n1,List.replicate s.n1 0,List.replicate s.n2 0,List.replicate s.n3 0,List.replicate s.n4 0,[]⟩,g,s.here,s.old⟩
def Z2H{x:Rw}(hx:x.ok){cycle:Bool}:VC Sol.prog 45 false [rwV x,.bool cycle] (btV (ZB x cycle)):=by
 refine Z9 Sol.func45 follows (by kernel_rfl) c45 rfl ?_;simp[p45];refine Z1 (Z7c hx.ptrs hx.roots) (by simp) ?_;obtain⟨hb1,hb2,hb3⟩:=SW x.nodes x.roots;have hb5:=TX x.nodes x.roots;unfold ZB;generalize mkG x.nodes x.roots=g at*;have hsz:∀n∈g.nodes,sizN n<=9:=λn hn=>by have:=hb3 n hn;unfold sizN;omega
 simp
 refine YJ 7 g.nodes.length (λi=>[(4,.m [.int .u64 0,.int .i64 0,.int .i64 0,.bool false,.int .i64 0,.sl [],.sl [],.sl [],.sl [],.sl [],.sl (g.nodes.map ndV),.sl (g.roots.map vi),.sl ((stN x cycle g i).here.map plV),.sl ((stN x cycle g i).old.map plV)]),
  (5,.m [vi 0,vi (stN x cycle g i).n1,vi (stN x cycle g i).n2,vi (stN x cycle g i).n3,vi (stN x cycle g i).n4]),(6,.v (vi (stN x cycle g i).wt)),(7,.v (vi i))]) (λ_=>True) (by simp[stN]) (λi=>by simp) trivial ?_
 rintro i hi-;have hw:=Z6 ((i:Int)+1) (by omega) (by omega);obtain⟨s1,s2,s3,s4⟩:=Ub (x:=x) (cycle:=cycle) hsz i hi;by_cases h:i<g.nodes.length
 ·have hn:g.nodes[i]?=some g.nodes[i]:=ZgJ h;have hz:=hsz _ (ZgZ h);simp only[stN,hn,Zhe];generalize stN x cycle g i=s at*;generalize g.nodes[i]=n at*;have hc:=Z7s hx (i:=i) (by omega) (cycle:=cycle);have hkr:=YW x i cycle;have w1:=Z6 (1+(n.ptrs.length:Int)) (by unfold sizN at hz;omega) (by unfold sizN at hz;omega);have w2:=Z6 (1+(n.ptrs.length:Int)+n.data.length) (by unfold sizN at hz;omega) (by unfold sizN at hz;omega);have e2:(1+(n.ptrs.length:Int)+n.data.length)=(sizN n:Nat):=by unfold sizN;omega
  rw[e2]at w2;simp[h];refine Z1 hc (by simp) ?_;generalize hsz':sizN n=sz at*;unfold ZU;generalize clsF x i=fr at*;generalize clsK x i cycle=k at*;have u1:=Z6 ((s.n1:Int)+sz) (by omega) (by omega);have u2:=Z6 ((s.n2:Int)+sz) (by omega) (by omega);have u3:=Z6 ((s.n3:Int)+sz) (by omega) (by omega);have u4:=Z6 ((s.n4:Int)+sz) (by omega) (by omega);have u5:=Z6 ((s.wt:Int)+sz) (by omega) (by omega);have l1:s.here.length+1<=lim:=by simp[lim];omega
  have l2:s.old.length+1<=lim:=by simp[lim];omega
  rcases hkr with rfl|rfl|⟨rfl,rfl⟩
  ·cases cycle<;>simp[hn,ZZ hn,w1,e2,w2,aiV,QJ,ZA,Z6,u1,u2,u3,u4,u5,l1,l2,plV,hw]
  ·cases cycle
   ·simp[hn,ZZ hn,w1,e2,w2,aiV,QJ,ZA,Z6,u1,u2,u3,u4,u5,l1,l2,plV,hw]
   ·cases fr<;>simp[hn,ZZ hn,w1,e2,w2,aiV,QJ,ZA,Z6,u1,u2,u3,u4,u5,l1,l2,plV,hw]
  ·cases fr<;>simp[hn,ZZ hn,w1,e2,w2,aiV,QJ,ZA,Z6,u1,u2,u3,u4,u5,l1,l2,plV,hw]
 ·have:i=g.nodes.length:=by omega
  subst this;generalize hs8:stN x cycle g g.nodes.length=s at*;have hpt:=VY (c:=x.to) (n:=2) hx.to (by omega);have hps:=VY (c:=x.slack) (n:=12) hx.slack (by omega);have hsl:=Wz (c:=x.slack) (n:=12) (by omega);simp;refine Z1 hpt (by simp) ?_;have q1:s.n1<=lim:=by simp[lim];omega
  have q2:s.n2<=lim:=by simp[lim];omega
  have q3:s.n3<=lim:=by simp[lim];omega
  have q4:s.n4<=lim:=by simp[lim];omega
  simp[aiV,q1,q2,q3,q4];refine Z1 hps (by simp) ?_;have w1:=Z6 ((s.n1:Int)+s.n2) (by omega) (by omega);have w2:=Z6 ((s.n1:Int)+s.n2+s.wt) (by omega) (by omega);have w3:=Z6 ((s.n3:Int)+s.n4) (by omega) (by omega);have hmax:(if(s.n1:Int)+s.n2+s.wt< (s.n3:Int)+s.n4 then(s.n3:Int)+s.n4 else(s.n1:Int)+s.n2+s.wt)=max ((s.n1:Int)+s.n2+s.wt) ((s.n3:Int)+s.n4):=by split<;>omega
  obtain⟨cap,hcap⟩:∃cap:Int,max ((s.n1:Int)+s.n2+s.wt) ((s.n3:Int)+s.n4)+pick x.slack 12=cap:=⟨_,rfl⟩;have hc0:0<=cap/\cap<=200:=by omega
  have w4:=Z6 cap (by omega) (by omega);have w5:=Zr cap (by omega) (by omega);have w6:=Zr (2*cap) (by omega) (by omega);have w7:=Zr (9223372036854775808-2*cap) (by omega) (by omega);obtain⟨b1,b2⟩:=hx.base;have w8:x.base.tmod (9223372036854775808-2*cap)=x.base% (9223372036854775808-2*cap):=ZhK b1;have h1:=Zkx x.base (show(9223372036854775808-2*cap)≠0 by omega);have h2:=Zk2 x.base (show 0< (9223372036854775808-2*cap)by omega);have w9:=Zr (1+x.base% (9223372036854775808-2*cap)) (by omega) (by omega);have hne:¬((9223372036854775808-2*cap)=0):=by omega
  simp[aiV,w1,w2,w3,hmax,hcap,w4,w5,w6,w7,w8,w9,hne];cases cycle
  ·simp[btV,hcap]
  ·by_cases h0:0<s.n1
   ·have hp:=VY (c:=x.scan) (n:=(s.n1:Int)) hx.scan (by omega);simp[h0];refine Z1 hp (by simp) ?_;simp[btV,hcap,h0,aiV]
   ·simp[btV,hcap,h0]
end Vm
namespace Vm
open Go Go.Proofs
@[simp] theorem ZfA(b:Bt):szV (btV b) 14=some (btV b):=rfl
@[simp] theorem Zbp(b:Bt):(btV b).cells=btC b:=rfl
@[simp] theorem Zei(b:Bt)(i:Nat):fldV (btV b) i=(btC b)[i]?.bind oneV:=rfl
def Z0X(s p:Int):0<=(Q1 s p).1/\(Q1 s p).1<100000000:=by
 grind [Q1,Zf]
def jS(l:Ly)(hl:l.fits)(p a:Int):0<=(ZI l p a).1/\(ZI l p a).1<=9223372036854775807:=by
 unfold ZI;split
 ·simp
 ·rename_i hr;have hr':Zl l=true:=by simpa using hr
  split
  ·simp
  ·split
   ·simp
   ·have:=Y1 hr' p;omega
def Z17{a:Int}:0<=(Q3 a).1/\(Q3 a).1<18446744073709551616:=by
 unfold Q3;split
 ·simp
 ·omega
def refB(h:Hp)(p:Pl):Int:=if p.part=0 then 0 else(Q3 (ZI (layH h) p.part p.at_).1).1
theorem R5(h:Hp)(p:Pl):U64 (refB h p):=by
 unfold refB;split
 ·exact⟨by omega,by omega⟩
 ·exact Z17
def JM{b:Bt}(hb:(layH b.h).fits){p:Pl}:VC Sol.prog 79 false [btV b,plV p] (vu (refB b.h p)):=by
 refine Z9 Sol.func79 follows (by kernel_rfl) c79 rfl ?_;by_cases h0:p.part=0
 ·simp[p79,btC,refB,h0]
 ·have hr:=jS (layH b.h) hb p.part p.at_;simp[p79,btC,h0];refine Z1 (je (h:=b.h)) (by simp[hpV]) ?_;simp;refine Z1 (Z1b hb (part:=p.part) (at_:=p.at_)) (by simp) ?_;simp;refine Z1 (Z1c (a:=(ZI (layH b.h) p.part p.at_).1) ⟨hr.1,by omega⟩) (by simp) ?_;simp[refB,h0]
def UG(b:Bt)(p:Pl)(to tw:Int):Int:=
 if to<0 then 0 else if 2<p.part then refB b.h ((b.old[to.toNat]?).getD ⟨0,0⟩)
 else if p.part=1/\b.h.scan<=p.at_/\(((b.here[to.toNat]?).getD ⟨0,0⟩).part=0\/0< ((b.old[to.toNat]?).getD ⟨0,0⟩).part/\tw%2=0)then refB b.h ((b.old[to.toNat]?).getD ⟨0,0⟩)
 else refB b.h ((b.here[to.toNat]?).getD ⟨0,0⟩)
theorem Z1q(b:Bt)(p:Pl)(to tw:Int):U64 (UG b p to tw):=by
 unfold UG;split
 ·exact⟨by omega,by omega⟩
 grind [R5]
def ZdM(t:Int):t.tmod 2=0↔t%2=0:=by
 grind
def Z8A{b:Bt}(hb:(layH b.h).fits){p:Pl}{to tw:Int}(h1:to<b.here.length)(h2:to<b.old.length):VC Sol.prog 100 false [btV b,plV p,vi to,vi tw] (vu (UG b p to tw)):=by
 refine Z9 Sol.func100 follows (by kernel_rfl) c100 rfl ?_;by_cases h0:to<0
 ·simp[p100,btC,UG,h0]
 obtain⟨t,rfl⟩:=Zh4 (show 0<=to by omega);have g1:b.here[t]?=some (b.here[t]'(by omega)):=ZgJ (by omega);have g2:b.old[t]?=some (b.old[t]'(by omega)):=ZgJ (by omega);generalize b.here[t]'(by omega)=x at*;generalize b.old[t]'(by omega)=y at*;unfold UG;simp only[Zhl,g1,g2,Zhe,if_neg h0];by_cases q1:2<p.part
 ·simp[p100,btC,q1,g2];refine Z1 (JM hb (p:=y)) (by simp[btV]) ?_;simp
 have k1:=JM hb (p:=x);have k2:=JM hb (p:=y);by_cases q2:p.part=1
 ·by_cases q3:b.h.scan<=p.at_
  ·by_cases q4:x.part=0
   ·simp[p100,btC,q1,q2,q3,q4,g1,g2];refine Z1 k2 (by simp[btV]) ?_;simp
   ·by_cases q5:0<y.part
    ·by_cases q6:tw%2=0
     ·have q6':=(ZdM tw).2 q6;simp[p100,btC,q1,q2,q3,q4,q5,q6,q6',g1,g2];refine Z1 k2 (by simp[btV]) ?_;simp
     ·have q6':=mt (ZdM tw).1 q6;simp[p100,btC,q1,q2,q3,q4,q5,q6,q6',g1,g2];refine Z1 k1 (by simp[btV]) ?_;simp
    ·simp[p100,btC,q1,q2,q3,q4,q5,g1,g2];refine Z1 k1 (by simp[btV]) ?_;simp
  ·simp[p100,btC,q1,q2,q3,g1,g2];refine Z1 k1 (by simp[btV]) ?_;simp
 ·simp[p100,btC,q1,q2,g1,g2];refine Z1 k1 (by simp[btV]) ?_;simp
@[simp] theorem Zdn(x y:Int):V.put (vu x) 0 [vu y]=vu y:=rfl
def zS{l pre:List Int}{m:Nat}(h:pre.length=m)(hm:m<l.length)(z:Int):(pre++l.drop m).set m z=pre++[z]++l.drop (m+1):=by
 subst h;rw[ZkD _ _ (ZgP _),Ziu,ZhF hm,List.set_cons_zero,ZhR];rfl
def Yi(b:Bt)(p:Pl)(a:Nat)(ps:List Int)(tw:Int):List Int:=(List.range ps.length).map λi=>UG b ⟨p.part,((a+1+i:Nat):Int)⟩ ((ps[i]?).getD 0) (IntKind.i64.wrap (tw+i))
def layL(b:Bt)(p:Pl)(a:Nat)(n:Nd)(tw:Int):List Int:=
 let l:=Zm b.h p.part
 l.take a++[(Q1 ((n.ptrs.length:Int)+n.data.length) n.ptrs.length).1]++Yi b p a n.ptrs tw++n.data++l.drop (a+sizN n)
def layB(b:Bt)(p:Pl)(n:Nd)(tw:Int):Bt:= {b with h:=WZ b.h p.part (layL b p p.at_.toNat n tw)}
def Z96{b:Bt}(hb:(layH b.h).fits){p:Pl}{n:Nd}{tw:Int}{a:Nat}(ha:p.at_=a)(hlen:(Zm b.h p.part).length<=1000000)(hfit:a+sizN n<=(Zm b.h p.part).length)
  (h1:∀q∈n.ptrs,q<b.here.length/\q<b.old.length):VC Sol.prog 78 false [btV b,plV p,ndV n,vi tw] (btV (layB b p n tw)):=by
 refine Z9 Sol.func78 follows (by kernel_rfl) c78 rfl ?_;have hlim:(Zm b.h p.part).length<=lim:=by simp[lim];omega
 have w1:=Z6 ((n.ptrs.length:Int)+n.data.length) (by unfold sizN at hfit;omega) (by unfold sizN at hfit;omega);unfold layB;rw[show p.at_.toNat=a by omega];simp[p78,btC];refine Z1 (Z4s (h:=b.h) (n:=p.part)) (by simp[hpV]) ?_;simp[hlim,w1];refine Z1 (Z3P (s:=(n.ptrs.length:Int)+n.data.length) (p:=n.ptrs.length)) (by simp) ?_;have hpl:a< (Zm b.h p.part).length:=by unfold sizN at hfit;omega
 simp[ha,hpl];generalize hl0:Zm b.h p.part=l at*;generalize hhd:(Q1 ((n.ptrs.length:Int)+n.data.length) n.ptrs.length).1=hd at*
 have hset0:(l.map vu).set a (vu hd)=((l.take a++[hd])++l.drop (a+1)).map vu:=by
  rw[<-Zjz];congr 1;have:=zS (l:=l) (pre:=l.take a) (m:=a) (by simp;omega) hpl hd;rw[ZiM]at this;exact this
 simp only[Zdn,hset0];have hw1:=Z6 ((a:Int)+1) (by omega) (by omega);have hnp:n.ptrs.length<=l.length:=by unfold sizN at hfit;omega
 have hsl:(Yi b p a n.ptrs tw).length=n.ptrs.length:=by simp[Yi]
 refine YJ 11 n.ptrs.length (λk=>[(8,.v (.sl (((l.take a++[hd]++(Yi b p a n.ptrs tw).take k)++l.drop (a+1+k)).map vu))),(11,.v (vi k))]) (λ_=>True) (by simp) (λi=>by simp) trivial ?_;rintro k hk-;have hwk:=Z6 ((k:Int)+1) (by omega) (by omega);have hw2:=Z6 ((a:Int)+1+k) (by omega) (by omega);by_cases hkl:k<n.ptrs.length
 ·have hq:n.ptrs[k]?=some n.ptrs[k]:=ZgJ hkl;obtain⟨q1,q2⟩:=h1 _ (ZgZ hkl);have hslot:=Z8A hb (p:=⟨p.part,((a+1+k:Nat):Int)⟩) (to:=n.ptrs[k]) (tw:=IntKind.i64.wrap (tw+k)) q1 q2
  have hsk:(Yi b p a n.ptrs tw)[k]?=some (UG b ⟨p.part,((a+1+k:Nat):Int)⟩ n.ptrs[k] (IntKind.i64.wrap (tw+k))):=by
   simp[Yi,hkl]
  generalize n.ptrs[k]=q at*;generalize UG b ⟨p.part,((a+1+k:Nat):Int)⟩ q (IntKind.i64.wrap (tw+k))=z at*;have htk:(Yi b p a n.ptrs tw).take (k+1)=(Yi b p a n.ptrs tw).take k++[z]:=by rw[ZhE,hsk];rfl
  have hpre:(l.take a++[hd]++(Yi b p a n.ptrs tw).take k).length=a+1+k:=by simp[hsl];omega
  have hm:a+1+k<l.length:=by unfold sizN at hfit;omega
  have hst:=zS (l:=l) hpre hm z;generalize hpp:l.take a++[hd]++(Yi b p a n.ptrs tw).take k=pre at*
  have hall:∃x,((pre++l.drop (a+1+k)).map vu)[a+1+k]?=some (vu x):=by
   refine⟨l[a+1+k],?_⟩;rw[Zh2,Zh6 (by omega),hpre,Ziu,ZhF hm];rfl
  have hset:((pre++l.drop (a+1+k)).map vu).set (a+1+k) (vu z)=(pre++[z]++l.drop (a+1+(k+1))).map vu:=by
   rw[<-Zjz,hst];rfl
  obtain⟨m,hmn⟩:∃m:Nat,a+1+k=m:=⟨_,rfl⟩;have hmi:(a:Int)+1+k=m:=by omega
  have hwm:=Z6 (m:Int) (by omega) (by omega);rw[show a+1+(k+1)=a+1+k+1 by omega]at hset⊢;rw[hmn]at hall hset hslot⊢;generalize hLL:(pre++l.drop m).map vu=LL at hall hset⊢;rw[htk];obtain⟨y,hy⟩:=hall;simp[hkl,hq,ZZ hq,hw1,hw2,hmi,hwm];refine Z1 hslot (by simp[btV]) ?_;simp[hy,hset,hwk,hkl,hw1,hmi,hwm];rw[<-hpp];simp
 ·have:k=n.ptrs.length:=by omega
  subst this;rw[show(Yi b p a n.ptrs tw).take n.ptrs.length=Yi b p a n.ptrs tw from Zhi (by omega)];have hw3:=Z6 ((a:Int)+1+n.ptrs.length) (by omega) (by omega);have hw4:∀j:Nat,j<=1000+n.data.length->IntKind.i64.wrap ((a:Int)+1+n.ptrs.length+j)=(a:Int)+1+n.ptrs.length+j:=λj hj=>Z6 _ (by omega) (by unfold sizN at hfit;omega);generalize hsp:l.take a++[hd]++Yi b p a n.ptrs tw=sp at*;have hspl:sp.length=a+1+n.ptrs.length:=by rw[<-hsp];simp[hsl];omega
  simp;refine YJ 13 n.data.length (λk=>[(8,.v (.sl (((sp++n.data.take k)++l.drop (a+1+n.ptrs.length+k)).map vu))),(13,.v (vi k))]) (λ_=>True) (by simp) (λi=>by simp) trivial ?_;rintro k hk-;have hwk:=Z6 ((k:Int)+1) (by omega) (by unfold sizN at hfit;omega);by_cases hkl:k<n.data.length
  ·have hq:n.data[k]?=some n.data[k]:=ZgJ hkl;generalize n.data[k]=z at*;have htk:n.data.take (k+1)=n.data.take k++[z]:=by rw[ZhE,hq];rfl
   have hpre:(sp++n.data.take k).length=a+1+n.ptrs.length+k:=by simp[hspl];omega
   have hm:a+1+n.ptrs.length+k<l.length:=by unfold sizN at hfit;omega
   have hst:=zS (l:=l) hpre hm z;generalize hpp:sp++n.data.take k=pre at*
   have hall:∃x,((pre++l.drop (a+1+n.ptrs.length+k)).map vu)[a+1+n.ptrs.length+k]?=some (vu x):=by
    refine⟨l[a+1+n.ptrs.length+k],?_⟩;rw[Zh2,Zh6 (by omega),hpre,Ziu,ZhF hm];rfl
   have hset:((pre++l.drop (a+1+n.ptrs.length+k)).map vu).set (a+1+n.ptrs.length+k) (vu z)=(pre++[z]++l.drop (a+1+n.ptrs.length+k+1)).map vu:=by
    rw[<-Zjz,hst]
   rw[show a+1+n.ptrs.length+(k+1)=a+1+n.ptrs.length+k+1 by omega];have hw5:=hw4 k (by omega);obtain⟨m,hmn⟩:∃m:Nat,a+1+n.ptrs.length+k=m:=⟨_,rfl⟩;have hmi:(a:Int)+1+n.ptrs.length+k=m:=by omega
   have hwm:=Z6 (m:Int) (by omega) (by omega);rw[hmn]at hall hset⊢;generalize hLL:(pre++l.drop m).map vu=LL at hall hset⊢;rw[htk];obtain⟨y,hy⟩:=hall;simp[hkl,hq,ZZ hq,hw1,hw3,hw5,hmi,hwm,hy,hset,hwk];rw[<-hpp];simp
  ·have:k=n.data.length:=by omega
   subst this;rw[show n.data.take n.data.length=n.data from Zib];have hwith:=Z4u (h:=b.h) (n:=p.part) (l:=sp++n.data++l.drop (a+1+n.ptrs.length+n.data.length))
   have hlay:layL b p a n tw=sp++n.data++l.drop (a+1+n.ptrs.length+n.data.length):=by
    unfold layL;rw[hl0,hhd];dsimp only;rw[hsp,show a+sizN n=a+1+n.ptrs.length+n.data.length by unfold sizN;omega]
   rw[hlay];generalize sp++n.data++l.drop (a+1+n.ptrs.length+n.data.length)=fin at*;simp;refine Z1 hwith (by simp[hpV]) ?_;simp[btV]
end Vm
namespace Vm
open Go Go.Proofs
def wOk(h:Hp):Prop:=(∀k,∀w∈Zm h k,U64 w)/\∀w∈h.roots,U64 w
structure BOk (b:Bt):Prop where
 lay:(layH b.h).fits
 hl:b.here.length=b.g.nodes.length
 ol:b.old.length=b.g.nodes.length
 nn:b.g.nodes.length<=10
 ptr:∀n∈b.g.nodes,∀q∈n.ptrs,q< (b.g.nodes.length:Int)
 dat:∀n∈b.g.nodes,∀q∈n.data,U64 q
 rts:∀q∈b.g.roots,q< (b.g.nodes.length:Int)
 rl:b.g.roots.length<=5
 here:∀(i:Nat) (p:Pl) (n:Nd),b.here[i]?=some p->b.g.nodes[i]?=some n->p=⟨0,0⟩\/∃a:Nat,p.at_=a/\(p.part=1\/p.part=2)/\a+sizN n<=(Zm b.h p.part).length
 old:∀(i:Nat) (p:Pl) (n:Nd),b.old[i]?=some p->b.g.nodes[i]?=some n->p=⟨0,0⟩\/∃a:Nat,p.at_=a/\(p.part=3\/p.part=4)/\a+sizN n<=(Zm b.h p.part).length
 len:∀k,(Zm b.h k).length<=1000
 words:wOk b.h
theorem S3{h h':Hp}(hl:layH h'=layH h)(k:Int):(Zm h' k).length=(Zm h k).length:=by
 grind [layH,Ly.mk.injEq,Zm]
def BOk.keep{b:Bt}(hb:BOk b){h':Hp}(hl:layH h'=layH b.h)(hw:wOk h'):BOk {b with h:=h'} where
 lay:=by show(layH h').fits;rw[hl];exact hb.lay
 hl:=hb.hl
 ol:=hb.ol
 nn:=hb.nn
 ptr:=hb.ptr
 dat:=hb.dat
 rts:=hb.rts
 rl:=hb.rl
 here:=λi p n hp hn=>by
  rcases hb.here i p n hp hn with h|⟨a,h1,h2,h3⟩
  ·grind
  grind [Zm,S3,hl]
 old:=λi p n hp hn=>by
  rcases hb.old i p n hp hn with h|⟨a,h1,h2,h3⟩
  ·grind
  grind [Zm,S3,hl]
 len:=λk=>by show(Zm h' k).length<=1000;rw[S3 hl];exact hb.len k
 words:=hw
def jK{h:Hp}{p:Int}{l:List Int}(hl:l.length=(Zm h p).length):layH (WZ h p l)=layH h:=by
 unfold WZ Zm at*;split
 ·simp_all[if_pos,layH]
 rename_i e1;rw[if_neg e1]at hl;split
 ·simp_all[if_pos,layH]
 rename_i e2;rw[if_neg e2]at hl;split
 ·simp_all[if_pos,layH]
 simp_all[if_neg,layH]
def Z1z{h:Hp}{p:Int}{l:List Int}(hh:wOk h)(hl:∀w∈l,U64 w):wOk (WZ h p l):=by
 have h1:=hh.1 1;have h2:=hh.1 2;have h3:=hh.1 3;have h4:=hh.1 4
 grind [Z9c,Z9d,Z9e,Z9f,U64,wOk,Zm,WZ]
def Z0F{b:Bt}{p:Pl}{a:Nat}{n:Nd}{tw:Int}(hf:a+sizN n<=(Zm b.h p.part).length):(layL b p a n tw).length=(Zm b.h p.part).length:=by
 grind [layL,sizN,Yi]
def Z3B{b:Bt}{p:Pl}{a:Nat}{n:Nd}{tw:Int}(hw:wOk b.h)(hn:∀q∈n.data,U64 q):∀w∈layL b p a n tw,U64 w:=by
 intro w hm;unfold layL at hm;simp only[Zh9,ZhJ]at hm;rcases hm with (((hm|hm)|hm)|hm)|hm
 ·exact hw.1 _ w (ZhB hm)
 ·subst hm;have:=Z0X ((n.ptrs.length:Int)+n.data.length) n.ptrs.length;exact⟨this.1,by omega⟩
 ·simp only[Yi,ZgX]at hm;obtain⟨i,_,rfl⟩:=hm
  grind [Z1q]
 ·grind
 ·exact hw.1 _ w (Zih hm)
def RV(x:Rw)(b:Bt)(i:Nat)(n:Nd)(p:Pl):Bt:=if 0<p.part then layB b p n (IntKind.i64.wrap (x.slack+i))else b
def RW(b:Bt)(n:Nd)(p o:Pl):Bt:=if 0<o.part/\p.part=0 then layB b o n 0 else b
def SB(b:Bt)(p o:Pl):Bt:=if 0<o.part/\0<p.part then {b with h:=WZ b.h o.part ((Zm b.h o.part).set o.at_.toNat (refB b.h p))}else b
def Z3o(x:Rw)(b:Bt)(i:Nat):Bt:=
 let n:=(b.g.nodes[i]?).getD default
 let p:=(b.here[i]?).getD ⟨0,0⟩
 let o:=(b.old[i]?).getD ⟨0,0⟩
 SB (RW (RV x b i n p) n p o) p o
structure Like (b b':Bt):Prop where
 g:b'.g=b.g
 here:b'.here=b.here
 old:b'.old=b.old
 lay:layH b'.h=layH b.h
 words:wOk b'.h
 scan:b'.h.scan=b.h.scan
 cycle:b'.h.cycle=b.h.cycle
def Like.ok{b b':Bt}(hl:Like b b')(hb:BOk b):BOk b':=by
 obtain⟨h',g',here',old'⟩:=b';obtain⟨h1,h2,h3,h4,h5,_⟩:=hl;simp only at h1 h2 h3 h4 h5;subst h1 h2 h3;exact hb.keep h4 h5
def Like.trans{a b c:Bt}(h:Like a b)(k:Like b c):Like a c:=⟨k.g.trans h.g,k.here.trans h.here,k.old.trans h.old,k.lay.trans h.lay,k.words,k.scan.trans h.scan,k.cycle.trans h.cycle⟩
def Lw(h:Hp)(p:Int)(l:List Int):(WZ h p l).scan=h.scan/\(WZ h p l).cycle=h.cycle:=by
 unfold WZ
 grind
def qs{b:Bt}(hb:BOk b){p:Int}{l:List Int}(hl:l.length=(Zm b.h p).length)(hw:∀w∈l,U64 w):Like b {b with h:=WZ b.h p l}:=
 ⟨rfl,rfl,rfl,jK hl,Z1z hb.words hw,(Lw _ _ _).1,(Lw _ _ _).2⟩
def TU{b:Bt}(hb:BOk b):Like b b:=⟨rfl,rfl,rfl,rfl,hb.words,rfl,rfl⟩
def Z2a{b:Bt}(hb:BOk b){p:Pl}{n:Nd}{tw:Int}{a:Nat}(ha:p.at_=a)(hf:a+sizN n<=(Zm b.h p.part).length)(hn:∀q∈n.data,U64 q):Like b (layB b p n tw):=by
 unfold layB;rw[ha,Zhl];exact qs hb (Z0F hf) (Z3B hb.words hn)
def Z5C{x:Rw}{b:Bt}(hb:BOk b){i:Nat}{n:Nd}{p:Pl}(hn:b.g.nodes[i]?=some n)(hp:b.here[i]?=some p):Like b (RV x b i n p):=by
 unfold RV;split
 ·rename_i h0;rcases hb.here i p n hp hn with rfl|⟨a,h1,h2,h3⟩
  ·simp at h0
  ·exact Z2a hb h1 h3 (hb.dat n (ZgQ hn))
 ·exact TU hb
def Z5D{b:Bt}(hb:BOk b){i:Nat}{n:Nd}{p o:Pl}(hn:b.g.nodes[i]?=some n)(ho:b.old[i]?=some o):Like b (RW b n p o):=by
 unfold RW;split
 ·rename_i h0;rcases hb.old i o n ho hn with rfl|⟨a,h1,h2,h3⟩
  ·simp at h0
  ·exact Z2a hb h1 h3 (hb.dat n (ZgQ hn))
 ·exact TU hb
def ZcE{b:Bt}(hb:BOk b){p o:Pl}:Like b (SB b p o):=by
 unfold SB;split
 ·refine qs hb (by simp) λw hw=> ?_;rcases Zjg hw with h|rfl
  ·exact hb.words.1 _ w h
  ·exact R5 _ _
 ·exact TU hb
def ZcF{x:Rw}{b:Bt}(hb:BOk b){i:Nat}(hi:i<b.g.nodes.length):Like b (Z3o x b i):=by
 have hn:b.g.nodes[i]?=some b.g.nodes[i]:=ZgJ hi;have hp:b.here[i]?=some (b.here[i]'(by rw[hb.hl];exact hi)):=ZgJ _;have ho:b.old[i]?=some (b.old[i]'(by rw[hb.ol];exact hi)):=ZgJ _;unfold Z3o;simp only[hn,hp,ho,Zhe];have h1:=Z5C (x:=x) hb hn hp;have h2:=Z5D (p:=b.here[i]'(by rw[hb.hl];exact hi)) (h1.ok hb) (by rw[h1.g];exact hn) (by rw[h1.old];exact ho);exact(h1.trans h2).trans (ZcE (h2.ok (h1.ok hb)))
def SD(x:Rw)(b:Bt):Nat->Bt
 |0=>b
 |i+1=>Z3o x (SD x b i) i
def qr{x:Rw}{b:Bt}(hb:BOk b):∀i,i<=b.g.nodes.length->Like b (SD x b i)
 |0,_=>TU hb
 |i+1,hi=>by
  have h:=qr (x:=x) hb i (by omega);exact h.trans (ZcF (h.ok hb) (by rw[h.g];omega))
def Y8(x:Rw)(b:Bt):Hp:=
 let b':=SD x b b.g.nodes.length
 {b'.h with roots:=b.g.roots.map λr=>if 0<=r then refB b'.h ((b.here[r.toNat]?).getD ⟨0,0⟩)else 0}
def Z4W{x:Rw}(hx:x.ok){b:Bt}(hb:BOk b):VC Sol.prog 46 false [btV b,rwV x] (hpV (Y8 x b)):=by
 refine Z9 Sol.func46 follows (by kernel_rfl) c46 rfl ?_;simp[p46,btC];refine YJ 5 b.g.nodes.length (λi=>[(2,.m (btC (SD x b i))),(5,.v (vi i))]) (λ_=>True) (by simp[SD,btC]) (λi=>by simp) trivial ?_;rintro i hi-;have hlk:=qr (x:=x) hb i hi;have hw:=Z6 ((i:Int)+1) (by have:=hb.nn;omega) (by have:=hb.nn;omega);by_cases h:i<b.g.nodes.length
 ·have hb':=hlk.ok hb;simp only[SD];have hi':i< (SD x b i).g.nodes.length:=by rw[hlk.g];exact h
  generalize hbb:SD x b i=c at*;have hn:c.g.nodes[i]?=some c.g.nodes[i]:=ZgJ hi';have hp:c.here[i]?=some (c.here[i]'(by rw[hb'.hl];exact hi')):=ZgJ _;have ho:c.old[i]?=some (c.old[i]'(by rw[hb'.ol];exact hi')):=ZgJ _;unfold Z3o;simp only[hn,hp,ho,Zhe];generalize c.g.nodes[i]=n at*;generalize c.here[i]'(by rw[hb'.hl];exact hi')=p at*;generalize c.old[i]'(by rw[hb'.ol];exact hi')=o at*
  have hpn:∀q∈n.ptrs,q< (c.here.length:Int)/\q< (c.old.length:Int):=λq hq=>by
   have:=hb'.ptr n (ZgQ hn) q hq;rw[hb'.hl,hb'.ol];exact⟨this,this⟩
  have kA:=Z5C (x:=x) hb' hn hp;have bA:=kA.ok hb';have kO:=Z5D (p:=p) bA (by rw[kA.g];exact hn) (by rw[kA.old];exact ho);have bO:=kO.ok bA;have hgl:c.g.nodes.length=b.g.nodes.length:=by rw[hlk.g]
  have hge:c.g=b.g:=hlk.g
  have hlay:0<p.part->VC Sol.prog 78 false [btV c,plV p,ndV n,vi (IntKind.i64.wrap (x.slack+i))] (btV (layB c p n (IntKind.i64.wrap (x.slack+i)))):=λh0=>by
   rcases hb'.here i p n hp hn with rfl|⟨a,h1,h2,h3⟩
   ·simp at h0
   ·exact Z96 hb'.lay h1 (by have:=hb'.len p.part;omega) h3 hpn
  have hlayO:0<o.part->VC Sol.prog 78 false [btV c,plV o,ndV n,vi 0] (btV (layB c o n 0)):=λh0=>by
   rcases hb'.old i o n ho hn with rfl|⟨a,h1,h2,h3⟩
   ·simp at h0
   ·exact Z96 hb'.lay h1 (by have:=hb'.len o.part;omega) h3 hpn
  have hpp:p.part=0\/0<p.part:=by
   rcases hb'.here i p n hp hn with rfl|⟨a,h1,h2,h3⟩
   ·exact .inl rfl
   ·exact .inr (by omega)
  have hoo:o.part=0\/0<o.part:=by
   rcases hb'.old i o n ho hn with rfl|⟨a,h1,h2,h3⟩
   ·exact .inl rfl
   ·exact .inr (by omega)
  rcases hpp with hp0|hp0
  ·rcases hoo with ho0|ho0
   ·simp[btC,h,hi',hgl,hn,hp,ho,ZZ hn,ZZ hp,ZZ ho,RV,RW,SB,hp0,ho0,hw]
   ·have hne:¬0<p.part:=by omega
    have hlk2:Like c (layB c o n 0):=by
     have:=Z5D (p:=p) hb' hn ho;unfold RW at this;rwa[if_pos ⟨ho0,hp0⟩]at this
    have hlO:=hlayO ho0;simp[btC,h,hi',hgl,hn,hp,ho,ZZ hn,ZZ hp,ZZ ho,RV,RW,SB,hp0,ho0,hw];generalize layB c o n 0=d at*;obtain⟨d1,d2,d3,d4,d5,_,_⟩:=hlk2;refine Z1 hlO (by simp[btV]) ?_;simp[btC,d1,d2,d3,hn,hp,ho,ZZ hn,ZZ hp,ZZ ho,hp0,ho0,hw,h]
  ·have hne0:¬p.part=0:=by omega
   have hlk2:Like c (layB c p n (IntKind.i64.wrap (x.slack+i))):=by
    have:=Z5C (x:=x) hb' hn hp;unfold RV at this;rwa[if_pos hp0]at this
   have hlA:=hlay hp0;have bd:=hlk2.ok hb';rcases hoo with ho0|ho0
   ·simp[btC,h,hi',hgl,hn,hp,ho,ZZ hn,ZZ hp,ZZ ho,RV,RW,SB,hp0,ho0,hne0,hw];generalize layB c p n (IntKind.i64.wrap (x.slack+i))=d at*;obtain⟨d1,d2,d3,d4,d5,_,_⟩:=hlk2;refine Z1 hlA (by simp[btV]) ?_;simp[btC,d1,d2,d3,hn,hp,ho,ZZ hn,ZZ hp,ZZ ho,hp0,ho0,hne0,hw,h]
   ·simp[btC,h,hi',hgl,hn,hp,ho,ZZ hn,ZZ hp,ZZ ho,RV,RW,SB,hp0,ho0,hne0,hw];generalize layB c p n (IntKind.i64.wrap (x.slack+i))=d at*;obtain⟨d1,d2,d3,d4,d5,_,_⟩:=hlk2;refine Z1 hlA (by simp[btV]) ?_;simp[btC,d1,d2,d3,hn,hp,ho,ZZ hn,ZZ hp,ZZ ho,hp0,ho0,hne0,hw,h];rcases hb'.old i o n ho hn with rfl|⟨a,h1,h2,h3⟩
    ·simp at ho0
    have hdl:=bd.len o.part;have hlim:(Zm d.h o.part).length<=lim:=by simp[lim];omega
    have hal:a< (Zm d.h o.part).length:=by
     have:=S3 d4 o.part;unfold sizN at h3;omega
    refine Z1 (Z4s (h:=d.h) (n:=o.part)) (by simp[hpV]) ?_;simp[hlim,hp];refine Z1 (JM (b:=⟨d.h,c.g,c.here,c.old⟩) bd.lay (p:=p)) (by simp) ?_;simp[h1,hal,ho,ZZ ho];have hwith:=Z4u (h:=d.h) (n:=o.part) (l:=(Zm d.h o.part).set a (refB d.h p));rw[Zjz]at hwith;refine Z1 hwith (by simp[hpV]) ?_;simp[hw,h,d1,d2,d3]
 ·have:i=b.g.nodes.length:=by omega
  subst this;have bd:=hlk.ok hb;unfold Y8;generalize SD x b b.g.nodes.length=d at*;obtain⟨d1,d2,d3,d4,d5,_,_⟩:=hlk;simp[btC,d1,d2,d3];refine YJ 13 b.g.roots.length (λk=>[(12,.v (.sl ((b.g.roots.take k).map λr=>vu (if 0<=r then refB d.h ((b.here[r.toNat]?).getD ⟨0,0⟩)else 0)))),(13,.v (vi k))]) (λ_=>True) (by simp) (λi=>by simp) trivial ?_;rintro k hk-;have hrl:=hb.rl;have hwk:=Z6 ((k:Int)+1) (by omega) (by omega);by_cases hkl:k<b.g.roots.length
  ·have hr:b.g.roots[k]?=some b.g.roots[k]:=ZgJ hkl;have hrn:=hb.rts _ (ZgZ hkl);generalize b.g.roots[k]=r at*;have htk:b.g.roots.take (k+1)=b.g.roots.take k++[r]:=by rw[ZhE,hr];rfl
   have hlim:min k b.g.roots.length+1<=lim:=by simp[lim];omega
   by_cases h0:0<=r
   ·obtain⟨q,rfl⟩:=Zh4 h0;have hq:b.here[q]?=some (b.here[q]'(by rw[hb.hl];omega)):=ZgJ _;generalize b.here[q]'(by rw[hb.hl];omega)=p at*;simp[hkl,hr,ZZ hr,hq,ZZ hq];refine Z1 (JM (b:=⟨d.h,b.g,b.here,b.old⟩) bd.lay (p:=p)) (by simp) ?_;simp[hwk,hlim,hkl];rw[ZhE,Zh2,hr];simp[hq]
   ·simp[hkl,hr,ZZ hr,h0,hwk,hlim,htk,hkl]
  ·have:k=b.g.roots.length:=by omega
   subst this;simp[hpV]
end Vm
namespace Vm
open Go Go.Proofs
def PIn(s:St8)(p:Pl)(sz:Nat):Prop:=p=⟨0,0⟩\/∃a:Nat,p.at_=a/\((p.part=1/\a+sz<=s.n1)\/(p.part=2/\a+sz<=s.n2))
def POl(s:St8)(p:Pl)(sz:Nat):Prop:=p=⟨0,0⟩\/∃a:Nat,p.at_=a/\((p.part=3/\a+sz<=s.n3)\/(p.part=4/\a+sz<=s.n4))
def Z6P{x:Rw}{cycle:Bool}{sz i:Nat}{s:St8}:s.n1<=(ZU x cycle sz i s).n1/\s.n2<=(ZU x cycle sz i s).n2/\s.n3<=(ZU x cycle sz i s).n3/\s.n4<=(ZU x cycle sz i s).n4:=by
 grind [ZU]
def PIn.mono{s t:St8}{p:Pl}{sz:Nat}(h:PIn s p sz)(h1:s.n1<=t.n1)(h2:s.n2<=t.n2):PIn t p sz:=by
 rcases h with h|⟨a,ha,⟨hp,h⟩|⟨hp,h⟩⟩
 ·exact .inl h
 ·exact .inr ⟨a,ha,.inl ⟨hp,by omega⟩⟩
 ·exact .inr ⟨a,ha,.inr ⟨hp,by omega⟩⟩
def POl.mono{s t:St8}{p:Pl}{sz:Nat}(h:POl s p sz)(h1:s.n3<=t.n3)(h2:s.n4<=t.n4):POl t p sz:=by
 rcases h with h|⟨a,ha,⟨hp,h⟩|⟨hp,h⟩⟩
 ·exact .inl h
 ·exact .inr ⟨a,ha,.inl ⟨hp,by omega⟩⟩
 ·exact .inr ⟨a,ha,.inr ⟨hp,by omega⟩⟩
def jy{x:Rw}{cycle:Bool}{g:Gr}(hg:∀n∈g.nodes,sizN n<=9):∀i,i<=g.nodes.length->∀(j:Nat) (n:Nd),g.nodes[j]?=some n->
  (∀p,(stN x cycle g i).here[j]?=some p->PIn (stN x cycle g i) p (sizN n))/\(∀p,(stN x cycle g i).old[j]?=some p->POl (stN x cycle g i) p (sizN n))
 |0,_,j,n,hn=>⟨λp hp=>by simp[stN]at hp,λp hp=>by simp[stN]at hp⟩
 |i+1,hi,j,n,hn=>by
  obtain⟨h1,h2⟩:=jy (x:=x) (cycle:=cycle) hg i (by omega) j n hn;obtain⟨_,_,l1,l2⟩:=Ub (x:=x) (cycle:=cycle) hg i (by omega);have hgi:g.nodes[i]?=some g.nodes[i]:=ZgJ (by omega);simp only[stN,hgi,Zhe];generalize stN x cycle g i=s at*;obtain⟨q1,q2,q3,q4⟩:=Z6P (x:=x) (cycle:=cycle) (sz:=sizN g.nodes[i]) (i:=i) (s:=s);have hjl:j<g.nodes.length:=(ZgL.1 hn).1;constructor
  ·intro p hp;by_cases hj:j<i
   ·have:s.here[j]?=some p:=by
     simp only[ZU]at hp;rwa[Zhn (by omega)]at hp
    exact(h1 p this).mono q1 q2
   ·by_cases hji:j=i
    ·subst hji;rw[hgi]at hn;cases hn;simp only[ZU]at hp;rw[Zh6 (by omega),l1,Ziu]at hp;simp only[Zis,ZgH]at hp;subst hp;unfold PIn;rcases YW x j cycle with hk|hk|⟨hk,rfl⟩
     ·grind [ZU]
     ·grind [ZU]
     simp_all
    grind [ZU,List.getElem?_eq_some_iff]
  ·intro p hp;by_cases hj:j<i
   ·have:s.old[j]?=some p:=by
     simp only[ZU]at hp;rwa[Zhn (by omega)]at hp
    exact(h2 p this).mono q3 q4
   ·by_cases hji:j=i
    ·subst hji;rw[hgi]at hn;cases hn;simp only[ZU]at hp;rw[Zh6 (by omega),l2,Ziu]at hp
     grind [List.getElem?_cons_zero,Option.some.injEq,POl,decide,clsK,clsF,ZU]
    grind [ZU,List.getElem?_eq_some_iff]
def Z5T(l:List Nd)(roots:List Int):∀n∈(mkG l roots).nodes,∀q∈n.ptrs,-1<=q/\q< ((mkG l roots).nodes.length:Int):=by
 intro n hn q hq;rw[TX];simp only[mkG,ZgX]at hn;obtain⟨y,_,rfl⟩:=hn;simp only[mkNd,ZgX]at hq;obtain⟨p,_,rfl⟩:=hq;exact Zdv
def Zah(l:List Nd)(roots:List Int):∀q∈(mkG l roots).roots,-1<=q/\q< ((mkG l roots).nodes.length:Int):=by
 intro q hq;rw[TX];simp only[mkG]at hq;split at hq
 ·grind
 ·simp only[ZgX]at hq;obtain⟨p,_,rfl⟩:=hq;exact Zdv
def Zag(l:List Nd)(roots:List Int)(hl:∀n∈l,∀q∈n.data,U64 q):∀n∈(mkG l roots).nodes,∀q∈n.data,U64 q:=by
 intro n hn q hq;simp only[mkG,ZgX]at hn;obtain⟨y,hy,rfl⟩:=hn
 grind [mkNd,List.mem_of_mem_take]
def Sk{x:Rw}(hx:x.ok)(cycle:Bool):BOk (ZB x cycle)/\Fit (ZB x cycle).h.scan/\Zl (layH (ZB x cycle).h)=true:=by
 obtain⟨hb1,hb2,hb3⟩:=SW x.nodes x.roots;have hb5:=TX x.nodes x.roots;have hp:=Z5T x.nodes x.roots;have hr:=Zah x.nodes x.roots;have hd:=Zag x.nodes x.roots hx.data;unfold ZB;generalize mkG x.nodes x.roots=g at*;have hsz:∀n∈g.nodes,sizN n<=9:=λn hn=>by grind [sizN]
 obtain⟨s1,s2,s3,s4⟩:=Ub (x:=x) (cycle:=cycle) hsz g.nodes.length (ZgP _);have hpl:=jy (x:=x) (cycle:=cycle) hsz g.nodes.length (ZgP _);dsimp only;generalize stN x cycle g g.nodes.length=s at*;have hsl:=Wz (c:=x.slack) (n:=12) (by omega);have hto:=Wz (c:=x.to) (n:=2) (by omega);obtain⟨cap,hcap⟩:∃cap:Int,max ((s.n1:Int)+s.n2+s.wt) ((s.n3:Int)+s.n4)+pick x.slack 12=cap:=⟨_,rfl⟩;rw[hcap];have hc0:0<=cap/\cap<=200:=by omega
 have h1:=Zkx x.base (show(9223372036854775808-2*cap)≠0 by omega);have h2:=Zk2 x.base (show 0< (9223372036854775808-2*cap)by omega);generalize x.base% (9223372036854775808-2*cap)=base at*
 have hscan:Fit (if cycle=true/\0<s.n1 then pick x.scan s.n1 else s.n1):=by
  split
  ·rename_i h;have:=Wz (c:=x.scan) (n:=s.n1) (by omega);exact⟨by omega,by omega⟩
  ·exact⟨by omega,by omega⟩
 refine⟨⟨?_,?_,?_,?_,?_,?_,?_,?_,?_,?_,?_,?_⟩,hscan,?_⟩
 ·refine⟨⟨?_,?_⟩,⟨?_,?_⟩,⟨?_,?_⟩,⟨?_,?_⟩,⟨?_,?_⟩,⟨?_,?_⟩,⟨?_,?_⟩⟩<;>simp[layH]<;>omega
 ·exact s3
 ·exact s4
 ·simp_all
 ·grind
 ·exact hd
 ·simp_all
 ·exact hb2
 ·intro i p n hpi hni;rcases(hpl i n hni).1 p hpi with h|⟨a,ha,⟨hpp,h⟩|⟨hpp,h⟩⟩
  ·grind
  ·exact .inr ⟨a,ha,.inl hpp,by simp_all⟩
  ·exact .inr ⟨a,ha,.inr hpp,by simp_all⟩
 ·intro i p n hpi hni;rcases(hpl i n hni).2 p hpi with h|⟨a,ha,⟨hpp,h⟩|⟨hpp,h⟩⟩
  ·grind
  ·exact .inr ⟨a,ha,.inl hpp,by simp_all⟩
  ·exact .inr ⟨a,ha,.inr hpp,by simp_all⟩
 ·grind [Zm]
 ·refine⟨λk=> ?_,by simp⟩
  grind [List.replicate,U64,Zm]
 ·refine Ys.2 ?_;simp only[layH,ZkB];omega
def Z6T(x:Rw):Hp:=Y8 x (ZB x false)
def Ja(x:Rw):Hp:=if(ZB x true).h.low.length=0 then Z6T x else Y8 x (ZB x true)
def Z7g{x:Rw}(hx:x.ok):VC Sol.prog 35 false [rwV x] (hpV (Z6T x)):=by
 refine Z9 Sol.func35 follows (by kernel_rfl) c35 rfl ?_;simp[p35];refine Z1 (Z2H hx (cycle:=false)) (by simp[rwV]) ?_;simp;refine Z1 (Z4W hx (Sk hx false).1) (by simp) ?_;simp;rfl
def Z9x{x:Rw}(hx:x.ok):VC Sol.prog 16 false [rwV x] (hpV (Ja x)):=by
 refine Z9 Sol.func16 follows (by kernel_rfl) c16 rfl ?_;simp[p16];refine Z1 (Z2H hx (cycle:=true)) (by simp[rwV]) ?_;unfold Ja;by_cases h0:(ZB x true).h.low.length=0
 ·simp[btC,h0];refine Z1 (Z7g hx) (by simp) ?_;simp;rfl
 ·simp[btC,h0];refine Z1 (Z4W hx (Sk hx true).1) (by simp) ?_;simp;rfl
def Z1V{x:Rw}{b:Bt}(hb:BOk b)(hs:Fit b.h.scan):(Y8 x b).ok/\layH (Y8 x b)=layH b.h/\(Y8 x b).scan=b.h.scan/\(Y8 x b).cycle=b.h.cycle:=by
 have hl:=qr (x:=x) hb b.g.nodes.length (ZgP _);have bd:=hl.ok hb;unfold Y8;generalize SD x b b.g.nodes.length=d at*;obtain⟨h1,h2,h3,h4,h5,h6,h7,h8,h9,h10,h11,h12⟩:=bd;have l1:=h11 1;have l2:=h11 2;have l3:=h11 3;have l4:=h11 4;have w1:=h12.1 1;have w2:=h12.1 2;have w3:=h12.1 3;have w4:=h12.1 4;simp only[Z9c,Z9d,Z9e,Z9f]at l1 l2 l3 l4 w1 w2 w3 w4;have hrl:=hb.rl;refine⟨⟨h1.1,h1.2.1,h1.2.2.1,by rw[hl.scan];exact hs,?_,?_,?_,?_,?_,w1,w2,w3,w4,?_⟩,hl.lay,hl.scan,hl.cycle⟩
 ·grind
 ·grind
 ·grind
 ·grind
 ·simp;omega
 ·intro w hw;simp only[ZgX]at hw;obtain⟨r,_,rfl⟩:=hw;split
  ·exact R5 _ _
  ·exact⟨by omega,by omega⟩
end Vm
end
section

end
section
namespace Vm
open Go Go.Proofs
structure Ob where
 at_:Int
 size:Int
 ptrs:Int
 gone:Bool
 target:Int
 deriving DecidableEq,Inhabited
def obV(o:Ob):V:=.agg [vi o.at_,vi o.size,vi o.ptrs,.bool o.gone,vu o.target]
@[simp] theorem ZfG(o:Ob):szV (obV o) 5=some (obV o):=rfl
@[simp] theorem Zcs(o:Ob):RX (obV o) 0 5=some (obV o):=rfl
@[simp] theorem ZcW(o:Ob):(obV o).cells=[vi o.at_,vi o.size,vi o.ptrs,.bool o.gone,vu o.target]:=rfl
@[simp] theorem Zc7(o:Ob):fldV (obV o) 0=some (vi o.at_):=rfl
@[simp] theorem Zc8(o:Ob):fldV (obV o) 1=some (vi o.size):=rfl
@[simp] theorem Zc9(o:Ob):fldV (obV o) 2=some (vi o.ptrs):=rfl
@[simp] theorem Zca(o:Ob):fldV (obV o) 3=some (.bool o.gone):=rfl
@[simp] theorem Zcb(o:Ob):fldV (obV o) 4=some (vu o.target):=rfl
@[simp] theorem Z9R(o:Ob):RX (obV o) 1 2=some (shV o.size o.ptrs):=rfl
@[simp] theorem Zbb(l:List Ob):Yr 5 (l.map obV)=true:=XN λ_=>rfl
def shP(s:Int×Int):V:=shV s.1 s.2
@[simp] theorem Zdy(s:Int×Int):(shP s).cells=[vi s.1,vi s.2]:=rfl
@[simp] theorem ZfJ(s:Int×Int):szV (shP s) 2=some (shP s):=rfl
@[simp] theorem Zcu(s:Int×Int):RX (shP s) 0 2=some (shP s):=rfl
@[simp] theorem Zcl(s:Int×Int):fldV (shP s) 0=some (vi s.1):=rfl
@[simp] theorem Zcm(s:Int×Int):fldV (shP s) 1=some (vi s.2):=rfl
@[simp] theorem Zbd(l:List (Int×Int)):Yr 2 (l.map shP)=true:=XN λ_=>rfl
def RZ(w:Int):Bool:=decide (w=0)||decide ((adr w).2=0)
def ZV(l:List Int)(gone:Bool)(ptrs:Int)(i:Nat):Bool:=
 match l with
 | []=>true
 |w::l=>(!gone||decide (w=0))&&(!decide ((i:Int)<ptrs)||RZ w)&&ZV l gone ptrs (i+1)
def jv{l:List Int}{gone:Bool}{ptrs:Int}{i:Nat}{w:Int}(h:l[i]?=some w):ZV (l.drop i) gone ptrs i=((!gone||decide (w=0))&&(!decide ((i:Int)<ptrs)||RZ w)&&ZV (l.drop (i+1)) gone ptrs (i+1)):=by
 obtain⟨h1,h2⟩:=ZgL.1 h;rw[ZhF h1,h2];rfl
def objR(shs:List (Int×Int))(old:Bool)(at_ tk:Nat)(w:Int):Option (Ob×Nat):=
 if old=true/\(adr w).2=0 then
  match shs[tk]? with
  |none=>none
  |some s=>if Zs s.1 s.2 then some (⟨at_,s.1,s.2,true,(adr w).1⟩,tk+1)else none
 else if(unpk w).2.2=0 then some (⟨at_,(unpk w).1,(unpk w).2.1,false,0⟩,tk)else none
def Z6W{w:Int}(h:(unpk w).2.2=0):Zs (unpk w).1 (unpk w).2.1=true:=by
 unfold unpk at*;split
 ·rename_i h1;exact h1.2
 ·rename_i h1;rw[if_neg h1]at h;simp at h
def Um{shs:List (Int×Int)}{old:Bool}{at_ tk:Nat}{w:Int}{o:Ob}{t:Nat}(h:objR shs old at_ tk w=some (o,t)):Zs o.size o.ptrs=true/\o.at_=at_:=by
 unfold objR at h;split at h
 ·split at h
  ·cases h
  ·split at h
   ·rename_i s _ hs;cases h;exact⟨hs,rfl⟩
   ·cases h
 ·split at h
  ·rename_i h1;cases h;exact⟨Z6W h1,rfl⟩
  ·cases h
def Xe(ws:List Int)(shs:List (Int×Int))(old:Bool):Nat->Nat->Nat->List Ob->List Ob×Int
 |0,_,_,_=>([],3)
 |f+1,at_,tk,acc=>
  match ws[at_]? with
  |none=>if tk<shs.length then([],3)else(acc,0)
  |some w=>match objR shs old at_ tk w with
   |none=>([],3)
   |some (o,t)=>
    if(ws.length:Int)<at_+1+o.size then([],2)
    else if ZV ((ws.drop (at_+1)).take o.size.toNat) o.gone o.ptrs 0=false then([],3)
    else Xe ws shs old f (at_+1+o.size.toNat) t (acc++[o])
def Zw(ws:List Int)(shs:List (Int×Int))(old:Bool):List Ob×Int:=Xe ws shs old (ws.length+1) 0 0 []
def ObIn(n:Nat)(o:Ob):Prop:=(∃a:Nat,o.at_=a/\(a:Int)+1+o.size<=n)/\Zs o.size o.ptrs=true
def Z0U{shs:List (Int×Int)}{old:Bool}{at_ tk:Nat}{w:Int}{o:Ob}{t:Nat}(hw:U64 w)(h:objR shs old at_ tk w=some (o,t)):U64 o.target:=by
 unfold objR at h;split at h
 ·split at h
  ·cases h
  ·split at h
   ·cases h;obtain⟨h1,h2⟩:=hw;show 0<=(adr w).1/\(adr w).1<18446744073709551616;unfold adr;split
    ·simp
    split
    ·simp
    ·simp only;omega
   ·cases h
 ·split at h
  ·cases h;show(0:Int)<=0/\(0:Int)<18446744073709551616;omega
  ·cases h
def Z2K{ws:List Int}{shs:List (Int×Int)}{old:Bool}(hw:∀w∈ws,U64 w):∀(f at_ tk:Nat) (acc:List Ob),(∀o∈acc,ObIn ws.length o/\U64 o.target)->∀o∈(Xe ws shs old f at_ tk acc).1,ObIn ws.length o/\U64 o.target
 |0,_,_,_,_=>by simp[Xe]
 |f+1,at_,tk,acc,hacc=>by
  simp only[Xe];split
  ·split
   ·simp
   ·exact hacc
  ·rename_i w hx;split
   ·simp
   ·rename_i o t ho;split
    ·simp
    ·rename_i hb;split
     ·simp
     ·refine Z2K hw f _ _ _ λo' ho'=> ?_;rcases Zh9.1 ho' with h|h
      ·exact hacc o' h
      ·simp only[ZhJ]at h;subst h;obtain⟨h1,h2⟩:=Um ho;exact⟨⟨⟨at_,h2,by omega⟩,h1⟩,Z0U (hw w (ZgQ hx)) ho⟩
def Z2M{ws:List Int}{shs:List (Int×Int)}{old:Bool}(hw:∀w∈ws,U64 w):∀o∈(Zw ws shs old).1,ObIn ws.length o/\U64 o.target:=Z2K hw _ _ _ _ (by simp)
def jF{ws:List Int}{shs:List (Int×Int)}{old:Bool}:∀(f at_ tk:Nat) (acc:List Ob),at_<=ws.length->acc.length<=at_->(Xe ws shs old f at_ tk acc).1.length<=ws.length
 |0,_,_,_,_,_=>by simp[Xe]
 |f+1,at_,tk,acc,ha,hacc=>by
  simp only[Xe];split
  ·split
   ·simp
   ·simp only;omega
  ·split
   ·simp
   ·rename_i o t ho;split
    ·simp
    ·rename_i hb;split
     ·simp
     ·have hsh:=Zf.1 (Um ho).1;refine jF f _ _ _ (by omega) (by simp;omega)
def jG{ws:List Int}{shs:List (Int×Int)}{old:Bool}:(Zw ws shs old).1.length<=ws.length:=jF _ _ _ _ (by omega) (by simp)
end Vm
end
section

end
section
namespace Vm
open Go Go.Proofs
def ZP(h:Hp)(part at_:Int):Int:=(ZI (layH h) part at_).1
def atR(h:Hp)(part:Int)(l:List Ob)(a:Int):Option Ob:=l.find? λo=>ZP h part o.at_==a
theorem Z8U{h:Hp}{part a:Int}{l:List Ob}{o:Ob}(ho:atR h part l a=some o):o∈l:=Zjf ho
def YC(h:Hp)(ws:List Int)(low:List Ob):Nat->Nat->List (Int×Int)->Option (List (Int×Int))
 |0,_,_=>none
 |f+1,i,acc=>
  match ws[i]? with
  |none=>some acc
  |some w=>if(adr w).2=0 then(match atR h 1 low (adr w).1 with|none=>none|some o=>YC h ws low f (i+1+o.size.toNat) (acc++[(o.size,o.ptrs)]))
   else if(unpk w).2.2=0 then YC h ws low f (i+1+(unpk w).1.toNat) acc else none
def YS(h:Hp)(ws:List Int)(low:List Ob):Option (List (Int×Int)):=YC h ws low (ws.length+1) 0 []
structure Pts where
 low:List Ob
 high:List Ob
 old:List Ob
 far:List Ob
 deriving Inhabited
def Pts.at(p:Pts)(k:Int):List Ob:=if k=1 then p.low else if k=2 then p.high else if k=3 then p.old else p.far
@[simp] theorem Pts.at1(p:Pts):p.at 1=p.low:=rfl
@[simp] theorem Pts.at2(p:Pts):p.at 2=p.high:=rfl
@[simp] theorem Pts.at3(p:Pts):p.at 3=p.old:=rfl
@[simp] theorem Pts.at4(p:Pts):p.at 4=p.far:=rfl
def Yd(h:Hp):Option Pts:=
 let low:=Zw h.low [] false
 let high:=Zw h.high [] false
 if low.2≠0\/high.2≠0 then none else
 let p:=YS h h.old low.1
 let q:=YS h h.far low.1
 let old:=Zw h.old (p.getD []) true
 let far:=Zw h.far (q.getD []) true
 if p=none\/q=none\/old.2≠0\/far.2≠0 then none else some ⟨low.1,high.1,old.1,far.1⟩
def Xl(h:Hp)(p:Pts)(w one two:Int):Bool:=decide (w=0)||(decide ((adr w).2=0)&&((atR h one (p.at one) (adr w).1).isSome||(atR h two (p.at two) (adr w).1).isSome))
def wtO(o:Ob):Nat:=if o.gone then 0 else 1+o.size.toNat
def wtL(l:List Ob):Nat:=(l.map wtO).sum
def Z2R{l:List Ob}{i:Nat}{o:Ob}(h:l[i]?=some o):wtL (l.take (i+1))=wtL (l.take i)+wtO o:=by
 unfold wtL;rw[ZhE,h,ZhU,ZjS];simp
def Lz{l:List Ob}(h:∀o∈l,Zs o.size o.ptrs=true):wtL l<=256*l.length:=by
 induction l with
 |nil=>simp[wtL]
 |cons o l ih=>
  have h1:=ih λx hx=>h x (by simp[hx]);have h2:=Zf.1 (h o (by simp));have h3:wtO o<=256:=by unfold wtO;split<;>omega
  have h4:wtL (o::l)=wtO o+wtL l:=by simp[wtL]
  simp only[ZhL];omega
def Rh(p:Pts):Nat:=wtL p.old+wtL p.far
def tgL(l:List Ob)(a:Int):Nat:=(l.filter λo=>o.gone&&decide (o.target=a)).length
def Z6U(p:Pts)(a:Int):Nat:=tgL p.old a+tgL p.far a
def numR(h:Hp):Bool:=
 Zl (layH h)&&decide (h.roots.length<=16)&&decide (0<=h.scan)&&decide (h.scan<=h.low.length)&&
  (if h.cycle then decide (h.scan<h.low.length)else decide (h.scan=h.low.length)&&decide (h.old.length=0)&&decide (h.far.length=0))
def R3(h:Hp)(p:Pts)(part:Int)(k:Nat):Bool:=
 let w:=((Zm h part)[k]?).getD 0
 let to:=Xl h p w 1 2
 let from_:=Xl h p w 3 4
 if 2<part then from_ else if part=1/\h.scan<=k then to||from_ else to
def Z2f(h:Hp)(p:Pts)(part:Int)(o:Ob):Bool:=(List.range o.ptrs.toNat).all λj=>R3 h p part (o.at_.toNat+1+j)
def WQ(h:Hp)(p:Pts)(part:Int):Bool:=(p.at part).all (Z2f h p part)
def Z1C{α:Type}{q:α->Bool}{l:List α}{i:Nat}{x:α}(h:l[i]?=some x):(l.take (i+1)).all q=((l.take i).all q&&q x):=by
 rw[ZhE,h,Zky];simp
def Z8S{α:Type}{q:α->Bool}{l:List α}{i:Nat}{x:α}(h:l[i]?=some x)(hq:q x=false):l.all q=false:=by
 rw[List.all_eq_false];exact⟨x,ZgQ h,by simp[hq]⟩
def tgOk(h:Hp)(p:Pts)(o:Ob):Bool:=decide (Z6U p (ZP h 1 o.at_)=1)
def Sb(h:Hp)(p:Pts):Bool:=
 (!h.cycle||p.low.all (tgOk h p))&&h.roots.all (λw=>Xl h p w 1 2)&&WQ h p 1&&WQ h p 2&&WQ h p 3&&WQ h p 4&&decide ((h.low.length:Int)+h.high.length+Rh p<=h.cap)
def Yq(h:Hp):Bool:=numR h&&match Yd h with
 |none=>false
 |some p=>Sb h p
def ZK{h:Hp}(hh:h.ok)(k:Int):(∀w∈Zm h k,U64 w)/\(Zm h k).length<=1000000:=by
 unfold Zm;split
 ·exact⟨hh.lowW,hh.low⟩
 split
 ·exact⟨hh.highW,hh.high⟩
 split
 ·exact⟨hh.oldW,hh.old⟩
 ·exact⟨hh.farW,hh.far⟩
def Z1h{h:Hp}(hr:Yq h=true):∃p,Yd h=some p/\Sb h p=true/\numR h=true:=by
 unfold Yq at hr;simp only[ZgM]at hr;cases hp:Yd h with
 |none=>rw[hp]at hr;simp at hr
 |some p=>rw[hp]at hr;exact⟨p,rfl,hr.2,hr.1⟩
def Q0(h:Hp)(part:Int):List Ob×Int:=if Yq h=true/\1<=part/\part<=4 then(((Yd h).getD default).at part,0)else([],1)
def Z4j(h:Hp):Int:=if Yq h then Rh ((Yd h).getD default)else 0
end Vm
end
section

end
section
namespace Vm
open Go Go.Proofs
theorem WV{h:Hp}{k:Int}(hk:1<=k/\k<=4):sizL (layH h) k=(Zm h k).length:=by
 have:k=1\/k=2\/k=3\/k=4:=by omega
 rcases this with rfl|rfl|rfl|rfl<;>rfl
def Hp.zero:Hp:=⟨0,0,0,false,0,[],[],[],[],[]⟩
def zr(ws:List Int)(a:Nat):Nat->List Int
 |0=>ws
 |i+1=>(zr ws a i).set (a+i) 0
@[simp] theorem Zgn(ws:List Int)(a n:Nat):(zr ws a n).length=ws.length:=by
 induction n with
 |zero=>rfl
 |succ n ih=>simp[zr,ih]
end Vm
namespace Vm
open Go Go.Proofs
@[simp] theorem Zgo(k:IntKind)(a b c d e f:Int):aiV (.agg [.int k a,.int k b,.int k c,.int k d,.int k e,.int k f]) (.int .i64 0) 6 1 false=some (.int k a):=rfl
@[simp] theorem ZfX(a b c d e f:Bool):aiV (.agg [.bool a,.bool b,.bool c,.bool d,.bool e,.bool f]) (.int .i64 0) 6 1 false=some (.bool a):=rfl
@[simp] theorem Zgp(k:IntKind)(a b c d e f:Int):aiV (.agg [.int k a,.int k b,.int k c,.int k d,.int k e,.int k f]) (.int .i64 1) 6 1 false=some (.int k b):=rfl
@[simp] theorem ZfY(a b c d e f:Bool):aiV (.agg [.bool a,.bool b,.bool c,.bool d,.bool e,.bool f]) (.int .i64 1) 6 1 false=some (.bool b):=rfl
@[simp] theorem Zgq(k:IntKind)(a b c d e f:Int):aiV (.agg [.int k a,.int k b,.int k c,.int k d,.int k e,.int k f]) (.int .i64 2) 6 1 false=some (.int k c):=rfl
@[simp] theorem ZfZ(a b c d e f:Bool):aiV (.agg [.bool a,.bool b,.bool c,.bool d,.bool e,.bool f]) (.int .i64 2) 6 1 false=some (.bool c):=rfl
@[simp] theorem Zgr(k:IntKind)(a b c d e f:Int):aiV (.agg [.int k a,.int k b,.int k c,.int k d,.int k e,.int k f]) (.int .i64 3) 6 1 false=some (.int k d):=rfl
@[simp] theorem Zg0(a b c d e f:Bool):aiV (.agg [.bool a,.bool b,.bool c,.bool d,.bool e,.bool f]) (.int .i64 3) 6 1 false=some (.bool d):=rfl
@[simp] theorem Zgs(k:IntKind)(a b c d e f:Int):aiV (.agg [.int k a,.int k b,.int k c,.int k d,.int k e,.int k f]) (.int .i64 4) 6 1 false=some (.int k e):=rfl
@[simp] theorem Zg1(a b c d e f:Bool):aiV (.agg [.bool a,.bool b,.bool c,.bool d,.bool e,.bool f]) (.int .i64 4) 6 1 false=some (.bool e):=rfl
@[simp] theorem Zgt(k:IntKind)(a b c d e f:Int):aiV (.agg [.int k a,.int k b,.int k c,.int k d,.int k e,.int k f]) (.int .i64 5) 6 1 false=some (.int k f):=rfl
@[simp] theorem Zg2(a b c d e f:Bool):aiV (.agg [.bool a,.bool b,.bool c,.bool d,.bool e,.bool f]) (.int .i64 5) 6 1 false=some (.bool f):=rfl
end Vm
namespace Vm
open Go Go.Proofs
end Vm
end
section
namespace Vm
open Go Go.Proofs
def Z8F{n:Nat}{x:V}(h:tyV Try.prog (n+1) 3 x):∃m,x=vi m/\Fit m:=by
 obtain⟨m,rfl,h1,h2⟩:=Z9t Try.underlying3 h;exact⟨m,rfl,h1,h2⟩
def ZdP{n:Nat}{x:V}(h:tyV Try.prog (n+1) 24 x):∃m,x=vu m/\U64 m:=by
 obtain⟨m,rfl,h1,h2⟩:=Z9t Try.underlying24 h;exact⟨m,rfl,h1,Int.lt_of_le_of_lt h2 (by decide)⟩
def Z6V{n:Nat}{x:V}(h:tyV Try.prog (n+2) 23 x):∃l:List Int,x=.sl (l.map vi)/\l.length<=maxLen/\∀p∈l,Fit p:=
 zY Try.underlying23 h λy hy=>Z8F hy
def ZdQ{n:Nat}{x:V}(h:tyV Try.prog (n+2) 35 x):∃l:List Int,x=.sl (l.map vu)/\l.length<=maxLen/\∀p∈l,U64 p:=
 zY Try.underlying35 h λy hy=>ZdP hy
def Nd.fits(x:Nd):Prop:=(x.ptrs.length<=maxLen/\∀p∈x.ptrs,Fit p)/\x.data.length<=maxLen/\∀p∈x.data,U64 p
def ZdO{n:Nat}{x:V}(h:tyV Try.prog (n+3) 105 x):∃a:Nd,x=ndV a/\a.fits:=by
 obtain⟨ys,rfl,hl,hf⟩:=jB Try.underlying105 h
 match ys,hl with
 | [a,b],_=>
   obtain⟨ps,rfl,h1,h2⟩:=Z6V (hf 0 _ a rfl rfl);obtain⟨ds,rfl,h3,h4⟩:=ZdQ (hf 1 _ b rfl rfl);exact⟨⟨ps,ds⟩,rfl,⟨h1,h2⟩,h3,h4⟩
def ZaU{n:Nat}{x:V}(h:tyV Try.prog (n+4) 22 x):∃l:List Nd,x=.sl (l.map ndV)/\l.length<=maxLen/\∀a∈l,a.fits:=
 zY Try.underlying22 h λy hy=>ZdO hy
def ZfL{n:Nat}{x:V}(h:tyV Try.prog (n+5) 26 x):∃r:Rw,x=rwV r/\r.ok:=by
 obtain⟨ys,rfl,hl,hf⟩:=jB Try.underlying26 h
 match ys,hl with
 | [a,b,c,d,e,f,g],_=>
   obtain⟨ns,rfl,_,h0⟩:=ZaU (hf 0 _ a rfl rfl);obtain⟨rs,rfl,_,h1⟩:=Z6V (hf 1 _ b rfl rfl);obtain⟨cs,rfl,_,h2⟩:=Z6V (hf 2 _ c rfl rfl);obtain⟨d,rfl,h3⟩:=ZdP (hf 3 _ d rfl rfl);obtain⟨e,rfl,h4⟩:=Z8F (hf 4 _ e rfl rfl);obtain⟨f,rfl,h5⟩:=Z8F (hf 5 _ f rfl rfl);obtain⟨g,rfl,h6⟩:=Z8F (hf 6 _ g rfl rfl);exact⟨⟨ns,rs,cs,d,e,f,g⟩,rfl,λn hn p hp=>(h0 n hn).1.2 p hp,λn hn p hp=>(h0 n hn).2.2 p hp,h1,h2,h3,h4,h5,h6⟩
def own:ownKnob Try.prog.godebug=none:=by kernel_rfl
def laidOut:laidOutB Try.prog=true:=by kernel_rfl
end Vm
end
section
namespace Vm
open Go Go.Conc Go.ConcN
section
section
variable {P:Program}{Stop:Frame->List Frame->World->Prop}{b:Frame}{k:List Item}{cs:List Frame}{a:Act}{w:World}
theorem Walk.two{x y:Code}(h:Walk P Stop (b.at a (.code x:: .code y::k)) cs w):Walk P Stop (b.at a (.code (.seq x y)::k)) cs w:=.go (λw=>stepG_seq) h
theorem Walk.region{id:Nat}{ops:Array Oper}(h:Walk P Stop (b.at a (.inRegion ops (List.range ops.size)::k)) cs w):Walk P Stop (b.at a (.code (.region id ops false)::k)) cs w:=.go (λw=>stepG_region) h
theorem Walk.regEnd{ops:Array Oper}(h:Walk P Stop (b.at a k) cs w):Walk P Stop (b.at a (.inRegion ops []::k)) cs w:=.go (λw=>stepG_region_end) h
theorem Walk.val{ops:Array Oper}{i:Nat}{rest:List Nat}{o:Oper}{v:Value}(ho:ops[i]?=some o)(hw:Region.wanted o (yielded ops a.tmps)=true)(hk:b.kind≠.early)(hf:Z31 P o.op=true)(hr:∀w':World,w'.heap=w.heap->(execOp a.eval o).run P w'=.ok (.value v) w')
  (h:Walk P Stop (b.at (a.put o.dst v) (.inRegion ops rest::k)) cs w):Walk P Stop (b.at a (.inRegion ops (i::rest)::k)) cs w:=by
 refine .one λd=> ?_;have hev:EvsB (wdR ((execOp a.eval o).run P (w.at d))).heap.size (listed P b.fn a o (w.at d)):=λe he=>Z1U hf a (w.at d) e (mem_listed he);rw[hr (w.at d) rfl]at hev;exact⟨_,_,_,_,stepG_value ho hw hk (hr (w.at d) rfl),ZgP _,hev,h.at d⟩
theorem Walk.chan{ops:Array Oper}{i:Nat}{rest:List Nat}{o:Oper}{t el:TypeId}{dir:ChanDir}{inf:TypeInfo}{kk:IntKind}(ho:ops[i]?=some o)(hw:Region.wanted o (yielded ops a.tmps)=true)(hk:b.kind≠.early)(hop:o.op=.makeChan t (.const (.int kk 0)))(ht:P.underlying t=some (.chan dir el))(hi:P.info? el=some inf)
  (h:Walk P Stop (b.at (a.put o.dst (.chan (some w.heap.size))) (.inRegion ops rest::k)) cs (w.alloc (.chan 0 #[] false 0 0 false))):Walk P Stop (b.at a (.inRegion ops (i::rest)::k)) cs w:=by
 refine .one λd=> ?_;have e0:execOp a.eval o=(do pure (.value (<-Instr.makeChan t (.int kk (0:Nat)))):Sem Next):=by unfold execOp;simp only[hop];rfl
 have hr:(execOp a.eval o).run P (w.at d)=.ok (.value (.chan (some w.heap.size))) ((w.alloc (.chan 0 #[] false 0 0 false)).at d):=by
  rw[e0];simp only[Zhf,run_makeChan (w:=w.at d) ht hi kk 0 (by omega) (by omega),Zhd];rfl
 have hev:(execOp a.eval o).events P (w.at d) #[]=#[]:=by
  rw[e0];have h1:=events_makeChan (P:=P) (w:=w.at d) ht hi kk 0 (by omega) (by omega) #[]
  have h2:(Instr.makeChan t (.int kk (0:Nat))).runT P (w.at d) #[]=(.ok (.chan (some w.heap.size)) ((w.alloc (.chan 0 #[] false 0 0 false)).at d), #[]):=by
   refine ZiZ ?_ h1;rw[Zip];exact run_makeChan (w:=w.at d) ht hi kk 0 (by omega) (by omega)
  show((Sem.bind _ _).runT P (w.at d) #[]).2=_;rw[Zit,h2];rfl
 refine⟨_,_,_,_,stepG_value ho hw hk hr,by show w.heap.size<=(w.alloc _).heap.size;simp,λe he=> ?_,h.at d⟩;have:=mem_listed he;rw[hev]at this;simp at this
theorem Walk.fork{fr fr2:Frame}{child:Goroutine}(hst:∀w:World,stepG P true (G fr cs) w=.spawn (G fr2 cs) child w #[])
  (H:∀(n d:Nat) (gs:Array Goroutine) (sl:Option (Nat×Nat)) (t:Trace) (q:Nat->Nat),0<n->gs.size=n+1->gs[0]?=some (G fr2 cs)->gs[n]?=some child->Lvs P n gs q->(∀OA OB KB,TI n OA OB KB w.heap.size t)->Win P (AtS P Stop) gs (w.at d) sl t):Walk P Stop fr cs w:=by
 intro d0 gs sl t q hl h0 ht
 have hnone:∀(gs':Array Goroutine) g,gs'[gs'.size]? ≠some g:=λgs' g e=>by
  have:=(ZgO.1 e).1;omega
 refine skip hl (λi g hi hg=> ?_) ⟨0,_,.inl rfl,h0,rfl⟩ λgs' d sl' q' i g hsz' hsame hl' hi hgi hrun=> ?_
 ·rcases hi with rfl|rfl
  ·rw[h0]at hg;cases hg;exact⟨awake_of (.inl rfl),λg1 g2 d=>woken_run rfl⟩
  ·exact absurd hg (hnone gs g)
 ·rcases hi with rfl|rfl
  ·have h0':gs'[0]?=some (G fr cs):=by rw[hsame 0 (.inl rfl)];exact h0
   have hpos:0<gs'.size:=(ZgO.1 h0').1;have hrunT:=runT_crowd_spawn (P:=P) (sl:=sl') (i:=0) (w:=w.at d) h0' (hst (w.at d));refine⟨_,_,_,_,hrunT,?_⟩;generalize hx:({g:=0,fn:=(G fr cs).frame.fn,pos:=(G fr cs).frame.place,act:=.go gs'.size}:MemOp)=x;generalize hy:({g:=gs'.size,fn:=child.frame.fn,pos:=(G fr cs).frame.place,act:=.start}:MemOp)=y;have hops:((MemOp.ofEvents 0 (G fr cs).frame.fn (G fr cs).frame.place #[]).push x).push y=#[x,y]:=by simp[MemOp.ofEvents]
   rw[hops];have hxg:x.g=0/\x.act=.go gs'.size:=by rw[<-hx];exact⟨rfl,rfl⟩
   have hyg:y.g=gs'.size/\y.act=.start:=by rw[<-hy];exact⟨rfl,rfl⟩
   refine H gs'.size d _ sl' _ q' hpos (by simp) ?_ (by rw[Zi4];simp) (λj g hj hne hg=> ?_) λOA OB KB=> ?_
   ·rw[Array.getElem?_push_lt (by simpa using hpos)];simp[Array.getElem_setIfInBounds]
   ·rw[Zi4]at hg;simp only[Zi3]at hg;rw[if_neg (by omega),ZhC (by omega)]at hg;exact hl' j g hj (by rw[<-hsz'];exact hne) hg
   ·have t0:TI gs'.size (λ_=>True) (λ_=>False) KB w.heap.size t:=⟨ht.clean,ht.hears,ht.low,λi op x h1 h2 h3=>.inl (ht.known i op x h1 h2 h3),λi op x h1 h2 h3=>.inr (.inr ⟨λ_=>by obtain⟨b,hb⟩:=Li h3;exact⟨b,hb,trivial⟩,λb _ h=>h⟩)⟩
    have t1:=t0.comm (ZgP _) #[x,y] (λop hop=>by
     have:op=x\/op=y:=by simpa using hop
     rcases this with rfl|rfl
     ·rw[hxg.2];simp[MemAct.touch?]
     ·rw[hyg.2];simp[MemAct.touch?])
    have old:∀(i:Nat) (op:MemOp) (tc:Touch),(t++ #[x,y])[i]?=some op->op.act.touch?=some tc->t[i]?=some op:=λi op tc h1 h2=>by
     rcases getElem?_append_cases h1 with ⟨_,h⟩|⟨_,h⟩
     ·exact h
     ·have:op=x\/op=y:=by simpa using h
      rcases this with rfl|rfl
      ·rw[hxg.2]at h2;simp[MemAct.touch?]at h2
      ·rw[hyg.2]at h2;simp[MemAct.touch?]at h2
    refine⟨t1.clean,t1.hears,t1.low,λi op tc h1 h2 h3=>.inl ((ht.known i op tc (old i op tc h1 h2) h2 h3).app _),λi op tc h1 h2 h3=>.inr (.inl ?_)⟩;exact fork_knows hxg hyg (ht.hears 0) (ht.hears _) (ht.known i op tc (old i op tc h1 h2) h2 h3)
  ·rw[<-hsz']at hgi;exact absurd hgi (hnone gs' g)
theorem Walk.meet{fr fr2:Frame}{child:Goroutine}{c:Nat}{KA KB OA0:Nat->Prop}{StopA:(Nat->Prop)->Goroutine->World->Prop}{vs:List Value}{z:Value}(hst:∀w:World,stepG P true (G fr cs) w=.spawn (G fr2 cs) child w #[])
  (hA:Play P true c KA StopA (vs.map .recv++[.closed z]) OA0 (G fr2 cs) w) (hB:Play P false c KB (XO P c) (vs.map .send) (λ_=>False) child w) (hch:w.heap[c]?=some (.chan 0 #[] false 0 0 false))
  (la:∀b,OA0 b->b<w.heap.size) (ka:∀b,KA b->b<w.heap.size) (kb:∀b,KB b->b<w.heap.size) (sak:∀b,OA0 b->¬KB b) (ca:¬OA0 c) (cka:¬KA c) (ckb:¬KB c)
  (hend:∀OA a w',StopA OA a w'->w.heap.size<=w'.heap.size->w'.tape=w.tape->(w'.os,w'.output)=(w.os,w.output)->(∀b,OA b->(OA0 b\/w.heap.size<=b)/\b<w'.heap.size)->(∀b,b<w.heap.size->¬OA0 b->b≠c->w'.heap[b]?=w.heap[b]?)->∃fr' cs',a=G fr' cs'/\Walk P Stop fr' cs' w'):Walk P Stop fr cs w:=by
 refine .fork hst λn d gs sl t q hn hsz h0 hgn hl hti=> ?_
 have hC:Cfg P n c KA KB OA0 (w.at d) OA0 (λ_=>False) gs (w.at d) t q:=
  ⟨hn,hl,hti _ _ _,la,λ_ h=>h.elim,ka,kb,λ_ _ h=>h,sak,ca,cka,ckb,(ZgO.1 hch).1,ZgP _,rfl,rfl,λ_ h=>.inl h,λ_ h=>h.elim,λ_ _ _ _=>rfl⟩
 have hw:=(Zfq (P:=P) (n:=n) (KB:=KB) (OA0:=OA0) (w0:=w.at d) hA).opn vs z (λ_=>False) child gs (w.at d) sl t q 0 0 false rfl hC hsz h0 hgn (Rely.at _ _ _ d) (.run (hB.rely (Rely.at _ _ _ d))) hch;refine hw.bind λgs1 w1 sl1 t1 ⟨a1,OA,OB,q1,k0,k1,k2,k3,k4,k5⟩=> ?_;obtain⟨fr',cs',rfl,hW⟩:=hend OA a1 w1 k2 k3.b0 k3.tape k3.os (λb hb=>⟨k3.oa b hb,k3.la b hb⟩) k3.fr;exact hW w1.drawn gs1 sl1 t1 q1 k4 k0 ⟨k3.ti.clean,k3.ti.hears,k3.ti.low,k5⟩
end
end
end Vm
end
section
namespace Vm
open Go Go.Conc
section
section
variable {Q:Program}{c:Nat}{Post:Frame->List Frame->World->Prop}{es:List Ev}{fr fr':Frame}{cs cs':List Frame}{w w':World}
theorem LS.steps:∀ {es:List Ev} {fr fr':Frame} {cs cs':List Frame} {w w':World},Steps Q (lone fr (cs++[capF Q]) w) (lone fr' (cs'++[capF Q]) w')->LS Q c Post es fr' cs' w'->LS Q c Post es fr cs w
 | [],_,_,_,_,_,_,h,⟨n,f2,c2,w2,h2,h3⟩=>let⟨m,hm⟩:=Steps.trans h ⟨n,h2⟩;⟨m,f2,c2,w2,hm,h3⟩
 |e::es,_,_,_,_,_,_,h,⟨n,f2,c2,w2,h2,h3⟩=>let⟨m,hm⟩:=Steps.trans h ⟨n,h2⟩;⟨m,f2,c2,w2,hm,h3⟩
theorem LS.ev{e:Ev}(h:AtEv Q c e fr)(k:LS Q c Post es (aft e fr) cs w):LS Q c Post (e::es) fr cs w:=⟨0,fr,cs,w,rfl,h,k⟩
theorem LS.now(h:Post fr cs w):LS Q c Post [] fr cs w:=⟨0,fr,cs,w,rfl,h⟩
end
theorem Ue{P:Program}{ops:Array Oper}{w:World}{Q Q':Act->Prop}(h:∀a,Q a->Q' a):∀(l:List Oper) (a:Act),wpStill P ops w Q l a->wpStill P ops w Q' l a
 | [],a,hh=>h a hh
 |o::l,a,hh=>by
  simp only[wpStill]at hh⊢;split
  ·rename_i hw;rw[if_pos hw]at hh;exact Oper.still_mono (λa=>Ue h l a) hh
  ·rename_i hw;rw[if_neg hw]at hh;exact Ue h l _ hh
def cAt:Code->List Nat->Code
 |c,[]=>c
 |.seq a _,0::l=>cAt a l
 |.seq _ b,_::l=>cAt b l
 |.cond _ a _,0::l=>cAt a l
 |.cond _ _ b,_::l=>cAt b l
 |.block _ a,_::l=>cAt a l
 |.loop a,_::l=>cAt a l
 |.scope a,_::l=>cAt a l
 |c,_=>c
def Z6a:Code->Array Oper
 |.region _ ops _=>ops
 |_=> #[]
def Z4q(Q:Program)(c:Nat)(Post:Frame->List Frame->World->Prop)(es:List Ev)(b:Frame)(k:List Item)(cs:List Frame):Exit->Act->World->Prop
 |.normal,a,w=>LS Q c Post es (b.at a k) cs w
 |.exit id,a,w=>∃k',exitTo id k=some k'/\LS Q c Post es (b.at a k') cs w
 |.ret,a,w=>∀todo,LS Q c Post es {b.at a todo with mode:=.returning} cs w
 |_,_,_=>False
def SC(Q:Program)(c:Nat)(x:Code)(R:List Ev->Exit->Act->World->Prop)(es:List Ev)(a:Act)(w:World):Prop:=
 ∀(Post:Frame->List Frame->World->Prop) (b:Frame) (k:List Item) (cs:List Frame),(∀es' e a' w',R es' e a' w'->Z4q Q c Post es' b k cs e a' w')->LS Q c Post es (b.at a (.code x::k)) cs w
def ST(Q:Program)(c:Nat)(ops:Array Oper)(R:List Ev->Exit->Act->World->Prop)(l:List Nat)(es:List Ev)(a:Act)(w:World):Prop:=
 ∀(Post:Frame->List Frame->World->Prop) (b:Frame) (k:List Item) (cs:List Frame),(∀es' e a' w',R es' e a' w'->Z4q Q c Post es' b k cs e a' w')->LS Q c Post es (b.at a (.inRegion ops l::k)) cs w
section
variable {Q:Program}{c:Nat}{R R':List Ev->Exit->Act->World->Prop}{es:List Ev}{a:Act}{w:World}{x y:Code}
variable {ops:Array Oper}{l:List Nat}
theorem SC.draw{id:Nat}(h:∀t,ST Q c ops R (Region.schedule (Q.follows .mixedOrders) ops t) es a {w with drawn:=w.drawn+1}):SC Q c (.region id ops true) R es a w:=λPost b k cs hk=>LS.steps (.one step_region_draw) (h _ Post b k cs hk)
theorem ST.nil(h:R es .normal a w):ST Q c ops R [] es a w:=λPost b k cs hk=>LS.steps (.one step_region_end) (hk _ _ _ _ h)
theorem ST.omit{i:Nat}(ho:((ops[i]?).map (Region.wanted · (yielded ops a.tmps))).getD false=false)(hk:ST Q c ops R l es (a.put ((ops[i]?).bind (·.dst)) undef) w):ST Q c ops R (i::l) es a w:=λPost b k cs hR=>
 LS.steps (.one (step_op_skip ho)) (hk Post b k cs hR)
theorem ST.still{i:Nat}{K:Act->Prop}(h:stOp Q ops w i K a)(hk:∀a,K a->ST Q c ops R l es a w):ST Q c ops R (i::l) es a w:=by
 unfold stOp at h;cases ho:ops[i]? with
 |none=>
  rw[ho]at h;refine .omit (by simp[ho]) ?_;simp_all[Option.bind_none,Act.put]
 |some o=>
  rw[ho]at h;dsimp only at h;by_cases hw:Region.wanted o (yielded ops a.tmps)=true
  ·rw[if_pos hw]at h;unfold Oper.still at h;intro Post b k cs hR;have hg:=stepG_op (P:=Q) (b:=b) (k:=k) (cs:=cs++[capF Q]) (w:=w) (rest:=l) ho hw;have hfin:∀v,(b.at a (.inRegion ops (i::l)::k)).finish v=b.at (a.put o.dst v) (.inRegion ops l::k):=λv=>by grind [Frame.finish_at]
   revert h
   cases hr:(execOp a.eval o).run Q w with
   |halt x w'=>exact False.elim
   |ok n w'=>
    cases n<;>first|exact False.elim|skip
    ·rename_i v;rintro⟨rfl,h⟩;refine LS.steps (.one (Zk1 ?_)) (hk _ h Post b k cs hR);simp_all[stepG.apply]
    ·rintro⟨rfl,h⟩;refine LS.steps (.one (Zk1 ?_)) (hk _ h Post b k cs hR);simp_all[stepG.apply]
    ·rename_i f args;rintro⟨rfl,v,hc,h⟩;obtain⟨e,w'',fr,⟨rfl,rfl⟩,hsteps,_,hleave⟩:=hc (b.at a (.inRegion ops (i::l)::k)::(cs++[capF Q]))
     have henter:step Q (lone (b.at a (.inRegion ops (i::l)::k)) (cs++[capF Q]) w'')=.next (lone (Frame.enter Q f args .normal) (b.at a (.inRegion ops (i::l)::k)::(cs++[capF Q])) w''):=
      Zk1 (by simp_all[stepG.apply,Frame.at])
     refine LS.steps (.head henter (hsteps.trans (.one ?_))) (hk _ h Post b k cs hR)
     grind [step_leave_returned]
  ·rw[if_neg hw]at h;refine .omit (by simp_all) ?_;simp_all
theorem ST.ev{i:Nat}{o:Oper}{e:Ev}(ho:ops[i]?=some o)(hw:Region.wanted o (yielded ops a.tmps)=true)(he:match e with
   |.recv _|.closed _=>∃t ch d el inf z,o.op=.recv t ch true/\okV ch=true/\a.eval ch=.chan (some c)/\Q.underlying t=some (.chan d el)/\Q.info? el=some inf/\inf.zero=some z/\∀z',e=.closed z'->z'=z
   |.send v=>∃ch x,o.op=.send ch x/\okV ch=true/\okV x=true/\a.eval ch=.chan (some c)/\a.eval x=v)
  (hk:ST Q c ops R l es (a.put o.dst e.val) w):ST Q c ops R (i::l) (e::es) a w:=λPost b k cs hR=>by
 refine LS.ev ⟨ops,i,l,k,o,rfl,rfl,ho,hw,?_⟩ ?_
 ·have hev:∀x,(b.at a (.inRegion ops (i::l)::k)).eval x=a.eval x:=Frame.eval_at b a _;cases e with
  |recv v=>obtain⟨t,ch,d,el,inf,z,h1,h2,h3,h4,h5,h6,_⟩:=he;exact⟨t,ch,d,el,inf,z,h1,h2,by rw[hev];exact h3,h4,h5,h6⟩
  |closed v=>obtain⟨t,ch,d,el,inf,z,h1,h2,h3,h4,h5,h6,h7⟩:=he;exact⟨t,ch,d,el,inf,h1,h2,by rw[hev];exact h3,h4,h5,by rw[h7 v rfl];exact h6⟩
  |send v=>obtain⟨ch,x,h1,h2,h3,h4,h5⟩:=he;exact⟨ch,x,h1,h2,h3,by rw[hev];exact h4,by rw[hev];exact h5⟩
 ·have:aft e (b.at a (.inRegion ops (i::l)::k))=b.at (a.put o.dst e.val) (.inRegion ops l::k):=by
   unfold aft;rw[Zj1,ho];rfl
  rw[this];exact hk Post b k cs hR
theorem ST.head{md:Region.Mode}{n g:Nat}{L:Array Bool->Act->Prop}:∀(f t:Nat) (listed:Array Bool) (a:Act),wpAnyL Q md ops w n L f listed a->(∀listed a t,L listed a->ST Q c ops R (Region.linearise.go md ops g t listed []) es a w)->
  ST Q c ops R (Region.linearise.go md ops (f+g) t listed []) es a w
 |0,t,listed,a,h,hk=>by rw[Zhy];exact hk _ _ _ h
 |f+1,t,listed,a,h,hk=>by
  obtain⟨h0,h1⟩:=h;rw[show f+1+g=(f+g)+1 by omega];simp only[Region.linearise.go]
  change ST Q c ops R (match(Region.ready md ops listed)[t% (Region.ready md ops listed).length]? with
   |some i=>Region.linearise.go md ops (f+g) (t / (Region.ready md ops listed).length) (listed.setIfInBounds i true) [i]
   |none=>[].reverse) es a w
  cases hi:(Region.ready md ops listed)[t% (Region.ready md ops listed).length]? with
  |none=>
   exfalso;have hlen:0< (Region.ready md ops listed).length:=ZjQ.2 h0;have:=Zje.1 hi;have:=ZjH t hlen;omega
  |some i=>
   simp only[];rw[linearise_go_acc,Zkq,ZjB];exact ST.still (h1 i (ZgQ hi)).2 λa' h'=>ST.head f _ _ a' h' hk
theorem ST.last{n:Nat}{listed:Array Bool}{t:Nat}(h:Region.seqB .any ops 1 n listed=true)(hk:ST Q c ops R [n] es a w):ST Q c ops R (Region.linearise.go .any ops 1 t listed []) es a w:=by
 simp only[Region.seqB,ZgM,Zh1]at h;simp only[Region.linearise.go]
 change ST Q c ops R (match(Region.ready .any ops listed)[t% (Region.ready .any ops listed).length]? with
   |some i=>[i]
   |none=>[]) es a w
 grind
theorem SC.last{id n:Nat}{l:List Oper}(hm:Q.follows .mixedOrders=true)(hB:Region.lexTailB .any l.toArray n=true)(hsz:l.length=n+1)(h:wpStill Q l.toArray {w with drawn:=w.drawn+1} (λa'=>ST Q c l.toArray R [n] es a' {w with drawn:=w.drawn+1}) (l.take n) a):SC Q c (.region id l.toArray true) R es a w:=by
 refine SC.draw λt=> ?_;simp only[Region.lexTailB,ZgM,Zh1]at hB;obtain⟨⟨⟨⟨hsel,hn⟩,hs⟩,hc⟩,hlex⟩:=hB;have hn':n<l.length:=by simpa using hn
 have htl:(l.take n).length=n:=by simp;omega
 have hg:l.toArray.size-n=1:=by simp;omega
 rw[hg]at hlex
 have inv0:HeadInv .any l.toArray n (Array.replicate l.toArray.size false):=
  ⟨by simp,λj oj _ hl=>(by grind [getD_replicate_false]),λt _ ht=>getD_in (by grind) (getD_replicate_false _ _)⟩
 have H:=wpAnyL_lex (md:=.any) (g:=1) hsel hs hc hn (l.take n) 0 _ a (λj hj=>by
  simp_all) (by omega) inv0 (by simp_all) h
 simp only[Region.schedule,hm,ZiH,Zhp,Region.linearise];have e:l.toArray.size=(l.take n).length+1:=by rw[htl];simpa using hsz
 rw[e];exact ST.head (L:=λlisted' a'=>Region.seqB .any l.toArray 1 n listed'=true/\ST Q c l.toArray R [n] es a' {w with drawn:=w.drawn+1}) _ t _ a (by rw[<-e];exact H) λlisted a' t' hL=>ST.last hL.1 hL.2
end
section
variable {Q:Program}{c:Nat}{Post:Frame->List Frame->World->Prop}{es:List Ev}{a:Act}{w:World}{x y:Code}{b:Frame}{k k':List Item}{cs:List Frame}
theorem LS.two(h:LS Q c Post es (b.at a (.code x:: .code y::k)) cs w):LS Q c Post es (b.at a (.code (.seq x y)::k)) cs w:=LS.steps (.one step_seq) h
theorem LS.condT{o:Operand}(hc:a.eval o=.bool true)(h:LS Q c Post es (b.at a (.code x::k)) cs w):LS Q c Post es (b.at a (.code (.cond o x y)::k)) cs w:=LS.steps (.one (step_cond hc)) h
theorem LS.condF{o:Operand}(hc:a.eval o=.bool false)(h:LS Q c Post es (b.at a (.code y::k)) cs w):LS Q c Post es (b.at a (.code (.cond o x y)::k)) cs w:=LS.steps (.one (step_cond hc)) h
theorem LS.skip(h:LS Q c Post es (b.at a k) cs w):LS Q c Post es (b.at a (.code .skip::k)) cs w:=LS.steps (.one step_skip) h
theorem LS.block{id:Nat}(h:LS Q c Post es (b.at a (.code x:: .inBlock id::k)) cs w):LS Q c Post es (b.at a (.code (.block id x)::k)) cs w:=LS.steps (.one step_block) h
theorem LS.inBlock{id:Nat}(h:LS Q c Post es (b.at a k) cs w):LS Q c Post es (b.at a (.inBlock id::k)) cs w:=LS.steps (.one step_inBlock) h
theorem LS.inLoop(h:LS Q c Post es (b.at a (.code x:: .inLoop x::k)) cs w):LS Q c Post es (b.at a (.inLoop x::k)) cs w:=LS.steps (.one step_inLoop) h
theorem LS.exit{id:Nat}(h1:exitTo id k=some k')(h:LS Q c Post es (b.at a k') cs w):LS Q c Post es (b.at a (.code (.exit id)::k)) cs w:=LS.steps (.one (step_exit h1)) h
theorem LS.loopI(I:Nat->List Ev->Act->World->Prop){n:Nat}(h0:I n es a w)(hI:∀n es a w,I n es a w->(∀m es a w,m<n->I m es a w->LS Q c Post es (b.at a (.inLoop x::k)) cs w)->LS Q c Post es (b.at a (.code x:: .inLoop x::k)) cs w):LS Q c Post es (b.at a (.code (.loop x)::k)) cs w:=by
 have key:∀n es a w,I n es a w->LS Q c Post es (b.at a (.code x:: .inLoop x::k)) cs w:=by
  intro n
  induction n using Nat.strongRecOn with
  |_ n ih=>grind [inLoop]
 exact LS.steps (.one step_loop) (key n es a w h0)
theorem LS.wp{R:Exit->Act->World->Prop}(h:x.wp Q R a w)(hk:∀e a' w',R e a' w'->Z4q Q c Post es b k cs e a' w'):LS Q c Post es (b.at a (.code x::k)) cs w:=by
 obtain⟨e,a',w',q,r⟩:=h b k (cs++[capF Q]);have hq:=hk e a' w' q;cases e with
 |normal=>exact LS.steps r hq
 |exit id=>obtain⟨k',h1,h2⟩:=hq;exact LS.steps (r k' h1) h2
 |ret=>obtain⟨todo,r⟩:=r;exact LS.steps r (hq todo)
 |_=>exact hq.elim
theorem LS.regK(h:∀K:Act->World->Prop,(∀a w,LS Q c Post es (b.at a k) cs w->K a w)->x.wp Q (λe a w=>e=.normal/\K a w) a w):LS Q c Post es (b.at a (.code x::k)) cs w:=
 LS.wp (h _ λ_ _ q=>q) λe a' w' ⟨h1,h2⟩=>by subst h1;exact h2
theorem LS.send{id n:Nat}{l:List Oper}{v:Value}(hm:Q.follows .mixedOrders=true)(hB:Region.lexTailB .any l.toArray n=true)(hsz:l.length=n+1){o:Oper}{ch xx:Operand}(ho:l[n]?=some o)(hg:o.guard=none)(hop:o.op=.send ch xx)(h1:okV ch=true)(h2:okV xx=true)
  (h:wpStill Q l.toArray {w with drawn:=w.drawn+1} (λa'=>a'.eval ch=.chan (some c)/\a'.eval xx=v/\LS Q c Post es (b.at (a'.put o.dst undef) k) cs {w with drawn:=w.drawn+1}) (l.take n) a):LS Q c Post (.send v::es) (b.at a (.code (.region id l.toArray true)::k)) cs w:=
 SC.last (R:=λes' e a' w'=>e=.normal/\LS Q c Post es' (b.at a' k) cs w') hm hB hsz (Ue (λa' ⟨q1,q2,q3⟩=>ST.ev (o:=o) (by grind) (by simp[Region.wanted,hg]) ⟨ch,xx,hop,h1,h2,q1,q2⟩ (.nil ⟨rfl,q3⟩)) _ _ h) Post b k cs λes' e a' w' ⟨q1,q2⟩=>by subst q1;exact q2
theorem LS.region{id:Nat}{ops:Array Oper}(h:LS Q c Post es (b.at a (.inRegion ops (List.range ops.size)::k)) cs w):LS Q c Post es (b.at a (.code (.region id ops false)::k)) cs w:=LS.steps (.one step_region) h
theorem LS.value{ops:Array Oper}{i:Nat}{l:List Nat}{o:Oper}{v:Value}{w':World}(ho:ops[i]?=some o)(hw:Region.wanted o (yielded ops a.tmps)=true)(h:(execOp a.eval o).run Q w=.ok (.value v) w')(hk:LS Q c Post es (b.at (a.put o.dst v) (.inRegion ops l::k)) cs w'):LS Q c Post es (b.at a (.inRegion ops (i::l)::k)) cs w:=by
 have hfin:(b.at a (.inRegion ops (i::l)::k)).finish v=b.at (a.put o.dst v) (.inRegion ops l::k):=by grind [Frame.finish_at]
 refine LS.steps (.one (Zk1 ?_)) hk;simp_all[stepG_op,stepG.apply]
theorem LS.regEnd{ops:Array Oper}(h:LS Q c Post es (b.at a k) cs w):LS Q c Post es (b.at a (.inRegion ops []::k)) cs w:=LS.steps (.one step_region_end) h
theorem LS.event{ops:Array Oper}{i:Nat}{l:List Nat}{o:Oper}{e:Ev}(ho:ops[i]?=some o)(hw:Region.wanted o (yielded ops a.tmps)=true)(he:match e with
   |.recv _|.closed _=>∃t ch d el inf z,o.op=.recv t ch true/\okV ch=true/\a.eval ch=.chan (some c)/\Q.underlying t=some (.chan d el)/\Q.info? el=some inf/\inf.zero=some z/\∀z',e=.closed z'->z'=z
   |.send v=>∃ch x,o.op=.send ch x/\okV ch=true/\okV x=true/\a.eval ch=.chan (some c)/\a.eval x=v)
  (hk:LS Q c Post es (b.at (a.put o.dst e.val) (.inRegion ops l::k)) cs w):LS Q c Post (e::es) (b.at a (.inRegion ops (i::l)::k)) cs w:=by
 refine LS.ev ⟨ops,i,l,k,o,rfl,rfl,ho,hw,?_⟩ ?_
 ·have hev:∀x,(b.at a (.inRegion ops (i::l)::k)).eval x=a.eval x:=Frame.eval_at b a _
  grind
 simp_all[aft,Zj1]
end
end
end Vm
end
section
namespace Vm
open Go
open Go.Proofs
noncomputable def ofC:Code:=match Try.f15.body with|some c=>c|none=>.skip
def sigV(f:FuncId):Option (List OT):=if f=43 then some [.fz,.mem [.fz],.mem [.fz]]else sig f
def ZdR:List Nat:=[0,1,2,3,16,4,5,6,7,23,25,8,24,29,9,10,48,47,49,12,46,13]
def ZfO:List Nat:=[15,63,76,79]
def vf(P:Program):FC:= {P,ix:=pos (ZdR++ZfO),fresh,sig:=sigV,tr:=[3],fix:=[4,23],n:=82,keep:=ZdR}
def r0S:SS:=[(0,.fz)]
def r0N:SS:=[(0,.fz),(1,(.mem [.fz,.fz,.fz,.fz,.fz,.fz,.fz,.fz,.fz,.fz])),(2,(.mem [.nil,.nil])),(3,.fz)]
def r0:Stm:=
(.reg ⟨[],[],[(1,.m [(.fld (.sz (.s 0) 10) 0),(.fld (.sz (.s 0) 10) 1),(.fld (.sz (.s 0) 10) 2),(.fld (.sz (.s 0) 10) 3),(.fld (.sz (.s 0) 10) 4),(.fld (.sz (.s 0) 10) 5),(.fld (.sz (.s 0) 10) 6),(.fld (.sz (.s 0) 10) 7),(.fld (.sz (.s 0) 10) 8),(.fld (.sz (.s 0) 10) 9)]),(2,.m [(.c (.sl [])),(.c (.sl []))]),(3,.v (.c (.int .i64 (0))))]⟩)
def r0c:comp (vf (bes Try.prog)) (cAt ofC [0]) r0S=some (r0,⟨some r0N,[],[]⟩):=by kernel_rfl
def rXS:SS:=[(0,.fz),(1,(.mem [.fz,.fz,.fz,.fz,.fz,.fz,.fz,.fz,.fz,.fz])),(2,(.mem [.nil,.nil])),(3,.fz)]
def rXN:SS:=[(0,.fz),(1,(.mem [.fz,.fz,.fz,.fz,.fz,.fz,.fz,.fz,.fz,.fz])),(2,(.mem [.nil,.nil])),(3,.fz),(16,.fz)]
def rXR:SS:=[(0,.fz),(1,(.mem [.fz,.fz,.fz,.fz,.fz,.fz,.fz,.fz,.fz,.fz])),(2,(.mem [.nil,.nil])),(3,.fz),(16,.fz)]
def rX:Stm:=
(.seq
(.reg ⟨[.call 22 [] (.id 25) false false [(.mm 1 0 10)]],[],[(4,.v (.un .not (.s 22)))]⟩)
(.cond (.s 4)
 (.seq
 (.reg ⟨[],[([],(.ag [(.c (.sl [])),(.c (.sl []))]))],[(2,.m [(.c (.sl [])),(.c (.sl []))]),(3,.v (.c (.int .i64 (1))))]⟩)
 .ret)
 .skip))
def rXc:comp (vf (bes Try.prog)) (cAt ofC [1,0]) rXS=some (rX,⟨some rXN,[],[rXR]⟩):=by kernel_rfl
def r5S:SS:=[(1,(.mem [.fz,.fz,.fz,.fz,.fz,.fz,.fz,.fz,.fz,.fz])),(2,(.mem [.fz,.fz])),(3,.fz)]
def r5N:SS:=[(1,(.mem [.fz,.fz,.fz,.fz,.fz,.fz,.fz,.fz,.fz,.fz])),(2,(.mem [.fz,.fz])),(3,.fz),(5,.nil)]
def r5:Stm:=
(.reg ⟨[],[],[(6,.v (.c (.sl [])))]⟩)
def r5c:comp (vf (Sol.prog)) (cAt ofC [1,1,1,1,0]) r5S=some (r5,⟨some r5N,[],[]⟩):=by kernel_rfl
def r6S:SS:=[(1,(.mem [.fz,.fz,.fz,.fz,.fz,.fz,.fz,.fz,.fz,.fz])),(2,(.mem [.fz,.fz])),(3,.fz),(5,.nil)]
def r6N:SS:=[(1,(.mem [.fz,.fz,.fz,.fz,.fz,.fz,.fz,.fz,.fz,.fz])),(2,(.mem [.fz,.fz])),(3,.fz),(5,.nil),(6,(.mem [(.own 84)]))]
def r6:Stm:=
(.reg ⟨[],[],[(7,.m [(.c (.mp 0 [] []))])]⟩)
def r6c:comp (vf (Sol.prog)) (cAt ofC [1,1,1,1,1,0]) r6S=some (r6,⟨some r6N,[],[]⟩):=by kernel_rfl
def r7S:SS:=[(1,(.mem [.fz,.fz,.fz,.fz,.fz,.fz,.fz,.fz,.fz,.fz])),(2,(.mem [.fz,.fz])),(3,.fz),(5,.nil),(6,(.mem [(.own 84)]))]
def r7N:SS:=[(1,(.mem [.fz,.fz,.fz,.fz,.fz,.fz,.fz,.fz,.fz,.fz])),(2,(.mem [.fz,.fz])),(3,.fz),(5,.nil),(6,(.mem [(.own 84)])),(7,(.mem [(.own 85)]))]
def r7:Stm:=
(.reg ⟨[],[],[(8,.m [(.c (.mp 0 [] []))])]⟩)
def r7c:comp (vf (Sol.prog)) (cAt ofC [1,1,1,1,1,1,0]) r7S=some (r7,⟨some r7N,[],[]⟩):=by kernel_rfl
def rDS:SS:=[(1,(.mem [.fz,.fz,.fz,.fz,.fz,.fz,.fz,.fz,.fz,.fz])),(2,(.mem [.fz,.fz])),(3,.fz),(5,(.own 87)),(6,(.mem [(.own 84)])),(7,(.mem [(.own 85)])),(24,.fz),(25,.fz)]
def rDN:SS:=[(1,(.mem [.fz,.fz,.fz,.fz,.fz,.fz,.fz,.fz,.fz,.fz])),(2,(.mem [.fz,.fz])),(3,.fz),(5,(.own 87)),(6,(.mem [(.own 84)])),(7,(.mem [(.own 85)])),(25,.fz),(8,(.mem [.fz,.fz,.fz,.fz,.fz,.fz,.fz])),(24,.fz),(29,.fz)]
def rDX:SS:=[(1,(.mem [.fz,.fz,.fz,.fz,.fz,.fz,.fz,.fz,.fz,.fz])),(2,(.mem [.fz,.fz])),(3,.fz),(5,(.own 87)),(6,(.mem [(.own 84)])),(7,(.mem [(.own 85)])),(24,.fz),(25,.fz)]
def rD:Stm:=
(.seq
(.cond (.s 10)
 .skip
 (.exit 0))
(.block 1
 (.seq
 (.reg ⟨[],[],[(11,.m [(.fld (.sz (.ext (.s 12) 0) 7) 0),(.fld (.sz (.ext (.s 12) 0) 7) 1),(.fld (.sz (.ext (.s 12) 0) 7) 2),(.fld (.sz (.ext (.s 12) 0) 7) 3),(.fld (.sz (.ext (.s 12) 0) 7) 4),(.fld (.sz (.ext (.s 12) 0) 7) 5),(.fld (.sz (.ext (.s 12) 0) 7) 6)])]⟩)
 (.seq
 (.seq
 (.reg ⟨[],[],[(13,.v (.m 11 3))]⟩)
 (.cond (.s 13)
  (.seq
  (.reg ⟨[],[],[(8,.m [(.mput (.i .u64) (.m 8 0) (.m 11 5) (.m 11 4))])]⟩)
  (.exit 1))
  .skip))
 (.seq
 (.reg ⟨[],[],[(7,.m [(.mput (.i .u64) (.m 7 0) (.m 11 5) (.len (.s 6)))])]⟩)
 (.reg ⟨[],[],[(6,.v (.app (.s 6) (.lit [(.mm 11 0 7)]) 7))]⟩))))))
def rDc:comp (vf (Sol.prog)) (cAt ofC [1,1,1,1,1,1,1,0,1,0,0,1]) rDS=some (rD,⟨some rDN,[(0,rDX)],[]⟩):=by kernel_rfl
def rCS:SS:=[(1,(.mem [.fz,.fz,.fz,.fz,.fz,.fz,.fz,.fz,.fz,.fz])),(2,(.mem [.fz,.fz])),(3,.fz),(5,.fz),(6,(.mem [.fz])),(7,(.mem [.fz]))]
def rCR:SS:=[(1,(.mem [.fz,.fz,.fz,.fz,.fz,.fz,.fz,.fz,.fz,.fz])),(2,(.mem [.fz,.fz])),(3,.fz),(5,.fz),(6,(.mem [.fz])),(7,(.mem [.fz])),(9,(.clo 43 [7,6])),(10,(.mem [.fz,.fz])),(48,.fz),(47,.fz),(49,.fz),(46,.fz)]
def rC:Stm:=
(.seq
(.reg ⟨[],[],[(14,.no)]⟩)
(.seq
(.reg ⟨[],[],[(14,.no),(15,.m [(.c (.sl [])),(.c (.sl []))])]⟩)
(.seq
(.seq
(.reg ⟨[],[],[(14,.no),(16,.v (.c (.int .i64 (0)))),(17,.v (.len (.s 6))),(20,.v (.s 6))]⟩)
(.block 2
 (.loop [1,2,3,6,7,8,14,15,16,17,20]
  (.seq
  (.reg ⟨[],[],[(14,.no),(18,.v (.bin .lss (.s 16) (.s 17)))]⟩)
  (.seq
  (.cond (.s 18)
   .skip
   (.exit 2))
  (.seq
  (.block 3
   (.seq
   (.reg ⟨[],[],[(14,.no),(19,.m [(.fld (.flds (.idx (.s 20) (.s 16) 7) 0 7) 0),(.fld (.flds (.idx (.s 20) (.s 16) 7) 0 7) 1),(.fld (.flds (.idx (.s 20) (.s 16) 7) 0 7) 2),(.fld (.flds (.idx (.s 20) (.s 16) 7) 0 7) 3),(.fld (.flds (.idx (.s 20) (.s 16) 7) 0 7) 4),(.fld (.flds (.idx (.s 20) (.s 16) 7) 0 7) 5),(.fld (.flds (.idx (.s 20) (.s 16) 7) 0 7) 6)])]⟩)
   (.seq
   (.reg ⟨[],[],[(14,.no),(21,.v (.m 19 2))]⟩)
   (.reg ⟨[.callm 23 [] (.id 43) [.fz,(.mem [.fz]),(.mem [.fz])] [(.slc (.m 19 6) (.c (.int .i64 (0))) (.s 21) 1),(.ag [(.m 8 0)]),(.ag [(.m 7 0)])]],[],[(7,.m [(.fld (.ext (.s 23) 2) 0)]),(8,.m [(.fld (.ext (.s 23) 1) 0)]),(14,.no),(15,.m [(.app (.m 15 0) (.lit [(.ag [(.one (.ext (.s 23) 0)),(.slcl (.m 19 6) (.s 21) 1)])]) 2),(.m 15 1)])]⟩))))
  (.reg ⟨[],[],[(14,.no),(16,.v (.bin .add (.s 16) (.c (.int .i64 (1)))))]⟩)))))))
(.seq
(.reg ⟨[.callm 24 [] (.id 43) [.fz,(.mem [.fz]),(.mem [.fz])] [(.m 1 9),(.ag [(.m 8 0)]),(.ag [(.m 7 0)])]],[],[(7,.m [(.fld (.ext (.s 24) 2) 0)]),(8,.m [(.fld (.ext (.s 24) 1) 0)]),(14,.no),(15,.m [(.m 15 0),(.one (.ext (.s 24) 0))])]⟩)
(.seq
(.reg ⟨[.call 25 [] (.id 17) false false [(.mm 15 0 2)]],[],[(2,.m [(.fld (.sz (.ext (.s 25) 0) 2) 0),(.fld (.sz (.ext (.s 25) 0) 2) 1)]),(3,.v (.fl (.ext (.s 25) 1))),(14,.no)]⟩)
.ret)))))
def rCc:comp (vf (Sol.prog)) (cAt ofC [1,1,1,1,1,1,1,1]) rCS=some (rC,⟨none,[],[rCR]⟩):=by kernel_rfl
def pTo:Fn:=⟨16,[0,1,2,4,5,14,13,15,7,12,19,8,9,10,11,34],
(.seq
(.reg ⟨[],[],[(3,.v (.c (.sl [])))]⟩)
(.seq
(.reg ⟨[],[],[(4,.v (.c (.sl [])))]⟩)
(.seq
(.seq
(.reg ⟨[],[],[(5,.v (.c (.int .i64 (0)))),(6,.v (.len (.s 0))),(9,.v (.s 0))]⟩)
(.block 0
 (.loop [0,1,2,3,4,5,6,9]
  (.seq
  (.reg ⟨[],[],[(7,.v (.bin .lss (.s 5) (.s 6)))]⟩)
  (.seq
  (.cond (.s 7)
   .skip
   (.exit 0))
  (.seq
  (.block 1
   (.seq
   (.reg ⟨[],[],[(8,.v (.fld (.idx (.s 9) (.s 5) 1) 0))]⟩)
   (.seq
   (.seq
   (.reg ⟨[],[],[(10,.v (.bin .eql (.s 8) (.c (.int .u64 (0)))))]⟩)
   (.cond (.s 10)
    (.seq
    (.reg ⟨[],[],[(4,.v (.app (.s 4) (.lit [(.c (.int .i64 (-1)))]) 1))]⟩)
    (.exit 1))
    .skip))
   (.seq
   (.reg ⟨[.call 16 [] (.id 44) false false [(.s 8)]],[],[(11,.v (.ext (.s 16) 0)),(12,.v (.ext (.s 16) 1))]⟩)
   (.seq
   (.seq
   (.reg ⟨[],[],[(13,.v (.ext (.lk (.i .u64) (.m 1 0) (.s 11) (.int .u64 (0)) true) 0)),(14,.v (.ext (.lk (.i .u64) (.m 1 0) (.s 11) (.int .u64 (0)) true) 1))]⟩)
   (.seq
   (.reg ⟨[],[],[(15,.v (.s 14))]⟩)
   (.cond (.s 15)
    (.reg ⟨[],[],[(11,.v (.s 13))]⟩)
    .skip)))
   (.reg ⟨[],[],[(4,.v (.app (.s 4) (.lit [(.one (.lk (.i .u64) (.m 2 0) (.s 11) (.int .i64 (0)) false))]) 1))]⟩))))))
  (.reg ⟨[],[],[(5,.v (.bin .add (.s 5) (.c (.int .i64 (1)))))]⟩)))))))
(.seq
(.reg ⟨[],[],[(3,.v (.s 4)),(4,.no)]⟩)
.ret)))),
[(3,.v)]⟩
def cTo:Zj Sol.prog fresh sig [.fz,(.mem [.fz]),(.mem [.fz])] (Vk [.fz,(.mem [.fz]),(.mem [.fz])]) Try.f43=some pTo:=by kernel_rfl
end Vm
end
section
namespace Vm
open Go Go.Proofs
def Hp.zero_ok:Hp.zero.ok:=by
 refine⟨?_,?_,?_,?_,?_,?_,?_,?_,?_,?_,?_,?_,?_,?_⟩<;>simp[Hp.zero,U64,Fit]
def Z7E{x:Rw}(hx:x.ok):(Ja x).ok/\Zl (layH (Ja x))=true/\(Ja x).roots.length<=5:=by
 have key:∀c,(Y8 x (ZB x c)).ok/\Zl (layH (Y8 x (ZB x c)))=true/\(Y8 x (ZB x c)).roots.length<=5:=λc=>by
  obtain⟨h1,h2,h3⟩:=Sk hx c;obtain⟨k1,k2,_,_⟩:=Z1V (x:=x) h1 h2;refine⟨k1,by rw[k2];exact h3,?_⟩;simp only[Y8,Zhu];exact h1.rl
 unfold Ja Z6T;split
 ·exact key false
 ·exact key true
end Vm
end
section
namespace Vm
open Go
open Go.Proofs
def p22:Fn:=⟨6,[0,1,2,3,4,11],
pQ [pR [(1,pS 0 10),pV 2 (pI 0)],pC [pK 6 51 [.mm 1 0 10]] [pV 3 (.ext (.s 6) 0),pV 4 (.ext (.s 6) 1)],pQ [pR [pV 5 (.un .not (.s 4))]] (.cond (.s 5) (pQ [pR [pV 2 (pI 0)]] .ret) .skip),pC [pK 7 52 [.s 3]] [pV 2 (.s 7)]] .ret,[(2,.v)]⟩
def c22:Zj Sol.prog fresh sig [.fz] [] Try.f22=some p22:=by kernel_rfl
def p25:Fn:=⟨5,[0,1,2,3,4],
pQ [pR [(1,pS 0 10),pV 2 pF],pC [pK 5 51 [.mm 1 0 10]] [pV 3 (.ext (.s 5) 0),pV 4 (.ext (.s 5) 1)],pR [pV 2 (.s 4)]] .ret,[(2,.v)]⟩
def c25:Zj Sol.prog fresh sig [.fz] [] Try.f25=some p25:=by kernel_rfl
def p27:Fn:=⟨8,[0,1,2,4,5,6,7,22],
pQ [pR [(2,pS 0 10),pV 3 pN,pV 4 (pI 0)],pC [pK 8 51 [.mm 2 0 10]] [pV 5 (.ext (.s 8) 0),pV 6 (.ext (.s 8) 1)],pQ [.reg ⟨[.lt 9 [] (.un .not (.s 6)),.lt 10 [] (.ite (.s 9) pT (.bin .lss (.s 1) (pI 1)))],[([(9,false)],.bin .lss (.s 1) (pI 1)),([(10,false)],.bin .gtr (.s 1) (pI 4))],[pV 7 (.ite (.s 10) pT (.bin .gtr (.s 1) (pI 4)))]⟩] (.cond (.s 7) (pQ [pR [pV 4 (pI 1)]] .ret) .skip),pR [pV 3 (.fld (.ai (.flds (.star (.s 5)) 17 4) (.bin .sub (.s 1) (pI 1)) 4 1 true) 0),pV 4 (pI 0)]] .ret,[(3,.v),(4,.v)]⟩
def c27:Zj Sol.prog fresh sig [.fz,.fz] [] Try.f27=some p27:=by kernel_rfl
def p51:Fn:=⟨12,[0,1,2,3,13,4,16,15,17,6,14,24],
pQ [pR [(1,pS 0 10),pV 2 (.c (.nul 0)),pV 3 pF],.reg ⟨[pK 12 64 [.mm 1 0 10]],[([],.ag [.fld (.mm 1 0 10) 0,.fld (.mm 1 0 10) 1,.fld (.mm 1 0 10) 2,.fld (.mm 1 0 10) 3,.fld (.mm 1 0 10) 4,.fld (.mm 1 0 10) 5,.fld (.mm 1 0 10) 6,.fld (.mm 1 0 10) 7,.fld (.mm 1 0 10) 8,.fld (.mm 1 0 10) 9,.fld (.sz (.s 12) 7) 0,.fld (.sz (.s 12) 7) 1,.fld (.sz (.s 12) 7) 2,.fld (.sz (.s 12) 7) 3,.fld (.sz (.s 12) 7) 4,.fld (.sz (.s 12) 7) 5,.fld (.sz (.s 12) 7) 6,pN,pN,pN,pN,.c (.mp 0 [] []),.c (.mp 0 [] [])])],[(5,.m [.fld (.mm 1 0 10) 0,.fld (.mm 1 0 10) 1,.fld (.mm 1 0 10) 2,.fld (.mm 1 0 10) 3,.fld (.mm 1 0 10) 4,.fld (.mm 1 0 10) 5,.fld (.mm 1 0 10) 6,.fld (.mm 1 0 10) 7,.fld (.mm 1 0 10) 8,.fld (.mm 1 0 10) 9,.fld (.sz (.s 12) 7) 0,.fld (.sz (.s 12) 7) 1,.fld (.sz (.s 12) 7) 2,.fld (.sz (.s 12) 7) 3,.fld (.sz (.s 12) 7) 4,.fld (.sz (.s 12) 7) 5,.fld (.sz (.s 12) 7) 6,pN,pN,pN,pN,.c (.mp 0 [] []),.c (.mp 0 [] [])])]⟩,pQ [pC [pK 10 82 []] [pV 6 (pI 0),pV 7 (.len (.s 10))]] (.block 0 (.loop [0,1,2,3,5,6,7,10] (pQ [pR [pV 8 (.bin .lss (.s 6) (.s 7))],.cond (.s 8) .skip (.exit 0),.block 1 (pQ [pR [(9,.m [.fld (.flds (.idx (.s 10) (.s 6) 1) 0 1) 0])],pC [.callm 13 [] (.e (.m 9 0)) [.mem [.fz,.fz,.fz,.fz,.fz,.fz,.fz,.fz,.fz,.fz,.fz,.fz,.fz,.fz,.fz,.fz,.fz,.fz,.fz,.fz,.fz,.own 84,.own 115]] [.ag [.m 5 0,.m 5 1,.m 5 2,.m 5 3,.m 5 4,.m 5 5,.m 5 6,.m 5 7,.m 5 8,.m 5 9,.m 5 10,.m 5 11,.m 5 12,.m 5 13,.m 5 14,.m 5 15,.m 5 16,.m 5 17,.m 5 18,.m 5 19,.m 5 20,.m 5 21,.m 5 22]]] [(5,pM (.ext (.s 13) 1) 23),pV 11 (.un .not (.ext (.s 13) 0))]] (.cond (.s 11) (pQ [pR [pV 2 (.c (.nul 0)),pV 3 pF]] .ret) .skip))] (pR [pV 6 (.bin .add (.s 6) (pI 1))])))),pR [pV 2 (.pt none [.m 5 0,.m 5 1,.m 5 2,.m 5 3,.m 5 4,.m 5 5,.m 5 6,.m 5 7,.m 5 8,.m 5 9,.m 5 10,.m 5 11,.m 5 12,.m 5 13,.m 5 14,.m 5 15,.m 5 16,.m 5 17,.m 5 18,.m 5 19,.m 5 20,.m 5 21,.m 5 22]),pV 3 pT,(5,.no)]] .ret,[(2,.v),(3,.v)]⟩
def c51:Zj Sol.prog fresh sig [.fz] [] Try.f51=some p51:=by kernel_rfl
def p52:Fn:=⟨11,[0,2,3,4,8,19,18,20,6,17,25],
pQ [pR [pV 1 (pI 0)],pR [pV 2 (pI 0)],pQ [pR [pV 3 (pI 3)]] (.block 0 (.loop [0,1,2,3] (pQ [pQ [pR [pV 4 (.bin .leq (.s 3) (pI 4))]] (.cond (.s 4) .skip (.exit 0)),.block 1 (pQ [pR [pV 5 (pI 0),pV 6 (.len (.fld (.ai (.flds (.star (.s 0)) 17 4) (.bin .sub (.s 3) (pI 1)) 4 1 true) 0)),pV 9 (.fld (.ai (.flds (.star (.s 0)) 17 4) (.bin .sub (.s 3) (pI 1)) 4 1 true) 0)]] (.block 2 (.loop [0,1,2,3,4,5,6,9] (pQ [pR [pV 7 (.bin .lss (.s 5) (.s 6))],.cond (.s 7) .skip (.exit 2),.block 3 (pQ [pR [(8,pM (.flds (.idx (.s 9) (.s 5) 5) 0 5) 5)],pR [pV 10 (.un .not (.m 8 3))]] (.cond (.s 10) (pR [pV 2 (.bin .add (.s 2) (.bin .add (pI 1) (.m 8 1)))]) .skip))] (pR [pV 5 (.bin .add (.s 5) (pI 1))])))))] (pR [pV 3 (.bin .add (.s 3) (pI 1))])))),pR [pV 1 (.s 2)]] .ret,[(1,.v)]⟩
def c52:Zj Sol.prog fresh sig [.fz] [] Try.f52=some p52:=by kernel_rfl
def p82:Fn:=⟨1,[0],
pQ [pR [pV 0 pN],pR [pV 0 (.lit [.ag [.c (.fn 103)],.ag [.c (.fn 104)],.ag [.c (.fn 105)],.ag [.c (.fn 106)],.ag [.c (.fn 107)],.ag [.c (.fn 108)],.ag [.c (.fn 109)],.ag [.c (.fn 110)]])]] .ret,[(0,.v)]⟩
def c82:Zj Sol.prog fresh sig [] [] Try.f82=some p82:=by kernel_rfl
def p103:Fn:=⟨2,[0,2],
pQ [pR [pV 1 pF],.reg ⟨[pK 2 65 [.flds (.star (.s 0)) 10 7],.lt 3 [] (.s 2),.lt 4 [] (.ite (.s 3) (.bin .leq (.len (.fld (.star (.s 0)) 9)) (pI 16)) pF),.lt 5 [] (.ite (.s 4) (.bin .geq (.fld (.star (.s 0)) 4) (pI 0)) pF)],[([(3,true)],.bin .leq (.len (.fld (.star (.s 0)) 9)) (pI 16)),([(4,true)],.bin .geq (.fld (.star (.s 0)) 4) (pI 0)),([(5,true)],.bin .leq (.fld (.star (.s 0)) 4) (.len (.fld (.star (.s 0)) 5)))],[pV 1 (.ite (.s 5) (.bin .leq (.fld (.star (.s 0)) 4) (.len (.fld (.star (.s 0)) 5))) pF)]⟩] .ret,[(1,.v)]⟩
def c103:Zj Sol.prog fresh sig [.fz] [] Try.f103=some p103:=by kernel_rfl
def p104:Fn:=⟨3,[0,2,7],
pQ [pR [pV 1 pF],pQ [pR [pV 2 (.fld (.star (.s 0)) 3)]] (.cond (.s 2) (pQ [pR [pV 1 (.bin .lss (.fld (.star (.s 0)) 4) (.len (.fld (.star (.s 0)) 5)))]] .ret) .skip),.reg ⟨[.lt 3 [] (.bin .eql (.len (.fld (.star (.s 0)) 7)) (pI 0)),.lt 4 [] (.ite (.s 3) (.bin .eql (.len (.fld (.star (.s 0)) 8)) (pI 0)) pF)],[([(3,true)],.bin .eql (.len (.fld (.star (.s 0)) 8)) (pI 0)),([(4,true)],.bin .eql (.fld (.star (.s 0)) 4) (.len (.fld (.star (.s 0)) 5)))],[pV 1 (.ite (.s 4) (.bin .eql (.fld (.star (.s 0)) 4) (.len (.fld (.star (.s 0)) 5))) pF)]⟩] .ret,[(1,.v)]⟩
def c104:Zj Sol.prog fresh sig [.fz] [] Try.f104=some p104:=by kernel_rfl
def p105:Fn:=⟨11,[0,2,3,8,9,4,5,6,7,18,39],
pQ [pR [pV 1 pF],pR [pV 2 pT],.skip,pQ [pR [pV 3 (pI 0)]] (.block 0 (.loop [0,1,2,3] (pQ [pR [pV 4 (.bin .lss (.s 3) (pI 4))],.cond (.s 4) .skip (.exit 0),.block 1 (pQ [pR [pV 5 (.s 3)],pR [pV 6 (.bin .add (.s 5) (pI 1))],pR [pV 7 pN],pR [pV 8 (pI 0)],pQ [.reg ⟨[.lt 11 [] (.bin .eql (.s 6) (pI 1))],[([(11,false)],.bin .eql (.s 6) (pI 2))],[pV 9 (.ite (.s 11) pT (.bin .eql (.s 6) (pI 2)))]⟩] (.cond (.s 9) (pC [pK 12 118 [.pt none [.m 0 0,.m 0 1,.m 0 2,.m 0 3,.m 0 4,.m 0 5,.m 0 6,.m 0 7,.m 0 8,.m 0 9,.m 0 10,.m 0 11,.m 0 12,.m 0 13,.m 0 14,.m 0 15,.m 0 16,.m 0 17,.m 0 18,.m 0 19,.m 0 20,.m 0 21,.m 0 22],.s 6],.call 13 [] (.id 117) true false [.s 12]] [pV 7 (.ext (.s 13) 0),pV 8 (.ext (.s 13) 1)]) (pC [pK 14 118 [.pt none [.m 0 0,.m 0 1,.m 0 2,.m 0 3,.m 0 4,.m 0 5,.m 0 6,.m 0 7,.m 0 8,.m 0 9,.m 0 10,.m 0 11,.m 0 12,.m 0 13,.m 0 14,.m 0 15,.m 0 16,.m 0 17,.m 0 18,.m 0 19,.m 0 20,.m 0 21,.m 0 22],.s 6],pK 15 118 [.pt none [.m 0 0,.m 0 1,.m 0 2,.m 0 3,.m 0 4,.m 0 5,.m 0 6,.m 0 7,.m 0 8,.m 0 9,.m 0 10,.m 0 11,.m 0 12,.m 0 13,.m 0 14,.m 0 15,.m 0 16,.m 0 17,.m 0 18,.m 0 19,.m 0 20,.m 0 21,.m 0 22],.s 6],pK 16 120 [.pt none [.m 0 0,.m 0 1,.m 0 2,.m 0 3,.m 0 4,.m 0 5,.m 0 6,.m 0 7,.m 0 8,.m 0 9,.m 0 10,.m 0 11,.m 0 12,.m 0 13,.m 0 14,.m 0 15,.m 0 16,.m 0 17,.m 0 18,.m 0 19,.m 0 20,.m 0 21,.m 0 22],.s 15],.call 17 [] (.id 119) true false [.s 14,.s 16]] [pV 7 (.ext (.s 17) 0),pV 8 (.ext (.s 17) 1)])),pQ [pR [pV 10 (.bin .neq (.s 8) (pI 0))]] (.cond (.s 10) (pQ [pR [pV 2 pF]] (.exit 0)) .skip)] (pC [.callm 18 [] (.id 121) [.mem [.fz,.fz,.fz,.fz,.fz,.fz,.fz,.fz,.fz,.fz,.fz,.fz,.fz,.fz,.fz,.fz,.fz,.fz,.fz,.fz,.fz,.own 84,.own 115],.fz,.fz] [.ag [.m 0 0,.m 0 1,.m 0 2,.m 0 3,.m 0 4,.m 0 5,.m 0 6,.m 0 7,.m 0 8,.m 0 9,.m 0 10,.m 0 11,.m 0 12,.m 0 13,.m 0 14,.m 0 15,.m 0 16,.m 0 17,.m 0 18,.m 0 19,.m 0 20,.m 0 21,.m 0 22],.s 6,.s 7]] [(0,pM (.ext (.s 18) 1) 23)]))] (pR [pV 3 (.bin .add (.s 3) (pI 1))])))),pR [pV 1 (.s 2)]] .ret,[(1,.v)]⟩
def c105:Zj Sol.prog fresh sig [(.mem [.fz,.fz,.fz,.fz,.fz,.fz,.fz,.fz,.fz,.fz,.fz,.fz,.fz,.fz,.fz,.fz,.fz,.fz,.fz,.fz,.fz,(.own 84),(.own 115)])] [(0,(.mem [.fz,.fz,.fz,.fz,.fz,.fz,.fz,.fz,.fz,.fz,.fz,.fz,.fz,.fz,.fz,.fz,.fz,.fz,.fz,.fz,.fz,(.own 84),(.own 115)]))] Try.f105=some p105:=by kernel_rfl
def p106:Fn:=⟨13,[0,2,12,3,4,15,26,25,27,6,24,32,46],
pQ [pR [pV 1 pF],pQ [pR [pV 2 (.un .not (.fld (.star (.s 0)) 3))]] (.cond (.s 2) (pQ [pR [pV 1 pT]] .ret) .skip),pR [pV 3 (.c (.mp 0 [] []))],pQ [pR [pV 4 (pI 3)]] (.block 0 (.loop [0,1,2,3,4] (pQ [pQ [pR [pV 5 (.bin .leq (.s 4) (pI 4))]] (.cond (.s 5) .skip (.exit 0)),.block 1 (pQ [pR [pV 6 (pI 0),pV 7 (.len (.fld (.ai (.flds (.star (.s 0)) 17 4) (.bin .sub (.s 4) (pI 1)) 4 1 true) 0)),pV 10 (.fld (.ai (.flds (.star (.s 0)) 17 4) (.bin .sub (.s 4) (pI 1)) 4 1 true) 0)]] (.block 2 (.loop [0,1,2,3,4,5,6,7,10] (pQ [pR [pV 8 (.bin .lss (.s 6) (.s 7))],.cond (.s 8) .skip (.exit 2),.block 3 (pQ [pR [(9,pM (.flds (.idx (.s 10) (.s 6) 5) 0 5) 5)],pQ [pR [pV 11 (.un .not (.m 9 3))]] (.cond (.s 11) (.exit 3) .skip),pQ [.reg ⟨[.lt 13 [] (.bin .neq (.lk (.i .u64) (.fld (.star (.s 0)) 21) (.m 9 4) (.int .i64 0) false) (pI 1))],[([(13,false)],.fl (.lk (.i .u64) (.s 3) (.m 9 4) (.bool false) false))],[pV 12 (.ite (.s 13) pT (.fl (.lk (.i .u64) (.s 3) (.m 9 4) (.bool false) false)))]⟩] (.cond (.s 12) (pQ [pR [pV 1 pF]] .ret) .skip)] (pR [pV 3 (.mput (.i .u64) (.s 3) (.m 9 4) pT)]))] (pR [pV 6 (.bin .add (.s 6) (pI 1))])))))] (pR [pV 4 (.bin .add (.s 4) (pI 1))])))),pR [pV 1 (.bin .eql (.mlen (.s 3)) (.len (.fld (.ai (.flds (.star (.s 0)) 17 4) (pI 0) 4 1 true) 0)))]] .ret,[(1,.v)]⟩
def c106:Zj Sol.prog fresh sig [.fz] [] Try.f106=some p106:=by kernel_rfl
def p107:Fn:=⟨9,[0,1,2,11,10,12,4,9,18],
pQ [pR [(1,.m [.one (.s 0)]),pV 2 pF],pQ [pR [pV 3 (pI 0),pV 4 (.len (.fld (.star (.m 1 0)) 9)),pV 7 (.fld (.star (.m 1 0)) 9)]] (.block 0 (.loop [0,1,2,3,4,7] (pQ [pR [pV 5 (.bin .lss (.s 3) (.s 4))],.cond (.s 5) .skip (.exit 0),.block 1 (pQ [pR [pV 6 (.fld (.idx (.s 7) (.s 3) 1) 0)],pC [pK 9 122 [.m 1 0,.s 6,pI 1,pI 2]] [pV 8 (.un .not (.s 9))]] (.cond (.s 8) (pQ [pR [pV 2 pF]] .ret) .skip))] (pR [pV 3 (.bin .add (.s 3) (pI 1))])))),pC [.call 10 [] (.id 123) false true [.m 1 0,pI 2,.pt (some 124) [.pt none [.m 1 0]]],.lt 11 [] (.s 10),.call 12 [(11,true)] (.id 123) false true [.m 1 0,pI 1,.pt (some 125) [.pt none [.m 1 0]]]] [pV 2 (.ite (.s 11) (.s 12) pF)]] .ret,[(2,.v)]⟩
def c107:Zj Sol.prog fresh sig [.fz] [] Try.f107=some p107:=by kernel_rfl
def p108:Fn:=⟨3,[0,1,2],
pQ [pR [(1,.m [.one (.s 0)]),pV 2 pF],pC [.call 3 [] (.id 123) false true [.m 1 0,pI 1,.pt (some 126) [.pt none [.m 1 0]]]] [pV 2 (.s 3)]] .ret,[(2,.v)]⟩
def c108:Zj Sol.prog fresh sig [.fz] [] Try.f108=some p108:=by kernel_rfl
def p109:Fn:=⟨4,[0,1,2,3],
pQ [pR [(1,.m [.one (.s 0)]),pV 2 pF],pR [(3,.no)],pC [.call 4 [] (.id 123) false true [.m 1 0,pI 3,.pt (some 127) [.pt none [.m 1 0]]],.lt 5 [] (.s 4),.call 6 [(5,true)] (.id 123) false true [.m 1 0,pI 4,.pt (some 127) [.pt none [.m 1 0]]]] [pV 2 (.ite (.s 5) (.s 6) pF),(3,.no)]] .ret,[(2,.v)]⟩
def c109:Zj Sol.prog fresh sig [.fz] [] Try.f109=some p109:=by kernel_rfl
def p110:Fn:=⟨2,[0,2],
pQ [pR [pV 1 pF],pC [pK 2 52 [.s 0]] [pV 1 (.bin .leq (.bin .add (.bin .add (.len (.fld (.star (.s 0)) 5)) (.len (.fld (.star (.s 0)) 6))) (.s 2)) (.fld (.star (.s 0)) 1))]] .ret,[(1,.v)]⟩
def c110:Zj Sol.prog fresh sig [.fz] [] Try.f110=some p110:=by kernel_rfl
def p118:Fn:=⟨3,[0,1,4],
pQ [pR [pV 2 pN],pR [pV 2 (.ai (.ag [.fld (.star (.s 0)) 5,.fld (.star (.s 0)) 6,.fld (.star (.s 0)) 7,.fld (.star (.s 0)) 8]) (.bin .sub (.s 1) (pI 1)) 4 1 false)]] .ret,[(2,.v)]⟩
def c118:Zj Sol.prog fresh sig [.fz,.fz] [] Try.f118=some p118:=by kernel_rfl
def p120:Fn:=⟨14,[0,1,4,5,6,15,7,8,9,25,10,11,36,52],
pQ [pR [pV 2 pN],pR [pV 3 pN],pQ [pR [pV 4 (pI 0)]] (.block 0 (.loop [0,1,2,3,4] (pQ [pQ [pR [pV 5 (.bin .lss (.s 4) (.len (.s 1)))]] (.cond (.s 5) .skip (.exit 0))] (.block 1 (pQ [pR [(6,.m [pI 0,pI 0])],pQ [pC [pK 14 44 [.fld (.idx (.s 1) (.s 4) 1) 0]] [pV 7 (.ext (.s 14) 0),pV 8 (.ext (.s 14) 1)],pR [pV 9 (.bin .eql (.s 8) (pI 0))]] (.cond (.s 9) (pQ [pR [(10,pM (.sz (.ext (.lk (.i .u64) (.fld (.star (.s 0)) 22) (.s 7) (.agg [.int .i64 0,.int .i64 0]) true) 0) 2) 2),pV 11 (.ext (.lk (.i .u64) (.fld (.star (.s 0)) 22) (.s 7) (.agg [.int .i64 0,.int .i64 0]) true) 1)],pQ [pR [pV 12 (.un .not (.s 11))]] (.cond (.s 12) (pQ [pR [pV 2 (.s 3),(3,.no)]] .ret) .skip),pR [(6,pM (.mm 10 0 2) 2)]] (pR [pV 3 (.app (.s 3) (.lit [.mm 6 0 2]) 2)])) (pQ [pC [pK 15 69 [.fld (.idx (.s 1) (.s 4) 1) 0]] [(6,pM (.sz (.ext (.s 15) 0) 2) 2),pV 8 (.ext (.s 15) 1)],pR [pV 13 (.bin .neq (.s 8) (pI 0))]] (.cond (.s 13) (pQ [pR [pV 2 (.s 3),(3,.no)]] .ret) .skip)))] (pR [pV 4 (.bin .add (.s 4) (.bin .add (pI 1) (.m 6 0)))])))))),pR [pV 2 (.s 3),(3,.no)]] .ret,[(2,.v)]⟩
def c120:Zj Sol.prog fresh sig [.fz,.fz] [] Try.f120=some p120:=by kernel_rfl
def p121:Fn:=⟨11,[0,1,2,19,18,20,7,17,8,9,42],
pQ [.reg ⟨[],[([],.ai (.c (.agg [(.bool true),(.bool true),(.bool true),(.bool true)])) (.bin .sub (.s 1) (pI 1)) 4 1 false)],[(0,.m [.m 0 0,.m 0 1,.m 0 2,.m 0 3,.m 0 4,.m 0 5,.m 0 6,.m 0 7,.m 0 8,.m 0 9,.m 0 10,.m 0 11,.m 0 12,.m 0 13,.m 0 14,.m 0 15,.m 0 16,.fld (.aput (.mm 0 17 4) (.bin .sub (.s 1) (pI 1)) 4 1 (.one (.s 2))) 0,.fld (.aput (.mm 0 17 4) (.bin .sub (.s 1) (pI 1)) 4 1 (.one (.s 2))) 1,.fld (.aput (.mm 0 17 4) (.bin .sub (.s 1) (pI 1)) 4 1 (.one (.s 2))) 2,.fld (.aput (.mm 0 17 4) (.bin .sub (.s 1) (pI 1)) 4 1 (.one (.s 2))) 3,.m 0 21,.m 0 22])]⟩,pR [pV 3 (pI 0),pV 4 (.len (.s 2)),pV 7 (.s 2)]] (.block 0 (.loop [0,1,2,3,4,7] (pQ [pR [pV 5 (.bin .lss (.s 3) (.s 4))],.cond (.s 5) .skip (.exit 0),.block 1 (pQ [pR [(6,pM (.flds (.idx (.s 7) (.s 3) 5) 0 5) 5)],pC [pK 11 75 [.mm 0 10 7,.ag [.one (.s 1),.m 6 0]]] [pV 8 (.ext (.s 11) 0),pV 9 (.ext (.s 11) 1)],pR [(0,.m [.m 0 0,.m 0 1,.m 0 2,.m 0 3,.m 0 4,.m 0 5,.m 0 6,.m 0 7,.m 0 8,.m 0 9,.m 0 10,.m 0 11,.m 0 12,.m 0 13,.m 0 14,.m 0 15,.m 0 16,.m 0 17,.m 0 18,.m 0 19,.m 0 20,.mput (.i .u64) (.m 0 21) (.s 8) (.s 1),.m 0 22])],pR [pV 10 (.bin .eql (.s 1) (pI 1))]] (.cond (.s 10) (pR [(0,.m [.m 0 0,.m 0 1,.m 0 2,.m 0 3,.m 0 4,.m 0 5,.m 0 6,.m 0 7,.m 0 8,.m 0 9,.m 0 10,.m 0 11,.m 0 12,.m 0 13,.m 0 14,.m 0 15,.m 0 16,.m 0 17,.m 0 18,.m 0 19,.m 0 20,.m 0 21,.mput (.i .u64) (.m 0 22) (.s 8) (.mm 6 1 2)])]) .skip))] (pR [pV 3 (.bin .add (.s 3) (pI 1))])))),[]⟩
def c121:Zj Sol.prog fresh sig [(.mem [.fz,.fz,.fz,.fz,.fz,.fz,.fz,.fz,.fz,.fz,.fz,.fz,.fz,.fz,.fz,.fz,.fz,.fz,.fz,.fz,.fz,(.own 84),(.own 115)]),.fz,.fz] [(0,(.mem [.fz,.fz,.fz,.fz,.fz,.fz,.fz,.fz,.fz,.fz,.fz,.fz,.fz,.fz,.fz,.fz,.fz,.fz,.fz,.fz,.fz,(.own 84),(.own 115)]))] Try.f121=some p121:=by kernel_rfl
def p122:Fn:=⟨11,[0,1,2,3,8,14,9,10,21,11,12],
pQ [pR [pV 4 pF],pQ [pR [pV 5 (.bin .eql (.s 1) (pU 0))]] (.cond (.s 5) (pQ [pR [pV 4 pT]] .ret) .skip),pC [pK 11 44 [.s 1]] [pV 6 (.ext (.s 11) 0),pV 7 (.ext (.s 11) 1)],pQ [pR [pV 8 (.bin .neq (.s 7) (pI 0))]] (.cond (.s 8) (pQ [pR [pV 4 pF]] .ret) .skip),pR [pV 9 (.ext (.lk (.i .u64) (.fld (.star (.s 0)) 21) (.s 6) (.int .i64 0) true) 0),pV 10 (.ext (.lk (.i .u64) (.fld (.star (.s 0)) 21) (.s 6) (.int .i64 0) true) 1)],.reg ⟨[.lt 12 [] (.s 10),.lt 13 [] (.ite (.s 12) (.bin .geq (.s 9) (.s 2)) pF)],[([(12,true)],.bin .geq (.s 9) (.s 2)),([(13,true)],.bin .leq (.s 9) (.s 3))],[pV 4 (.ite (.s 13) (.bin .leq (.s 9) (.s 3)) pF)]⟩] .ret,[(4,.v)]⟩
def c122:Zj Sol.prog fresh sig [.fz,.fz,.fz,.fz] [] Try.f122=some p122:=by kernel_rfl
def p123:Fn:=⟨17,[0,1,2,6,7,23,22,24,9,21,28,32,31,33,10,11,47],
pQ [pR [pV 3 pF],pC [pK 17 118 [.s 0,.s 1]] [pV 4 (.s 17)],pQ [pR [pV 5 (pI 0),pV 6 (.len (.fld (.ai (.flds (.star (.s 0)) 17 4) (.bin .sub (.s 1) (pI 1)) 4 1 true) 0)),pV 9 (.fld (.ai (.flds (.star (.s 0)) 17 4) (.bin .sub (.s 1) (pI 1)) 4 1 true) 0)]] (.block 0 (.loop [0,1,2,3,4,5,6,9] (pQ [pR [pV 7 (.bin .lss (.s 5) (.s 6))],.cond (.s 7) .skip (.exit 0),.block 1 (pQ [pR [(8,pM (.flds (.idx (.s 9) (.s 5) 5) 0 5) 5)],pQ [pR [pV 10 (.m 8 3)]] (.cond (.s 10) (.exit 1) .skip),pR [pV 11 (pI 0),pV 12 (.m 8 2)]] (.block 2 (.loop [0,1,2,3,4,5,6,7,8,9,10,11,12] (pQ [pR [pV 13 (.bin .lss (.s 11) (.s 12))],.cond (.s 13) .skip (.exit 2),.block 3 (pQ [pR [pV 14 (.s 11)],pR [pV 15 (.bin .add (.bin .add (.m 8 0) (pI 1)) (.s 14))],pC [.call 18 [] (.e (.s 2)) false false [.s 15,.fld (.idx (.s 4) (.s 15) 1) 0]] [pV 16 (.un .not (.s 18))]] (.cond (.s 16) (pQ [pR [pV 3 pF]] .ret) .skip))] (pR [pV 11 (.bin .add (.s 11) (pI 1))])))))] (pR [pV 5 (.bin .add (.s 5) (pI 1))])))),pR [pV 3 pT]] .ret,[(3,.v)]⟩
def c123:Zj Sol.prog fresh sig [.fz,.fz,.fz] [] Try.f123=some p123:=by kernel_rfl
def p124:Fn:=⟨4,[0,1,2,5],
pQ [pR [pV 3 pF],pC [pK 4 122 [.fld (.star (.s 2)) 0,.s 1,pI 1,pI 2]] [pV 3 (.s 4)]] .ret,[(3,.v)]⟩
def c124:Zj Sol.prog fresh sig [.fz,.fz,.fz] [] Try.f124=some p124:=by kernel_rfl
def p125:Fn:=⟨4,[0,1,2,5],
pQ [pR [pV 3 pF],pC [.lt 4 [] (.bin .geq (.s 0) (.fld (.star (.fld (.star (.s 2)) 0)) 4)),.call 5 [(4,false)] (.id 122) false false [.fld (.star (.s 2)) 0,.s 1,pI 1,pI 2]] [pV 3 (.ite (.s 4) pT (.s 5))]] .ret,[(3,.v)]⟩
def c125:Zj Sol.prog fresh sig [.fz,.fz,.fz] [] Try.f125=some p125:=by kernel_rfl
def p126:Fn:=⟨4,[0,1,2,5],
pQ [pR [pV 3 pF],pC [.lt 4 [] (.bin .lss (.s 0) (.fld (.star (.fld (.star (.s 2)) 0)) 4)),.call 5 [(4,false)] (.id 122) false false [.fld (.star (.s 2)) 0,.s 1,pI 1,pI 4]] [pV 3 (.ite (.s 4) pT (.s 5))]] .ret,[(3,.v)]⟩
def c126:Zj Sol.prog fresh sig [.fz,.fz,.fz] [] Try.f126=some p126:=by kernel_rfl
def p127:Fn:=⟨4,[0,1,2,5],
pQ [pR [pV 3 pF],pC [pK 4 122 [.fld (.star (.s 2)) 0,.s 1,pI 3,pI 4]] [pV 3 (.s 4)]] .ret,[(3,.v)]⟩
def c127:Zj Sol.prog fresh sig [.fz,.fz,.fz] [] Try.f127=some p127:=by kernel_rfl
end Vm
end
section
namespace Vm
open Go Go.Proofs
def putA{α:Type}(l:List (Int×α))(k:Int)(v:α):List (Int×α):=match l.findIdx? (·.1==k)with
 |some i=>l.set i (k,v)
 |none=>l++[(k,v)]
def getA{α:Type}(l:List (Int×α))(k:Int):Option α:=(l.find? (·.1==k)).map (·.2)
def mpA{α:Type}(f:α->V)(l:List (Int×α)):V:=.mp 0 (l.map λx=>vu x.1) (l.map λx=>f x.2)
def z7{α:Type}{k:Int}:∀ {l:List (Int×α)},Kn (vu k) (l.map λx=>vu x.1)=some (l.findIdx? (·.1==k))
 | []=>rfl
 |y::l=>by
  simp only[Zha,Kn,Z5w,Zhp,Zk3];by_cases h:k=y.1
  ·simp[h]
  ·have h2:(k==y.1)=false:=by simpa using h
   have h3:(y.1==k)=false:=by simpa using ZiO h
   simp[h2,h3,z7]
def XX{α:Type}{p:α->Bool}:∀ {l:List α},l.find? p=(l.findIdx? p).bind λi=>l[i]?
 | []=>rfl
 |x::l=>by
  rw[ZjO,Zk3];cases h:p x
  ·simp only[ZgU,Zhr];rw[XX (l:=l)];cases l.findIdx? p<;>simp
  ·simp
theorem Z0H{α:Type}{f:α->V}{l:List (Int×α)}{k:Int}{z:V}{ok:Bool}:lkV (.i .u64) (mpA f l) (vu k) z ok=match getA l k with
  |some x=>some (if ok then .tup [f x,.bool true]else f x)
  |none=>some (if ok then .tup [z,.bool false]else z):=by
 unfold lkV mpA getA;simp only[isK,ZjV,Zjm,Zhr,z7,XX]
 grind [List.findIdx?_eq_some_iff_getElem]
def Jt{α:Type}{f:α->V}{l:List (Int×α)}{k:Int}{x:α}:Js (.i .u64) (mpA f l) (vu k) (f x)=some (mpA f (putA l k x)):=by
 unfold Js mpA putA;simp only[isK,ZjV,Zjm,Zhr,z7];cases h:l.findIdx? (·.1==k)with
 |none=>simp
 |some i=>
  have hh:=Zhx.1 h;obtain⟨hlt,hk,_⟩:=hh;have hk':(l[i]).1=k:=by simpa using hk
  simp only[ZgH,V.mp.injEq,true_and];constructor
  ·rw[Zjz];apply Zkc;intro j;rw[List.getElem?_set];split
   ·rename_i e;subst e;simp[hlt,hk']
   ·rfl
  ·rw[Zjz]
@[simp] theorem Zgc{α:Type}(f:α->V)(l:List (Int×α)):oneV (mpA f l)=some (mpA f l):=rfl
@[simp] theorem ZeY{α:Type}(f:α->V)(l:List (Int×α)):(mpA f l).cells=[mpA f l]:=rfl
@[simp] theorem ZgB{α:Type}(f:α->V)(l:List (Int×α)):(mpA f l).one=true:=rfl
@[simp] theorem Zgb{α:Type}(f:α->V)(l:List (Int×α)):qH (mpA f l)=some (vi l.length):=by simp[mpA]
def Uj{α:Type}{l:List (Int×α)}{k j:Int}{x:α}:getA (putA l k x) j=if k=j then some x else getA l j:=by
 unfold getA putA;cases h:l.findIdx? (·.1==k)with
 |none=>
  grind
 |some i=>
  obtain⟨hlt,hk,hmin⟩:=Zhx.1 h;have hk':(l[i]).1=k:=by simpa using hk
  simp only;by_cases e:k=j
  ·subst e;rw[if_pos rfl,XX]
   grind [List.findIdx?_eq_some_iff_getElem,List.getElem_set_ne]
  ·rw[if_neg e,XX,XX]
   have:(l.set i (k,x)).findIdx? (·.1==j)=l.findIdx? (·.1==j):=by
    apply Option.ext;intro q;rw[Zhx,Zhx];have hj:((k,x).1==j)=false:=by simpa using e
    have hj':((l[i]).1==j)=false:=by rw[hk'];simpa using e
    constructor
    ·grind
    ·grind
   rw[this];cases hq:l.findIdx? (·.1==j)with
   |none=>rfl
   |some q=>
    obtain⟨h1,h2,_⟩:=Zhx.1 hq
    grind
structure Ck where
 h:Hp
 o1:List Ob
 o2:List Ob
 o3:List Ob
 o4:List Ob
 pm:List (Int×Int)
 lm:List (Int×(Int×Int))
def Ck.obs(s:Ck)(k:Int):List Ob:=if k=1 then s.o1 else if k=2 then s.o2 else if k=3 then s.o3 else s.o4
def ckL(s:Ck):List V:=[vu s.h.base,vi s.h.cap,vi s.h.to,.bool s.h.cycle,vi s.h.scan,.sl (s.h.low.map vu),.sl (s.h.high.map vu),.sl (s.h.old.map vu),.sl (s.h.far.map vu),.sl (s.h.roots.map vu),
 vu s.h.base,vi s.h.cap,vi s.h.to,vi s.h.low.length,vi s.h.high.length,vi s.h.old.length,vi s.h.far.length,
 .sl (s.o1.map obV),.sl (s.o2.map obV),.sl (s.o3.map obV),.sl (s.o4.map obV),mpA vi s.pm,mpA shP s.lm]
def ckP(s:Ck):V:=.ptr (ckL s)
def jE:IntKind.i64.wrap 0=0:=by decide
def K9:IntKind.i64.wrap 1=1:=by decide
def Sm:IntKind.i64.wrap 2=2:=by decide
def Rg:IntKind.i64.wrap 3=3:=by decide
def Z2N{s:Ck}{k:Int}(hk:1<=k/\k<=4):VC Sol.prog 118 false [ckP s,vi k] (.sl ((Zm s.h k).map vu)):=by
 refine Z9 Sol.func118 follows (by kernel_rfl) c118 rfl ?_;have:k=1\/k=2\/k=3\/k=4:=by omega
 rcases this with rfl|rfl|rfl|rfl<;>simp[p118,ckP,ckL,Zm,aiV,jE,K9,Sm,Rg]
def Zx(s:Ck)(w first last:Int):Bool:=decide (w=0)||(decide ((adr w).2=0)&&match getA s.pm (adr w).1 with
 |some k=>decide (first<=k)&&decide (k<=last)
 |none=>false)
def U1{s:Ck}{w first last:Int}(hw:U64 w):VC Sol.prog 122 false [ckP s,vu w,vi first,vi last] (.bool (Zx s w first last)):=by
 refine Z9 Sol.func122 follows (by kernel_rfl) c122 rfl ?_;unfold Zx;by_cases h0:w=0
 ·simp[p122,h0]
 simp[p122,h0,ckP,ckL];refine Z1 (ye hw) (by simp) ?_;by_cases h1:(adr w).2=0
 case neg=>simp[h1]
 simp[h1,Z0H];cases hg:getA s.pm (adr w).1 with
 |none=>simp
 |some k=>
  simp_all
def YZ(h:Hp)(k:Int):List (Int×Int)->List Ob->List (Int×Int)
 |m,[]=>m
 |m,o::l=>YZ h k (putA m (ZI (layH h) k o.at_).1 k) l
def ZY(h:Hp)(k:Int):List (Int×(Int×Int))->List Ob->List (Int×(Int×Int))
 |m,[]=>m
 |m,o::l=>ZY h k (if k=1 then putA m (ZI (layH h) k o.at_).1 (o.size,o.ptrs)else m) l
def Ck.put(s:Ck)(k:Int)(l:List Ob):Ck:=if k=1 then {s with o1:=l}else if k=2 then {s with o2:=l}else if k=3 then {s with o3:=l}else {s with o4:=l}
def XG(s:Ck)(k:Int)(l:List Ob):Ck:= {s.put k l with pm:=YZ s.h k s.pm l,lm:=ZY s.h k s.lm l}
def Wb{h:Hp}{k:Int}:∀ {l:List Ob} {i:Nat} {o:Ob} {m:List (Int×Int)},l[i]?=some o->YZ h k m (l.take (i+1))=putA (YZ h k m (l.take i)) (ZI (layH h) k o.at_).1 k
 | [],_,_,_,h=>by simp at h
 |x::l,0,o,m,h=>by simp_all[YZ]
 |x::l,i+1,o,m,h=>by
  simp_all[ZjT,YZ,Wb]
def Wa{h:Hp}{k:Int}:∀ {l:List Ob} {i:Nat} {o:Ob} {m:List (Int×(Int×Int))},l[i]?=some o->ZY h k m (l.take (i+1))=if k=1 then putA (ZY h k m (l.take i)) (ZI (layH h) k o.at_).1 (o.size,o.ptrs)else ZY h k m (l.take i)
 | [],_,_,_,h=>by simp at h
 |x::l,0,o,m,h=>by simp_all[ZY]
 |x::l,i+1,o,m,h=>by
  simp_all[ZjT,ZY,Wa]
abbrev ckK:List CK:=[.fz,.fz,.fz,.fz,.fz,.fz,.fz,.fz,.fz,.fz,.fz,.fz,.fz,.fz,.fz,.fz,.fz,.fz,.fz,.fz,.fz,.own 84,.own 115]
@[simp] theorem Zfs(s:Ck)(k:Int)(l:List Ob):(s.put k l).h=s.h:=by
 unfold Ck.put;split
 ·rfl
 split
 ·rfl
 split<;>rfl
def zy{l:List (Int×Int)}{k x:Int}:Js (.i .u64) (mpA vi l) (vu k) (vi x)=some (mpA vi (putA l k x)):=Jt
def Qi{l:List (Int×(Int×Int))}{k a b:Int}:Js (.i .u64) (mpA shP l) (vu k) (.agg [vi a,vi b])=some (mpA shP (putA l k (a,b))):=Jt (f:=shP) (x:=(a,b))
def Qj{s:Ck}(hh:s.h.ok){k:Int}(hk:1<=k/\k<=4){l:List Ob}(hl:l.length<=1000000):VCM Sol.prog 121 [.mem ckK,.fz,.fz] [.agg (ckL s),vi k,.sl (l.map obV)] (.tup [.tup [],.agg (ckL (XG s k l))]):=by
 refine WY Sol.func121 follows (by kernel_rfl) c121 (by kernel_rfl) ?_;have k4:k=1\/k=2\/k=3\/k=4:=by omega
 have hlim:l.length<=lim:=by unfold lim;omega
 have h0:∀k,({s.put k l with pm:=s.pm,lm:=s.lm}:Ck)=s.put k l:=by
  intro k;unfold Ck.put;split
  ·rfl
  split
  ·rfl
  split<;>rfl
 have ka:=λ(k at_:Int)=>Z1B hh.lay (part:=k) (at_:=at_);unfold layH lyV at ka;rcases k4 with rfl|rfl|rfl|rfl
 ·simp[p121,ckL,aiV,QJ,jE,K9,Sm,Rg,ZA];refine YJ 3 l.length (λi=>[(0,.m (ckL {s.put 1 l with pm:=YZ s.h 1 s.pm (l.take i),lm:=ZY s.h 1 s.lm (l.take i)})),(3,.v (vi i))]) (λ_=>True) (by simp[ckL,Ck.put,YZ,ZY]) (by simp) trivial ?_;intro i hi _;have hwi:=Z6 ((i:Int)+1) (by omega) (by omega);by_cases hlt:i<l.length
  ·have hx:l[i]?=some l[i]:=ZgJ hlt;have e1:=Wb (h:=s.h) (k:=1) (m:=s.pm) hx;have e2:=Wa (h:=s.h) (k:=1) (m:=s.lm) hx;have ko:=ka 1 (l[i]).at_;simp[hlt,hx,hwi,ckL,idxV];refine Z1 ko (by simp) ?_;simp[zy,Qi,e1,e2,hwi,hlt]
   first|done|rfl|exact⟨rfl,rfl⟩
  ·have:i=l.length:=by omega
   subst this;simp[ckL,XG,Zhi]
 ·simp[p121,ckL,aiV,QJ,jE,K9,Sm,Rg,ZA];refine YJ 3 l.length (λi=>[(0,.m (ckL {s.put 2 l with pm:=YZ s.h 2 s.pm (l.take i),lm:=ZY s.h 2 s.lm (l.take i)})),(3,.v (vi i))]) (λ_=>True) (by simp[ckL,Ck.put,YZ,ZY]) (by simp) trivial ?_;intro i hi _;have hwi:=Z6 ((i:Int)+1) (by omega) (by omega);by_cases hlt:i<l.length
  ·have hx:l[i]?=some l[i]:=ZgJ hlt;have e1:=Wb (h:=s.h) (k:=2) (m:=s.pm) hx;have e2:=Wa (h:=s.h) (k:=2) (m:=s.lm) hx;have ko:=ka 2 (l[i]).at_;simp[hlt,hx,hwi,ckL,idxV];refine Z1 ko (by simp) ?_;simp[zy,Qi,e1,e2,hwi,hlt]
   first|done|rfl|exact⟨rfl,rfl⟩
  ·have:i=l.length:=by omega
   subst this;simp[ckL,XG,Zhi]
 ·simp[p121,ckL,aiV,QJ,jE,K9,Sm,Rg,ZA];refine YJ 3 l.length (λi=>[(0,.m (ckL {s.put 3 l with pm:=YZ s.h 3 s.pm (l.take i),lm:=ZY s.h 3 s.lm (l.take i)})),(3,.v (vi i))]) (λ_=>True) (by simp[ckL,Ck.put,YZ,ZY]) (by simp) trivial ?_;intro i hi _;have hwi:=Z6 ((i:Int)+1) (by omega) (by omega);by_cases hlt:i<l.length
  ·have hx:l[i]?=some l[i]:=ZgJ hlt;have e1:=Wb (h:=s.h) (k:=3) (m:=s.pm) hx;have e2:=Wa (h:=s.h) (k:=3) (m:=s.lm) hx;have ko:=ka 3 (l[i]).at_;simp[hlt,hx,hwi,ckL,idxV];refine Z1 ko (by simp) ?_;simp[zy,Qi,e1,e2,hwi,hlt]
   first|done|rfl|exact⟨rfl,rfl⟩
  ·have:i=l.length:=by omega
   subst this;simp[ckL,XG,Zhi]
 ·simp[p121,ckL,aiV,QJ,jE,K9,Sm,Rg,ZA];refine YJ 3 l.length (λi=>[(0,.m (ckL {s.put 4 l with pm:=YZ s.h 4 s.pm (l.take i),lm:=ZY s.h 4 s.lm (l.take i)})),(3,.v (vi i))]) (λ_=>True) (by simp[ckL,Ck.put,YZ,ZY]) (by simp) trivial ?_;intro i hi _;have hwi:=Z6 ((i:Int)+1) (by omega) (by omega);by_cases hlt:i<l.length
  ·have hx:l[i]?=some l[i]:=ZgJ hlt;have e1:=Wb (h:=s.h) (k:=4) (m:=s.pm) hx;have e2:=Wa (h:=s.h) (k:=4) (m:=s.lm) hx;have ko:=ka 4 (l[i]).at_;simp[hlt,hx,hwi,ckL,idxV];refine Z1 ko (by simp) ?_;simp[zy,Qi,e1,e2,hwi,hlt]
   first|done|rfl|exact⟨rfl,rfl⟩
  ·have:i=l.length:=by omega
   subst this;simp[ckL,XG,Zhi]
end Vm
namespace Vm
open Go Go.Proofs
def boxP(s:Ck):V:=.ptr [ckP s]
def Z1m{s:Ck}{a w:Int}(hw:U64 w):VC Sol.prog 124 false [vi a,vu w,boxP s] (.bool (Zx s w 1 2)):=by
 refine Z9 Sol.func124 follows (by kernel_rfl) c124 rfl ?_;have k:=U1 (s:=s) (first:=1) (last:=2) hw;unfold boxP ckP at*;simp[p124,oneV,V.one];refine Z1 k (by simp) ?_;simp
def Z1n{s:Ck}{a w:Int}(hw:U64 w):VC Sol.prog 125 false [vi a,vu w,boxP s] (.bool (decide (s.h.scan<=a)||Zx s w 1 2)):=by
 refine Z9 Sol.func125 follows (by kernel_rfl) c125 rfl ?_;have k:=U1 (s:=s) (first:=1) (last:=2) hw;unfold boxP ckP at*;by_cases h:s.h.scan<=a
 ·simp[p125,oneV,V.one,ckL,h]
 ·simp[p125,oneV,V.one,ckL,h];refine Z1 k (by simp[ckL]) ?_;simp[h]
def zZ{s:Ck}{a w:Int}(hw:U64 w):VC Sol.prog 126 false [vi a,vu w,boxP s] (.bool (decide (a<s.h.scan)||Zx s w 1 4)):=by
 refine Z9 Sol.func126 follows (by kernel_rfl) c126 rfl ?_;have k:=U1 (s:=s) (first:=1) (last:=4) hw;unfold boxP ckP at*;by_cases h:a<s.h.scan
 ·simp[p126,oneV,V.one,ckL,h]
 ·simp[p126,oneV,V.one,ckL,h];refine Z1 k (by simp[ckL]) ?_;simp[h]
def Z27{s:Ck}{a w:Int}(hw:U64 w):VC Sol.prog 127 false [vi a,vu w,boxP s] (.bool (Zx s w 3 4)):=by
 refine Z9 Sol.func127 follows (by kernel_rfl) c127 rfl ?_;have k:=U1 (s:=s) (first:=3) (last:=4) hw;unfold boxP ckP at*;simp[p127,oneV,V.one];refine Z1 k (by simp) ?_;simp
structure Ck.ok (s:Ck):Prop where
 h:s.h.ok
 ob:∀k,∀o∈s.obs k,ObIn (Zm s.h k).length o/\U64 o.target
 len:∀k,(s.obs k).length<=1000000
def Wu(ws:List Int)(k:Nat):Int:=(ws[k]?).getD 0
def obQ(s:Ck)(k:Int)(q:Int->Int->Bool)(o:Ob):Bool:=o.gone||(List.range o.ptrs.toNat).all λj=>q ((o.at_.toNat+1+j:Nat):Int) (Wu (Zm s.h k) (o.at_.toNat+1+j))
def Vz(s:Ck)(k:Int)(q:Int->Int->Bool):Bool:=(s.obs k).all (obQ s k q)
def Xv{s:Ck}(hs:s.ok){k:Int}(hk:1<=k/\k<=4){f:FuncId}{cs:List V}{q:Int->Int->Bool}(hq:∀a w,U64 w->VC Sol.prog f false ([vi a,vu w]++cs) (.bool (q a w))):
  VC Sol.prog 123 false [ckP s,vi k,.clo f cs] (.bool (Vz s k q)):=by
 refine Z9 Sol.func123 follows (by kernel_rfl) c123 rfl ?_;simp[-List.all_eq_true,-List.all_eq_false,p123];refine Z1 (Z2N hk) (by simp) ?_;have hpt:fldV (.agg [.sl (s.o1.map obV),.sl (s.o2.map obV),.sl (s.o3.map obV),.sl (s.o4.map obV)]) 0=some (.sl (s.o1.map obV)):=rfl;have hlen:=hs.len k;have hob:=hs.ob k;have hw:=(ZK hs.h k).1;have hpl:=(ZK hs.h k).2
 have hai:aiV (.agg [.sl (s.o1.map obV),.sl (s.o2.map obV),.sl (s.o3.map obV),.sl (s.o4.map obV)]) (.int .i64 (IntKind.i64.wrap (k-1))) 4 1 true=some (.agg [.sl ((s.obs k).map obV)]):=by
  have:k=1\/k=2\/k=3\/k=4:=by omega
  rcases this with rfl|rfl|rfl|rfl<;>simp[aiV,Ck.obs,jE,K9,Sm,Rg]
 unfold Vz;generalize hL:s.obs k=L at*;generalize hW:Zm s.h k=ws at*;simp[-List.all_eq_true,-List.all_eq_false,ckP,ckL,hai];refine Qw 5 L.length (λi=>(L.take i).all (obQ s k q)=true) (by simp) (by simp) (by simp) ?_;intro i hi hall;have hwi:=Z6 ((i:Int)+1) (by omega) (by omega);by_cases hlt:i<L.length
 ·have hx:L[i]?=some L[i]:=ZgJ hlt;obtain⟨⟨⟨a,ha,hfit⟩,hsh⟩,_⟩:=hob _ (ZgZ hlt);generalize L[i]=o at*;obtain⟨s1,s2,s3,s4⟩:=Zf.1 hsh;obtain⟨m,hm⟩:=Zh4 s3;have hwa:=Z6 ((a:Int)+1) (by omega) (by omega);have hnext:obQ s k q o=true->(L.take (i+1)).all (obQ s k q)=true:=λh=>by simp_all[Z1C]
  have hex:obQ s k q o=false->L.all (obQ s k q)=false:=λhno=>Z8S hx hno;cases hg:o.gone
  ·have hobp:obQ s k q o=(List.range m).all λj=>q ((a+1+j:Nat):Int) (Wu ws (a+1+j)):=by
    unfold obQ;rw[hm,ha,hW,hg];rfl
   simp[-List.all_eq_true,-List.all_eq_false,hlt,hx,ZZ hx,idxV,hg,ha,hm];refine Qw 11 m (λj=>((List.range j).all λj=>q ((a+1+j:Nat):Int) (Wu ws (a+1+j)))=true) (by simp) (by simp) (by simp) ?_;intro j hj hal;have hwj:=Z6 ((j:Int)+1) (by omega) (by omega);by_cases hjm:j<m
   ·obtain⟨w,hmw,hu⟩:∃w,ws[a+1+j]?=some w/\U64 w:=⟨_,ZgJ (by omega),hw _ (ZgZ _)⟩;have hww:Wu ws (a+1+j)=w:=by unfold Wu;rw[hmw];rfl
    have hsucc:((List.range (j+1)).all λj=>q ((a+1+j:Nat):Int) (Wu ws (a+1+j)))=(((List.range j).all λj=>q ((a+1+j:Nat):Int) (Wu ws (a+1+j)))&&q ((a+1+j:Nat):Int) w):=by
     rw[ZiA,Zky];simp[hww]
    have hno:q ((a+1+j:Nat):Int) w=false->L.all (obQ s k q)=false:=λhno=>hex (by
     grind)
    obtain⟨n,hn⟩:∃n,a+1+j=n:=⟨_,rfl⟩;have hn1:(a:Int)+1+(j:Int)=(n:Int):=by omega
    have hwn:=Z6 (n:Int) (by omega) (by omega);rw[hn]at hmw hsucc hno;have kq:=hq (n:Int) w hu;simp[-List.all_eq_true,-List.all_eq_false,hjm,hwa,hn1,hwn,hmw,ZZ hmw,idxV];refine Z1 kq (by simp) ?_;simp_all
   ·have:j=m:=by omega
    simp_all
  ·have hobp:obQ s k q o=true:=by unfold obQ;rw[hg];rfl
   simp_all
 ·have:i=L.length:=by omega
  simp_all
@[simp] theorem Zfp(l:List V):(V.ptr l).one=true:=rfl
@[simp] theorem ZeA(l:List V):oneV (.ptr l)=some (.ptr l):=rfl
@[simp] theorem Zfn(f:FuncId)(l:List V):(V.clo f l).one=true:=rfl
@[simp] theorem Zey(f:FuncId)(l:List V):oneV (.clo f l)=some (.clo f l):=rfl
@[simp] theorem Zex(s:Ck):oneV (ckP s)=some (ckP s):=rfl
@[simp] theorem Zfm(s:Ck):(ckP s).one=true:=rfl
@[simp] theorem ZdI(s:Ck):K3 (ckP s)=some (.agg (ckL s)):=rfl
@[simp] theorem Zee(s:Ck):(ckL s)[4]?=some (vi s.h.scan):=rfl
@[simp] theorem Zbw(s:Ck):(ckL s)[3]?=some (.bool s.h.cycle):=rfl
@[simp] theorem Zbx(s:Ck):(ckL s)[9]?=some (.sl (s.h.roots.map vu)):=rfl
@[simp] theorem Zf2(s:Ck):(ckL s)[5]?=some (.sl (s.h.low.map vu)):=rfl
@[simp] theorem Zed(s:Ck):(ckL s)[6]?=some (.sl (s.h.high.map vu)):=rfl
@[simp] theorem Zf3(s:Ck):(ckL s)[7]?=some (.sl (s.h.old.map vu)):=rfl
@[simp] theorem Zf0(s:Ck):(ckL s)[8]?=some (.sl (s.h.far.map vu)):=rfl
@[simp] theorem ZeZ(s:Ck):(ckL s)[1]?=some (vi s.h.cap):=rfl
def Vu(s:Ck):Bool:=s.h.roots.all (λw=>Zx s w 1 2)&&(Vz s 2 (λ_ w=>Zx s w 1 2)&&Vz s 1 (λa w=>decide (s.h.scan<=a)||Zx s w 1 2))
def Z40{s:Ck}(hs:s.ok):VC Sol.prog 107 false [ckP s] (.bool (Vu s)):=by
 refine Z9 Sol.func107 follows (by kernel_rfl) c107 rfl ?_;have k1:=Xv hs (k:=2) (by omega) (f:=124) (cs:=[boxP s]) (q:=λ_ w=>Zx s w 1 2) (λa w hw=>Z1m hw);have k2:=Xv hs (k:=1) (by omega) (f:=125) (cs:=[boxP s]) (q:=λa w=>decide (s.h.scan<=a)||Zx s w 1 2) (λa w hw=>Z1n hw);have k0:=λw (hw:U64 w)=>U1 (s:=s) (first:=1) (last:=2) hw;have hrl:=hs.h.roots;have hrw:=hs.h.rootsW;unfold Vu;unfold boxP at k1 k2;generalize Vz s 2 (λ_ w=>Zx s w 1 2)=b1 at*;generalize Vz s 1 (λa w=>decide (s.h.scan<=a)||Zx s w 1 2)=b2 at*;simp[-List.all_eq_true,-List.all_eq_false,p107];refine Qw 3 s.h.roots.length (λi=>(s.h.roots.take i).all (λw=>Zx s w 1 2)=true) (by simp) (by simp) (by simp) ?_;intro i hi hall;have hwi:=Z6 ((i:Int)+1) (by omega) (by omega);by_cases hlt:i<s.h.roots.length
 ·have hx:s.h.roots[i]?=some s.h.roots[i]:=ZgJ hlt;have hu:=hrw _ (ZgZ hlt);generalize s.h.roots[i]=w at*;have hex:Zx s w 1 2=false->s.h.roots.all (λw=>Zx s w 1 2)=false:=λhno=>Z8S hx hno;have hnext:=Z1C (q:=λw=>Zx s w 1 2) hx;rw[hall]at hnext;simp[-List.all_eq_true,-List.all_eq_false,hlt,hx,ZZ hx,idxV];refine Z1 (k0 w hu) (by simp) ?_;cases hv:Zx s w 1 2
  ·simp[-List.all_eq_true,-List.all_eq_false,hex hv]
  ·rw[hv]at hnext;simp[-List.all_eq_true,-List.all_eq_false,hwi,hlt,hnext]
 ·have:i=s.h.roots.length:=by omega
  subst this;rw[Zib]at hall;simp[-List.all_eq_true,-List.all_eq_false,hall];refine Z1 k1 (by simp[flV,V.flatc]) ?_;cases b1
  ·simp
  ·simp;refine Z1 k2 (by simp[flV,V.flatc]) ?_;simp
def Xp(s:Ck):Bool:=Vz s 1 (λa w=>decide (a<s.h.scan)||Zx s w 1 4)
def jC{s:Ck}(hs:s.ok):VC Sol.prog 108 false [ckP s] (.bool (Xp s)):=by
 refine Z9 Sol.func108 follows (by kernel_rfl) c108 rfl ?_;have k1:=Xv hs (k:=1) (by omega) (f:=126) (cs:=[boxP s]) (q:=λa w=>decide (a<s.h.scan)||Zx s w 1 4) (λa w hw=>zZ hw);unfold Xp;unfold boxP at k1;simp[p108];refine Z1 k1 (by simp[flV,V.flatc]) ?_;simp
def Z0G(s:Ck):Bool:=Vz s 3 (λ_ w=>Zx s w 3 4)&&Vz s 4 (λ_ w=>Zx s w 3 4)
def Za8{s:Ck}(hs:s.ok):VC Sol.prog 109 false [ckP s] (.bool (Z0G s)):=by
 refine Z9 Sol.func109 follows (by kernel_rfl) c109 rfl ?_;have k1:=Xv hs (k:=3) (by omega) (f:=127) (cs:=[boxP s]) (q:=λ_ w=>Zx s w 3 4) (λa w hw=>Z27 hw);have k2:=Xv hs (k:=4) (by omega) (f:=127) (cs:=[boxP s]) (q:=λ_ w=>Zx s w 3 4) (λa w hw=>Z27 hw);unfold Z0G;unfold boxP at k1 k2;generalize Vz s 3 (λ_ w=>Zx s w 3 4)=b1 at*;generalize Vz s 4 (λ_ w=>Zx s w 3 4)=b2 at*;simp[p109];refine Z1 k1 (by simp[flV,V.flatc]) ?_;cases b1
 ·simp
 ·simp;refine Z1 k2 (by simp[flV,V.flatc]) ?_;simp
end Vm
namespace Vm
open Go Go.Proofs
def Wj(s:Ck):Bool:=Zl (layH s.h)&&(decide (s.h.roots.length<=16)&&(decide (0<=s.h.scan)&&decide (s.h.scan<=s.h.low.length)))
def Z2Z{s:Ck}(hs:s.h.ok):VC Sol.prog 103 false [ckP s] (.bool (Wj s)):=by
 refine Z9 Sol.func103 follows (by kernel_rfl) c103 rfl ?_;have k:=jj hs.lay;unfold Wj;unfold layH lyV at k;simp[p103];simp[ckL];refine Z1 k (by simp) ?_;have e:Zl {base:=s.h.base,cap:=s.h.cap,to:=s.h.to,low:=(s.h.low.length:Int),high:=(s.h.high.length:Int),old:=(s.h.old.length:Int),far:=(s.h.far.length:Int)}=Zl (layH s.h):=rfl;rw[e];cases Zl (layH s.h)
 ·simp
 by_cases h1:s.h.roots.length<=16
 ·have h1':(s.h.roots.length:Int)<=16:=by omega
  simp_all
 ·have h1':¬(s.h.roots.length:Int)<=16:=by omega
  simp[h1,h1']
def Vr(s:Ck):Bool:=if s.h.cycle then decide (s.h.scan<s.h.low.length)else decide (s.h.old.length=0)&&(decide (s.h.far.length=0)&&decide (s.h.scan=s.h.low.length))
def Z3T{s:Ck}:VC Sol.prog 104 false [ckP s] (.bool (Vr s)):=by
 refine Z9 Sol.func104 follows (by kernel_rfl) c104 rfl ?_;unfold Vr;cases hc:s.h.cycle
 ·by_cases h1:s.h.old.length=0
  ·have h1':s.h.old=[]:=Zjo.1 h1;by_cases h2:s.h.far.length=0
   ·have h2':s.h.far=[]:=Zjo.1 h2;simp[p104,hc,h1',h2']
   ·have h2':¬s.h.far=[]:=λe=>h2 (by simp[e]);simp[p104,hc,h1',h2,h2']
  ·have h1':¬s.h.old=[]:=λe=>h1 (by simp[e]);simp[p104,hc,h1,h1']
 ·simp[p104,hc]
def y6(s:Ck):Nat:=wtL s.o3+wtL s.o4
@[simp] theorem ZgA(s:Ck):((ckL s).drop 17).take 4=[.sl (s.o1.map obV),.sl (s.o2.map obV),.sl (s.o3.map obV),.sl (s.o4.map obV)]:=rfl
@[simp] theorem Zf1(s:Ck):(ckL s).length=23:=rfl
def Ka{s:Ck}(hs:s.ok):VC Sol.prog 52 false [ckP s] (vi (y6 s)):=by
 refine Z9 Sol.func52 follows (by kernel_rfl) c52 rfl ?_;have hsh:∀k,∀o∈s.obs k,Zs o.size o.ptrs=true:=λk o ho=>(hs.ob k o ho).1.2;have hl3:s.o3.length<=1000000:=hs.len 3;have hl4:s.o4.length<=1000000:=hs.len 4;have hs3:∀o∈s.o3,Zs o.size o.ptrs=true:=hsh 3;have hs4:∀o∈s.o4,Zs o.size o.ptrs=true:=hsh 4;have hb3:=Lz hs3;have hb4:=Lz hs4;have a3:aiV (.agg [.sl (s.o1.map obV),.sl (s.o2.map obV),.sl (s.o3.map obV),.sl (s.o4.map obV)]) (.int .i64 2) 4 1 true=some (.agg [.sl (s.o3.map obV)]):=by simp[aiV]
 have a4:aiV (.agg [.sl (s.o1.map obV),.sl (s.o2.map obV),.sl (s.o3.map obV),.sl (s.o4.map obV)]) (.int .i64 3) 4 1 true=some (.agg [.sl (s.o4.map obV)]):=by simp[aiV]
 simp[p52];refine Xw (λ(i:Nat)=>[(2,.v (vi ((if 0<i then wtL s.o3 else 0)+(if 1<i then wtL s.o4 else 0):Nat))),(3,.v (vi ((i+3:Nat):Int)))]) (λi=>i<=2) (cnt 3 5) 0 (by simp) (by simp) ?_;rintro i hi;have hi':i=0\/i=1\/i=2:=by omega
 rcases hi' with rfl|rfl|rfl
 ·simp[Sm,a3];refine YJ 5 s.o3.length (λj=>[(2,.v (vi (wtL (s.o3.take j)))),(5,.v (vi j))]) (λ_=>True) (by simp[wtL]) (λi=>by simp) trivial ?_;rintro j hj-;have hwj:=Z6 ((j:Int)+1) (by omega) (by omega);by_cases h1:j<s.o3.length
  ·have hx:s.o3[j]?=some s.o3[j]:=ZgJ h1;have hsx:=hs3 _ (ZgZ h1);have hsc:=Z2R hx;generalize s.o3[j]=o at*
   have hle:wtL (s.o3.take j)<=256*s.o3.length:=by
    refine Zhc (Lz λo ho=>hs3 o (ZhB ho)) ?_;simp;omega
   obtain⟨g1,g2,g3,g4⟩:=Zf.1 hsx;obtain⟨z,hz⟩:=Zh4 g1;have w1:=Z6 (1+(z:Int)) (by omega) (by omega);have w2:=Z6 ((wtL (s.o3.take j):Int)+(1+z)) (by omega) (by omega);cases hg:o.gone
   ·have hwo:wtO o=1+z:=by simp[wtO,hg,hz]
    simp_all
   ·have hwo:wtO o=0:=by simp[wtO,hg]
    simp_all
  ·have:j=s.o3.length:=by omega
   subst this;rw[Zib];simp[idxV,Z6];exact⟨1,by omega,by simp,by simp[cnt]⟩
 ·simp[Rg,a4];refine YJ 5 s.o4.length (λj=>[(2,.v (vi (wtL s.o3+wtL (s.o4.take j):Nat))),(5,.v (vi j))]) (λ_=>True) (by simp[wtL]) (λi=>by simp) trivial ?_;rintro j hj-;have hwj:=Z6 ((j:Int)+1) (by omega) (by omega);by_cases h1:j<s.o4.length
  ·have hx:s.o4[j]?=some s.o4[j]:=ZgJ h1;have hsx:=hs4 _ (ZgZ h1);have hsc:=Z2R hx;generalize s.o4[j]=o at*
   have hle:wtL (s.o4.take j)<=256*s.o4.length:=by
    refine Zhc (Lz λo ho=>hs4 o (ZhB ho)) ?_;simp;omega
   obtain⟨g1,g2,g3,g4⟩:=Zf.1 hsx;obtain⟨z,hz⟩:=Zh4 g1;have w1:=Z6 (1+(z:Int)) (by omega) (by omega);have w2:=Z6 ((wtL s.o3:Int)+wtL (s.o4.take j)+(1+z)) (by omega) (by omega);cases hg:o.gone
   ·have hwo:wtO o=1+z:=by simp[wtO,hg,hz]
    simp_all;omega
   ·have hwo:wtO o=0:=by simp[wtO,hg]
    simp_all
  ·have:j=s.o4.length:=by omega
   subst this;rw[Zib];simp[idxV,Z6];exact⟨2,by omega,by simp,by simp[cnt]⟩
 ·simp[y6]
def JQ(s:Ck):Bool:=decide ((s.h.low.length:Int)+s.h.high.length+y6 s<=s.h.cap)
def Z8M{s:Ck}(hs:s.ok):y6 s<=512*1000000:=by
 have hb3:=Lz (l:=s.o3) λo ho=>(hs.ob 3 o ho).1.2;have hb4:=Lz (l:=s.o4) λo ho=>(hs.ob 4 o ho).1.2;have hl3:s.o3.length<=1000000:=hs.len 3;have hl4:s.o4.length<=1000000:=hs.len 4
 grind [y6]
def Z8o{s:Ck}(hs:s.ok):VC Sol.prog 110 false [ckP s] (.bool (JQ s)):=by
 refine Z9 Sol.func110 follows (by kernel_rfl) c110 rfl ?_;have h1:=Z8M hs;have h2:=hs.h.low;have h3:=hs.h.high;have w1:=Z6 ((s.h.low.length:Int)+s.h.high.length) (by omega) (by omega);have w2:=Z6 ((s.h.low.length:Int)+s.h.high.length+y6 s) (by omega) (by omega);simp[p110];refine Z1 (Ka hs) (by simp) ?_;simp[w1,w2,JQ]
end Vm
namespace Vm
open Go Go.Proofs
def Yn(lm:List (Int×(Int×Int)))(ws:List Int):Nat->Nat->List (Int×Int)->List (Int×Int)
 |0,_,acc=>acc
 |f+1,i,acc=>
  match ws[i]? with
  |none=>acc
  |some w=>if(adr w).2=0 then(match getA lm (adr w).1 with|none=>acc|some sh=>Yn lm ws f (i+1+sh.1.toNat) (acc++[sh]))
   else if(unpk w).2.2=0 then Yn lm ws f (i+1+(unpk w).1.toNat) acc else acc
def Xc(lm:List (Int×(Int×Int)))(ws:List Int):List (Int×Int):=Yn lm ws (ws.length+1) 0 []
def Z20{α:Type}{l:List (Int×α)}{k:Int}{x:α}(h:getA l k=some x):(k,x)∈l:=by
 unfold getA at h;obtain⟨y,hy,rfl⟩:=ZgK.1 h
 grind
def Z41{s:Ck}(hlm:∀x∈s.lm,Zs x.2.1 x.2.2=true){ws:List Int}(hl:ws.length<=1000000)(hw:∀w∈ws,U64 w):
  VC Sol.prog 120 false [ckP s,.sl (ws.map vu)] (.sl ((Xc s.lm ws).map shP)):=by
 refine Z9 Sol.func120 follows (by kernel_rfl) c120 rfl ?_
 have hlk:∀k,lkV (.i .u64) (mpA shP s.lm) (vu k) (.agg [vi 0,vi 0]) true=match getA s.lm k with
  |some x=>some (.tup [shP x,.bool true])
  |none=>some (.tup [.agg [vi 0,vi 0],.bool false]):=λk=>by grind [Z0H,getA]
 have h22:(ckL s)[22]?=some (mpA shP s.lm):=rfl;simp[p120]
 refine Xw (λ(p:Nat×List (Int×Int))=>[(3,.v (.sl (p.2.map shP))),(4,.v (vi p.1))])
  (λp=>p.1<=ws.length+256/\p.2.length<=p.1/\∃f,ws.length<f+p.1/\0<f/\Xc s.lm ws=Yn s.lm ws f p.1 p.2) (cnt 4 ws.length) (0,[]) (by simp) ⟨by simp,by simp,ws.length+1,by simp,by omega,rfl⟩ ?_
 rintro⟨i,acc⟩ ⟨hi,hacc,f,hf,hf0,hR⟩;simp only at hi hacc hf hR;cases f with
 |zero=>omega
 |succ f=>
 by_cases hlt:i<ws.length
 ·have hx:ws[i]?=some ws[i]:=ZgJ hlt;have hu:=hw _ (ZgZ hlt);generalize ws[i]=w at*;simp only[Yn,hx]at hR;have hlim:acc.length+1<=lim:=by simp[lim];omega
  simp[hlt,hx,ZZ hx,idxV];refine Z1 (ye hu) (by simp) ?_;by_cases ha:(adr w).2=0
  ·rw[if_pos ha]at hR;simp[ha,h22,hlk];cases hat:getA s.lm (adr w).1 with
   |none=>
    simp_all
   |some sh=>
    rw[hat]at hR;simp only at hR;have hsh:0<=sh.1/\sh.1<=255/\0<=sh.2/\sh.2<=sh.1:=Zf.1 (hlm _ (Z20 hat));obtain⟨z,hz⟩:=Zh4 hsh.1;have hw1:=Z6 (1+(z:Int)) (by omega) (by omega);have hw2:=Z6 ((i:Int)+(1+z)) (by omega) (by omega);rw[hz,Zhl]at hR;simp[hlim,hz,hw1,hw2];refine⟨i+1+z,acc++[sh],⟨by omega,by simp;omega,f,by omega,?_,hR⟩,⟨by simp[shP,hz],by omega⟩,by simp[cnt];omega⟩;omega
  ·rw[if_neg ha]at hR;simp[ha,hx,ZZ hx,hlt,idxV];refine Z1 (Z6Y hu) (by simp) ?_;by_cases hun:(unpk w).2.2=0
   ·rw[if_pos hun]at hR;have hsh:=Zf.1 (Z6W hun);obtain⟨z,hz⟩:=Zh4 hsh.1;have hw1:=Z6 (1+(z:Int)) (by omega) (by omega);have hw2:=Z6 ((i:Int)+(1+z)) (by omega) (by omega);rw[hz,Zhl]at hR;simp[hun,hz,hw1,hw2];refine⟨i+1+z,acc,⟨by omega,by omega,f,by omega,?_,hR⟩,⟨rfl,by omega⟩,by simp[cnt];omega⟩;omega
   simp_all
 simp_all[Zi1,Yn]
end Vm
namespace Vm
open Go Go.Proofs
def copQ(pm:List (Int×Int)):List Ob->List (Int×Bool)->Option (List (Int×Bool))
 | [],m=>some m
 |o::l,m=>if o.gone=true then(if(getA pm o.target).getD 0=1/\(getA m o.target).getD false=false then copQ pm l (putA m o.target true)else none)else copQ pm l m
def Va(s:Ck):Bool:= !s.h.cycle||match(copQ s.pm s.o3 []).bind (copQ s.pm s.o4)with
 |none=>false
 |some m=>decide (m.length=s.o1.length)
def Z5V{l:List (Int×Bool)}{k:Int}{x:Bool}:Js (.i .u64) (mpA .bool l) (vu k) (.bool x)=some (mpA .bool (putA l k x)):=Jt
def Z3E{l:List (Int×Bool)}{k:Int}:lkV (.i .u64) (mpA .bool l) (vu k) (.bool false) false=some (.bool ((getA l k).getD false)):=by
 grind [Z0H,getA]
def Z3F{l:List (Int×Int)}{k:Int}:lkV (.i .u64) (mpA vi l) (vu k) (vi 0) false=some (vi ((getA l k).getD 0)):=by
 grind [Z0H,getA]
def Zai{α:Type}(f:α->V):mpA f []=.mp 0 [] []:=rfl
def Z3n{s:Ck}(hs:s.ok):VC Sol.prog 106 false [ckP s] (.bool (Va s)):=by
 refine Z9 Sol.func106 follows (by kernel_rfl) c106 rfl ?_;have hl3:s.o3.length<=1000000:=hs.len 3;have hl4:s.o4.length<=1000000:=hs.len 4;have hu3:∀o∈s.o3,U64 o.target:=λo ho=>(hs.ob 3 o ho).2;have hu4:∀o∈s.o4,U64 o.target:=λo ho=>(hs.ob 4 o ho).2;have a3:aiV (.agg [.sl (s.o1.map obV),.sl (s.o2.map obV),.sl (s.o3.map obV),.sl (s.o4.map obV)]) (.int .i64 2) 4 1 true=some (.agg [.sl (s.o3.map obV)]):=by simp[aiV]
 have a4:aiV (.agg [.sl (s.o1.map obV),.sl (s.o2.map obV),.sl (s.o3.map obV),.sl (s.o4.map obV)]) (.int .i64 3) 4 1 true=some (.agg [.sl (s.o4.map obV)]):=by simp[aiV]
 have a1:aiV (.agg [.sl (s.o1.map obV),.sl (s.o2.map obV),.sl (s.o3.map obV),.sl (s.o4.map obV)]) (.int .i64 0) 4 1 true=some (.agg [.sl (s.o1.map obV)]):=by simp[aiV]
 have h21:(ckL s)[21]?=some (mpA vi s.pm):=rfl;have hm0:=(Zai V.bool).symm;unfold Va;cases hc:s.h.cycle
 ·simp[p106,hc]
 simp[p106,hc,hm0]
 refine Xw (λ(p:Nat×List (Int×Bool))=>[(3,.v (mpA .bool p.2)),(4,.v (vi ((p.1+3:Nat):Int)))])
  (λp=>(p.1=0/\p.2=[])\/(p.1=1/\copQ s.pm s.o3 []=some p.2)\/(p.1=2/\(copQ s.pm s.o3 []).bind (copQ s.pm s.o4)=some p.2)) (cnt 4 5) (0,[]) (by simp) (by simp) ?_
 rintro⟨i,m⟩ (⟨rfl,rfl⟩|⟨rfl,hm⟩|⟨rfl,hm⟩)
 ·simp[Sm,a3];refine Xw (λ(p:Nat×List (Int×Bool))=>[(3,.v (mpA .bool p.2)),(6,.v (vi p.1))]) (λp=>p.1<=s.o3.length/\copQ s.pm s.o3 []=copQ s.pm (s.o3.drop p.1) p.2) (cnt 6 s.o3.length) (0,[]) (by simp) (by simp) ?_;rintro⟨j,mj⟩ ⟨hj,he⟩;simp only at hj he;have hwj:=Z6 ((j:Int)+1) (by omega) (by omega);by_cases h1:j<s.o3.length
  ·have hx:s.o3[j]?=some s.o3[j]:=ZgJ h1;have hd:=ZhF h1;have hut:=hu3 _ (ZgZ h1);generalize s.o3[j]=o at*;rw[hd,copQ]at he;cases hg:o.gone
   ·rw[hg]at he;rw[if_neg (by simp)]at he;simp[idxV,h1,hx,ZZ hx,hg,hwj];exact⟨j+1,mj,⟨by omega,he⟩,⟨rfl,by omega⟩,by simp[cnt];omega⟩
   ·rw[hg]at he;rw[if_pos rfl]at he;by_cases h2:(getA s.pm o.target).getD 0=1
    ·cases h3:(getA mj o.target).getD false
     ·rw[if_pos ⟨h2,h3⟩]at he;simp[idxV,h1,hx,ZZ hx,hg,hwj,h21,Z3F,Z3E,flV,V.flatc,h2,h3,Z5V];exact⟨j+1,putA mj o.target true,⟨by omega,he⟩,⟨rfl,by omega⟩,by simp[cnt];omega⟩
     ·rw[if_neg (by simp[h3])]at he;simp[idxV,h1,hx,ZZ hx,hg,hwj,h21,Z3F,Z3E,flV,V.flatc,h2,h3,he]
    ·rw[if_neg (by simp[h2])]at he;simp[idxV,h1,hx,ZZ hx,hg,hwj,h21,Z3F,Z3E,flV,V.flatc,h2,he]
  ·have:j=s.o3.length:=by omega
   subst this;rw[List.drop_length,copQ]at he;simp[Z6];exact⟨1,mj,by simp[he],by simp,by simp[cnt]⟩
 ·simp[Rg,a4];refine Xw (λ(p:Nat×List (Int×Bool))=>[(3,.v (mpA .bool p.2)),(6,.v (vi p.1))]) (λp=>p.1<=s.o4.length/\copQ s.pm s.o4 m=copQ s.pm (s.o4.drop p.1) p.2) (cnt 6 s.o4.length) (0,m) (by simp) (by simp) ?_;rintro⟨j,mj⟩ ⟨hj,he⟩;simp only at hj he;have hwj:=Z6 ((j:Int)+1) (by omega) (by omega);by_cases h1:j<s.o4.length
  ·have hx:s.o4[j]?=some s.o4[j]:=ZgJ h1;have hd:=ZhF h1;have hut:=hu4 _ (ZgZ h1);generalize s.o4[j]=o at*;rw[hd,copQ]at he;cases hg:o.gone
   ·rw[hg]at he;rw[if_neg (by simp)]at he;simp[idxV,h1,hx,ZZ hx,hg,hwj];exact⟨j+1,mj,⟨by omega,he⟩,⟨rfl,by omega⟩,by simp[cnt];omega⟩
   ·rw[hg]at he;rw[if_pos rfl]at he;by_cases h2:(getA s.pm o.target).getD 0=1
    ·cases h3:(getA mj o.target).getD false
     ·rw[if_pos ⟨h2,h3⟩]at he;simp[idxV,h1,hx,ZZ hx,hg,hwj,h21,Z3F,Z3E,flV,V.flatc,h2,h3,Z5V];exact⟨j+1,putA mj o.target true,⟨by omega,he⟩,⟨rfl,by omega⟩,by simp[cnt];omega⟩
     ·rw[if_neg (by simp[h3])]at he;simp[idxV,h1,hx,ZZ hx,hg,hwj,h21,Z3F,Z3E,flV,V.flatc,h2,h3,hm,he]
    ·rw[if_neg (by simp[h2])]at he;simp[idxV,h1,hx,ZZ hx,hg,hwj,h21,Z3F,Z3E,flV,V.flatc,h2,hm,he]
  ·have:j=s.o4.length:=by omega
   subst this;rw[List.drop_length,copQ]at he;simp[Z6];exact⟨2,mj,by grind,by simp,by simp[cnt]⟩
 ·simp[jE,Sm,a1]
  grind
end Vm
namespace Vm
open Go Go.Proofs
def QA:Prop:=∀ws:List Int,ws.length<=1000000->(∀w∈ws,U64 w)->VC Sol.prog 117 true [.sl (ws.map vu)] (.tup [.sl ((Zw ws [] false).1.map obV),vi (Zw ws [] false).2])
def XP:Prop:=∀(ws:List Int) (shs:List (Int×Int)),ws.length<=1000000->shs.length<=1000000->(∀w∈ws,U64 w)->(∀x∈shs,Zs x.1 x.2=true)->
 VC Sol.prog 119 true [.sl (ws.map vu),.sl (shs.map shP)] (.tup [.sl ((Zw ws shs true).1.map obV),vi (Zw ws shs true).2])
def Zy(s:Ck)(k:Int):List Ob×Int:=if k<=2 then Zw (Zm s.h k) [] false else Zw (Zm s.h k) (Xc s.lm (Zm s.h k)) true
def Yt:List Int->Ck->Bool×Ck
 | [],s=>(true,s)
 |k::l,s=>if(Zy s k).2=0 then Yt l (XG s k (Zy s k).1)else(false,s)
def ZW(s:Ck):Bool×Ck:=Yt [1,2,3,4] s
def Tf(s:Ck)(k:Int)(l:List Ob):(XG s k l).h=s.h:=Zfs s k l
def Z8f{α:Type}{l:List (Int×α)}{k:Int}{x:α}{y:Int×α}(h:y∈putA l k x):y=(k,x)\/y∈l:=by
 grind [putA,List.mem_or_eq_of_mem_set]
def WO{h:Hp}{k:Int}:∀ {l:List Ob} {m:List (Int×(Int×Int))},(∀o∈l,Zs o.size o.ptrs=true)->(∀x∈m,Zs x.2.1 x.2.2=true)->∀x∈ZY h k m l,Zs x.2.1 x.2.2=true
 | [],m,_,hm=>hm
 |o::l,m,ho,hm=>by
  rw[ZY];refine WO (λp hp=>ho p (Zhb _ hp)) ?_;split
  ·intro x hx;rcases Z8f hx with rfl|hx
   ·simp_all
   grind
  ·exact hm
def Wg{s:Ck}(hh:s.h.ok){k:Int}:(∀o∈(Zy s k).1,ObIn (Zm s.h k).length o/\U64 o.target)/\(Zy s k).1.length<=(Zm s.h k).length:=by
 unfold Zy;split
 ·exact⟨Z2M (ZK hh k).1,jG⟩
 ·exact⟨Z2M (ZK hh k).1,jG⟩
def Tl{lm:List (Int×(Int×Int))}{ws:List Int}:∀ {f i:Nat} {acc:List (Int×Int)},acc.length<=i->acc.length<=ws.length->(Yn lm ws f i acc).length<=ws.length
 |0,i,acc,_,h=>h
 |f+1,i,acc,hi,h=>by
  rw[Yn];cases hx:ws[i]? with
  |none=>exact h
  |some w=>
   have hlt:i<ws.length:=(ZgL.1 hx).1;simp only;split
   ·split
    ·exact h
    ·exact Tl (by simp;omega) (by simp;omega)
   ·split
    ·exact Tl (by omega) h
    ·exact h
def JX{lm:List (Int×(Int×Int))}{ws:List Int}:(Xc lm ws).length<=ws.length:=Tl (by simp) (by simp)
def Uy{lm:List (Int×(Int×Int))}{ws:List Int}(hlm:∀x∈lm,Zs x.2.1 x.2.2=true):∀ {f i:Nat} {acc:List (Int×Int)},(∀x∈acc,Zs x.1 x.2=true)->∀x∈Yn lm ws f i acc,Zs x.1 x.2=true
 |0,i,acc,h=>h
 |f+1,i,acc,h=>by
  rw[Yn];cases hx:ws[i]? with
  |none=>exact h
  |some w=>
   simp only;split
   ·split
    ·exact h
    ·rename_i sh hsh;refine Uy hlm ?_;intro x hx;rcases Zh9.1 hx with hx|hx
     ·grind
     ·simp at hx;subst hx;exact hlm _ (Z20 hsh)
   ·split
    ·exact Uy hlm h
    ·exact h
def Z8L:IntKind.i64.wrap 4=4:=by decide
def Z4m(hW:QA)(hWO:XP){s:Ck}(hh:s.h.ok)(hlm:∀x∈s.lm,Zs x.2.1 x.2.2=true):VCM Sol.prog 105 [.mem ckK] [.agg (ckL s)] (.tup [.bool (ZW s).1,.agg (ckL (ZW s).2)]):=by
 refine WY Sol.func105 follows (by kernel_rfl) c105 (by kernel_rfl) ?_;simp[p105];refine Xw (λ(p:Nat×Ck)=>[(0,.m (ckL p.2)),(3,.v (vi p.1))]) (λp=>p.1<=4/\p.2.h=s.h/\(∀x∈p.2.lm,Zs x.2.1 x.2.2=true)/\ZW s=Yt ([1,2,3,4].drop p.1) p.2) (cnt 3 4) (0,s) (by simp) ⟨by simp,rfl,hlm,rfl⟩ ?_;rintro⟨i,q⟩ ⟨hi,hq,hql,hR⟩;simp only at hi hq hql hR;have hqh:q.h.ok:=hq▸hh;have hi':i=0\/i=1\/i=2\/i=3\/i=4:=by omega
 have kw:=λk hk=>Z2N (s:=q) (k:=k) hk;have ks:=λk=>Z41 (s:=q) hql (ZK hqh k).2 (ZK hqh k).1;rcases hi' with rfl|rfl|rfl|rfl|rfl
 ·replace kw:=kw 1 (by omega);have st:=Wg hqh (k:=1);have kn:=Qj (s:=q) hqh (k:=1) (by omega) (l:=(Zy q 1).1) (Zhc st.2 (ZK hqh 1).2);have k1:=hW _ (ZK hqh 1).2 (ZK hqh 1).1;have hsh:=WO (h:=q.h) (k:=1) (l:=(Zy q 1).1) (m:=q.lm) (λo ho=>(st.1 o ho).1.2) hql;replace hR:ZW s=Yt (1:: [2,3,4]) q:=hR;rw[Yt]at hR;have hws:Zy q 1=Zw (Zm q.h 1) [] false:=rfl;rw[<-hws]at k1;generalize Zy q 1=z at*;obtain⟨l,e⟩:=z;simp only at k1 kn hR hsh st;unfold ckP ckL at kw;unfold ckL at kn;simp[ckL,K9,Sm,Rg,Z8L];refine Z1 kw (by simp) ?_;simp;refine Z1 k1 (by simp) ?_;simp;by_cases he:e=0
  ·rw[if_pos he]at hR;simp[he];refine Ya kn ?_;simp[Z6];exact⟨1,XG q 1 l,⟨by omega,by rw[Tf,hq],λa b c h=>hsh (a,b,c) h,hR⟩,⟨by simp,rfl⟩,by simp[cnt]⟩
  simp_all
 ·replace kw:=kw 2 (by omega);have st:=Wg hqh (k:=2);have kn:=Qj (s:=q) hqh (k:=2) (by omega) (l:=(Zy q 2).1) (Zhc st.2 (ZK hqh 2).2);have k1:=hW _ (ZK hqh 2).2 (ZK hqh 2).1;have hsh:=WO (h:=q.h) (k:=2) (l:=(Zy q 2).1) (m:=q.lm) (λo ho=>(st.1 o ho).1.2) hql;replace hR:ZW s=Yt (2:: [3,4]) q:=hR;rw[Yt]at hR;have hws:Zy q 2=Zw (Zm q.h 2) [] false:=rfl;rw[<-hws]at k1;generalize Zy q 2=z at*;obtain⟨l,e⟩:=z;simp only at k1 kn hR hsh st;unfold ckP ckL at kw;unfold ckL at kn;simp[ckL,K9,Sm,Rg,Z8L];refine Z1 kw (by simp) ?_;simp;refine Z1 k1 (by simp) ?_;simp;by_cases he:e=0
  ·rw[if_pos he]at hR;simp[he];refine Ya kn ?_;simp[Z6];exact⟨2,XG q 2 l,⟨by omega,by rw[Tf,hq],λa b c h=>hsh (a,b,c) h,hR⟩,⟨by simp,rfl⟩,by simp[cnt]⟩
  simp_all
 ·replace kw:=kw 3 (by omega);have st:=Wg hqh (k:=3);have kn:=Qj (s:=q) hqh (k:=3) (by omega) (l:=(Zy q 3).1) (Zhc st.2 (ZK hqh 3).2);have k1:=hWO _ (Xc q.lm (Zm q.h 3)) (ZK hqh 3).2 (Zhc JX (ZK hqh 3).2) (ZK hqh 3).1 (Uy hql (by simp));replace ks:=ks 3;have hsh:=WO (h:=q.h) (k:=3) (l:=(Zy q 3).1) (m:=q.lm) (λo ho=>(st.1 o ho).1.2) hql;replace hR:ZW s=Yt (3:: [4]) q:=hR;rw[Yt]at hR;have hws:Zy q 3=Zw (Zm q.h 3) (Xc q.lm (Zm q.h 3)) true:=rfl;rw[<-hws]at k1;generalize Zy q 3=z at*;obtain⟨l,e⟩:=z;simp only at k1 kn hR hsh st;unfold ckP ckL at kw ks;unfold ckL at kn;simp[ckL,K9,Sm,Rg,Z8L];refine Z1 kw (by simp) ?_;simp;refine Z1 kw (by simp) ?_;simp;refine Z1 ks (by simp) ?_;simp;refine Z1 k1 (by simp) ?_;simp;by_cases he:e=0
  ·rw[if_pos he]at hR;simp[he];refine Ya kn ?_;simp[Z6];exact⟨3,XG q 3 l,⟨by omega,by rw[Tf,hq],λa b c h=>hsh (a,b,c) h,hR⟩,⟨by simp,rfl⟩,by simp[cnt]⟩
  simp_all
 ·replace kw:=kw 4 (by omega);have st:=Wg hqh (k:=4);have kn:=Qj (s:=q) hqh (k:=4) (by omega) (l:=(Zy q 4).1) (Zhc st.2 (ZK hqh 4).2);have k1:=hWO _ (Xc q.lm (Zm q.h 4)) (ZK hqh 4).2 (Zhc JX (ZK hqh 4).2) (ZK hqh 4).1 (Uy hql (by simp));replace ks:=ks 4;have hsh:=WO (h:=q.h) (k:=4) (l:=(Zy q 4).1) (m:=q.lm) (λo ho=>(st.1 o ho).1.2) hql;replace hR:ZW s=Yt (4:: []) q:=hR;rw[Yt]at hR;have hws:Zy q 4=Zw (Zm q.h 4) (Xc q.lm (Zm q.h 4)) true:=rfl;rw[<-hws]at k1;generalize Zy q 4=z at*;obtain⟨l,e⟩:=z;simp only at k1 kn hR hsh st;unfold ckP ckL at kw ks;unfold ckL at kn;simp[ckL,K9,Sm,Rg,Z8L];refine Z1 kw (by simp) ?_;simp;refine Z1 kw (by simp) ?_;simp;refine Z1 ks (by simp) ?_;simp;refine Z1 k1 (by simp) ?_;simp;by_cases he:e=0
  ·rw[if_pos he]at hR;simp[he];refine Ya kn ?_;simp[Z6];exact⟨4,XG q 4 l,⟨by omega,by rw[Tf,hq],λa b c h=>hsh (a,b,c) h,hR⟩,⟨by simp,rfl⟩,by simp[cnt]⟩
  simp_all
 ·replace hR:ZW s=(true,q):=hR;simp[hR,ckL]
end Vm
namespace Vm
open Go Go.Proofs
def Z4h{P:Program}{f:FuncId}{ks:List CK}{cs:List V}{r:V}(hv:VC P f false [.ptr cs] r)(hfl:r.flatc=true)(hlen:cs.length=ks.length)(hone:cs.all V.one=true)(hdd:ks.all (λk=> !(k==.dead))=true):
  VCM P f [.mem ks] [.agg cs] (.tup [r,.agg cs]):=by
 obtain⟨h1,h2⟩:=hv;refine⟨h1,λB w h vs hok hA=> ?_⟩;obtain⟨hxl,hvl,hAi⟩:=hA;obtain⟨tk,harg,hrel⟩:=hAi 0 (.mem ks) (.agg cs) rfl rfl;simp only[argK]at harg;rw[if_pos hlen]at harg;simp only[ZgH]at harg;subst harg;obtain⟨b,us,T,hb0,hv0,hh,hcs⟩:=hrel
 have hcells:∀(ks:List CK) (cs:List V),cs.length=ks.length->Yc [] (((ks.zip cs).map λy=>(y.1,E.c y.2)).map (·.2))=some cs:=by
  intro ks
  induction ks with
  |nil=>simp
  |cons k ks ih=>
   intro cs hl;cases cs with
   |nil=>simp at hl
   |cons c cs=>
    simp_all
 have hz:eval [] (.pt none (((ks.zip cs).map λy=>(y.1,E.c y.2)).map (·.2)))=some (.ptr cs):=by
  simp only[eval,hcells ks cs hlen,ZgS,ptV,hone,Zhp]
 have hd:Y9 ((ks.zip cs).map λy=>(y.1,E.c y.2))=false:=by
  rw[Y9,Zju];intro x hx;obtain⟨y,hy,rfl⟩:=ZgX.1 hx;have:=ZgT.1 hdd y.1 (List.of_mem_zip hy).1;simpa using this
 have hrd:=Jq (G':=λb=>h.F b\/∃t i,h.bl t i=some b) hb0 hh hcs hd hz (λb hb=>.inl hb) λi b hb=>.inr ⟨0,i,hb⟩;refine Zkb (h2 w (λb=>h.F b\/∃t i,h.bl t i=some b) vs (λb hb=> ?_) (by omega) λi x hx=> ?_) λe w' he=> ?_
 ·rcases hb with hb|⟨t,i,hb⟩
  ·exact hok.f_lt b hb
  ·exact(hok.b_lt t i b hb).2.1
 ·grind
 ·obtain⟨v,rfl,hbel,hrv⟩:=he;have hsz:=hbel.size;have hF:Same h.F w w':=λb hb=>hbel.block b (hok.f_lt b hb);have hB:∀t i b,h.bl t i=some b->w'.heap[b]?=w.heap[b]? :=λt i b hb=>hbel.block b (hok.b_lt t i b hb).2.1
  have hlen1:us.size=cs.length:=by
   have:=hcs.1;simp[hlen]at this;omega
  refine⟨v,r,[.agg cs],h,rfl,hbel.mono hok.base,λb hb=>hbel.block b (hok.k_lt b hb),⟨Zhc hok.base hsz,λb hb=>ZgV (hok.f_lt b hb) hsz,hok.f_or,hok.g_F,λt i b hb=> ?_,hok.inj,λb hb=>ZgV (hok.k_lt b hb) hsz,hok.k_bl,hok.k_F⟩,rfl,hrv.flat hfl,⟨rfl,λi k y hk hkz hy=> ?_⟩,rfl⟩
  ·obtain⟨q1,q2,q3⟩:=hok.b_lt t i b hb
   grind
  ·cases i with
   |zero=>
    simp at hk hy;subst hk;subst hy;refine⟨.mem ((ks.zip cs).map λy=>(y.1,.c y.2)),by rw[argK,if_pos hlen],b,us,T,hb0,hv0,?_,hcs.keep hF (λ_ hb=>hb) (λ_=>rfl) λi b hb=>hB 0 _ b hb⟩
    grind
   |succ i=>simp at hk
end Vm
namespace Vm
open Go Go.Proofs
def U6:List FuncId:=[103,104,105,106,107,108,109,110]
def fnA(f:FuncId):V:=.agg [.fn f]
def Z8q:VC Sol.prog 82 false [] (.sl (U6.map fnA)):=by
 refine Z9 Sol.func82 follows (by kernel_rfl) c82 rfl ?_;simp[p82,U6,fnA]
def zQ(f:FuncId)(s:Ck):Bool×Ck:=
 if f=103 then(Wj s,s)else if f=104 then(Vr s,s)else if f=105 then ZW s
 else if f=106 then(Va s,s)else if f=107 then(Vu s,s)else if f=108 then(Xp s,s)else if f=109 then(Z0G s,s)else(JQ s,s)
structure Ck.okk (s:Ck):Prop where
 ok:s.ok
 lm:∀x∈s.lm,Zs x.2.1 x.2.2=true
def Ck.obs_put(s:Ck)(k:Int)(l:List Ob)(hk:1<=k/\k<=4)(j:Int):(s.put k l).obs j=if j=k\/(k=4/\¬(j=1\/j=2\/j=3))then l else s.obs j:=by
 have:k=1\/k=2\/k=3\/k=4:=by omega
 rcases this with rfl|rfl|rfl|rfl<;>simp[Ck.put,Ck.obs]<;>(split<;>simp_all)<;>(grind)<;>(grind)
def Z61{s:Ck}(hs:s.okk){k:Int}(hk:1<=k/\k<=4):(XG s k (Zy s k).1).okk:=by
 have st:=Wg hs.ok.h (k:=k);have hpl:=(ZK hs.ok.h k).2;have hobs:∀j,(XG s k (Zy s k).1).obs j=((s.put k (Zy s k).1).obs j):=λj=>rfl;refine⟨⟨by rw[Tf];exact hs.ok.h,λj o ho=> ?_,λj=> ?_⟩,WO (λo ho=>(st.1 o ho).1.2) hs.lm⟩
 ·rw[Tf];rw[hobs,Ck.obs_put _ _ _ hk]at ho;split at ho
  ·rename_i h
   have:Zm s.h j=Zm s.h k:=by
    rcases h with rfl|⟨rfl,h⟩
    ·rfl
    ·simp_all[not_or,Zm]
   simp_all
  ·exact hs.ok.ob j o ho
 ·rw[hobs,Ck.obs_put _ _ _ hk];split
  ·omega
  ·exact hs.ok.len j
def Kc:∀ {l:List Int} {s:Ck},(∀k∈l,1<=k/\k<=4)->s.okk->(Yt l s).2.okk/\(Yt l s).2.h=s.h
 | [],s,_,hs=>⟨hs,rfl⟩
 |k::l,s,hl,hs=>by
  rw[Yt];split
  ·simp_all[Kc,Zhb,Z61,Zhj,trans,Tf]
  simp_all
def Z1y{s:Ck}(hs:s.okk):(ZW s).2.okk/\(ZW s).2.h=s.h:=Kc (by simp) hs
def jl{s:Ck}(hs:s.okk){f:FuncId}:(zQ f s).2.okk/\(zQ f s).2.h=s.h:=by
 unfold zQ
 repeat' split
 all_goals first|exact⟨hs,rfl⟩|exact Z1y hs
def Z8p(hW:QA)(hWO:XP){s:Ck}(hs:s.okk){f:FuncId}(hf:f∈U6):VCM Sol.prog f [.mem ckK] [.agg (ckL s)] (.tup [.bool (zQ f s).1,.agg (ckL (zQ f s).2)]):=by
 have go:∀ {f b},VC Sol.prog f false [ckP s] (.bool b)->VCM Sol.prog f [.mem ckK] [.agg (ckL s)] (.tup [.bool b,.agg (ckL s)]):=λh=>Z4h h rfl rfl rfl rfl;simp only[U6,Zh0,Zia,Zjx]at hf;rcases hf with rfl|rfl|rfl|rfl|rfl|rfl|rfl|rfl
 ·exact go (Z2Z hs.ok.h)
 ·exact go Z3T
 ·exact Z4m hW hWO hs.ok.h hs.lm
 ·exact go (Z3n hs.ok)
 ·exact go (Z40 hs.ok)
 ·exact go (jC hs.ok)
 ·exact go (Za8 hs.ok)
 ·exact go (Z8o hs.ok)
def Z0J:List FuncId->Ck->Option Ck
 | [],s=>some s
 |f::l,s=>if(zQ f s).1=true then Z0J l (zQ f s).2 else none
def ZX(h:Hp):Ck:= {h:=h,o1:=[],o2:=[],o3:=[],o4:=[],pm:=[],lm:=[]}
def Tc(h:Hp):Option Ck:=Z0J U6 (ZX h)
def L8{h:Hp}(hh:h.ok):(ZX h).okk:=by
 have h0:∀k,(ZX h).obs k=[]:=λk=>by simp[ZX,Ck.obs]
 refine⟨⟨hh,λk o ho=> ?_,λk=> ?_⟩,λx hx=>(by simp[ZX]at hx)⟩
 ·simp_all
 simp_all
def Z0K(hW:QA)(hWO:XP){h:Hp}(hh:h.ok):VC Sol.prog 51 false [hpV h] (.tup [match Tc h with|some s=>ckP s|none=>.nul 0,.bool (Tc h).isSome]):=by
 refine Z9 Sol.func51 follows (by kernel_rfl) c51 rfl ?_;have k1:=y9 (h:=h);have k2:=Z8q;have hlen:U6.length=8:=rfl;unfold hpV at k1;simp[p51];refine Z1 k1 (by simp) ?_;simp[lyV,layH];refine Z1 k2 (by simp) ?_;simp;refine Xw (λ(p:Nat×Ck)=>[(5,.m (ckL p.2)),(6,.v (vi p.1))]) (λp=>p.1<=8/\p.2.okk/\Tc h=Z0J (U6.drop p.1) p.2) (cnt 6 8) (0,ZX h) (by rfl) ⟨by simp,L8 hh,rfl⟩ ?_;rintro⟨i,q⟩ ⟨hi,hq,hR⟩;simp only at hi hq hR;have hwi:=Z6 ((i:Int)+1) (by omega) (by omega);by_cases hlt:i<U6.length
 ·have hx:U6[i]?=some U6[i]:=ZgJ hlt;have hd:=ZhF hlt;have hm:=ZgZ hlt;generalize U6[i]=f at*;rw[hd,Z0J]at hR;have kr:=Z8p hW hWO hq hm;have hok:=(jl hq (f:=f)).1;rw[hlen]at hlt;have hlt':(i:Int)<8:=by omega
  simp[idxV,hlt,hlt',hx,ZZ hx,hlen,fnA,ckL];unfold ckL at kr;refine Ya kr ?_;cases hb:(zQ f q).1
  ·rw[if_neg (by simp[hb])]at hR;simp[hR]
  ·rw[if_pos hb]at hR;simp[hwi];exact⟨i+1,(zQ f q).2,⟨by omega,hok,hR⟩,⟨by simp,by omega⟩,by simp[cnt];omega⟩
 ·have:i=8:=by omega
  subst this;replace hR:Tc h=some q:=hR;simp[hlen,hR,ckL,ckP]
def qv:∀ {l:List FuncId} {s q:Ck},s.okk->Z0J l s=some q->q.okk/\q.h=s.h
 | [],s,q,hs,h=>by simp only[Z0J,ZgH]at h;subst h;exact⟨hs,rfl⟩
 |f::l,s,q,hs,h=>by
  rw[Z0J]at h;split at h
  ·have h1:=jl hs (f:=f);have h2:=qv h1.1 h;exact⟨h2.1,h2.2.trans h1.2⟩
  ·cases h
def Z5H{h:Hp}(hh:h.ok){q:Ck}(hq:Tc h=some q):q.okk/\q.h=h:=qv (L8 hh) hq
def Z4r(hW:QA)(hWO:XP){h:Hp}(hh:h.ok):VC Sol.prog 25 false [hpV h] (.bool (Tc h).isSome):=by
 refine Z9 Sol.func25 follows (by kernel_rfl) c25 rfl ?_;simp[p25];refine Z1 (Z0K hW hWO hh) (by simp) ?_;simp
def Z62(h:Hp)(k:Int):List Ob×Int:=match Tc h with
 |some s=>if 1<=k/\k<=4 then(s.obs k,0)else([],1)
 |none=>([],1)
def jO(hW:QA)(hWO:XP){h:Hp}(hh:h.ok){k:Int}:VC Sol.prog 27 false [hpV h,vi k] (.tup [.sl ((Z62 h k).1.map obV),vi (Z62 h k).2]):=by
 refine Z9 Sol.func27 follows (by kernel_rfl) c27 rfl ?_;simp[p27];refine Z1 (Z0K hW hWO hh) (by simp) ?_;unfold Z62;cases hl:Tc h with
 |none=>simp
 |some s=>
  by_cases h1:1<=k
  ·by_cases h2:k<=4
   ·have:k=1\/k=2\/k=3\/k=4:=by omega
    rcases this with rfl|rfl|rfl|rfl<;>simp[aiV,jE,K9,Sm,Rg,Ck.obs]
   ·have h1':¬k<1:=by omega
    have h2':4<k:=by omega
    simp[h1,h2,h1',h2']
  ·have h1':k<1:=by omega
   simp[h1,h1']
def Z2J(h:Hp):Nat:=match Tc h with
 |some s=>y6 s
 |none=>0
def jP(hW:QA)(hWO:XP){h:Hp}(hh:h.ok):VC Sol.prog 22 false [hpV h] (vi (Z2J h)):=by
 refine Z9 Sol.func22 follows (by kernel_rfl) c22 rfl ?_;simp[p22];refine Z1 (Z0K hW hWO hh) (by simp) ?_;unfold Z2J;cases hl:Tc h with
 |none=>simp
 |some s=>
  simp;refine Z1 (Ka (Z5H hh hl).1.ok) (by simp) ?_;simp
end Vm
end
section
namespace Vm
open Go Go.Proofs
structure Stands (ws:List Int) (old:Bool) (o:Ob):Prop where
 nat:0<=o.at_
 shape:Zs o.size o.ptrs=true
 fits:o.at_+1+o.size<=ws.length
 slots:ZV ((ws.drop (o.at_.toNat+1)).take o.size.toNat) o.gone o.ptrs 0=true
 word:∃w,ws[o.at_.toNat]?=some w/\(if o.gone then old=true/\(adr w).2=0/\o.target=(adr w).1 else(old=true->¬(adr w).2=0)/\unpk w=(o.size,o.ptrs,0)/\o.target=0)
def Tiles(ws:List Int)(old:Bool):Nat->List Ob->Prop
 |a,[]=>ws.length<=a
 |a,o::l=>o.at_=a/\Stands ws old o/\Tiles ws old (a+1+o.size.toNat) l
def Z0T{ws:List Int}{shs:List (Int×Int)}{old:Bool}{a tk t:Nat}{w:Int}{o:Ob}(hw:ws[a]?=some w)(ho:objR shs old a tk w=some (o,t))(hl:¬(ws.length:Int)<a+1+o.size)
  (hs:¬ZV ((ws.drop (a+1)).take o.size.toNat) o.gone o.ptrs 0=false):o.at_=a/\Stands ws old o:=by
 have h2:=Um ho;refine⟨h2.2,?_,h2.1,?_,?_,w,?_,?_⟩
 ·omega
 ·omega
 ·simp_all
 ·simp_all
 ·unfold objR at ho
  grind
def Kb{ws:List Int}{shs:List (Int×Int)}{old:Bool}:∀(f a tk:Nat) (acc l:List Ob),Xe ws shs old f a tk acc=(l,0)->∃r,l=acc++r/\Tiles ws old a r
 |0,_,_,_,_,h=>by simp[Xe]at h
 |f+1,a,tk,acc,l,h=>by
  unfold Xe at h;split at h
  ·rename_i hn;split at h
   grind
   ·simp only[ZgR,and_true]at h;subst h;exact⟨[],by simp,Zje.1 hn⟩
  ·rename_i w hw;split at h
   grind
   ·rename_i o t ho;split at h
    grind
    rename_i h1;split at h
    grind
    rename_i h2;obtain⟨r,rfl,hr⟩:=Kb f _ _ _ _ h;have hs:=Z0T hw ho h1 h2;exact⟨o::r,by simp,hs.1,hs.2,hr⟩
def Yo{ws:List Int}{shs:List (Int×Int)}{old:Bool}{l:List Ob}(h:Zw ws shs old=(l,0)):Tiles ws old 0 l:=by
 obtain⟨r,h1,h2⟩:=Kb _ _ _ _ _ h;simp_all
def Tiles.stands{ws:List Int}{old:Bool}:∀ {a:Nat} {l:List Ob},Tiles ws old a l->∀o∈l,Stands ws old o/\(a:Int)<=o.at_
 |_,[],_,_,h=>by simp at h
 |a,o::l,h,x,hx=>by
  have hs:=Zf.1 h.2.1.shape;rcases Zh0.1 hx with rfl|hx
  ·exact⟨h.2.1,by rw[h.1];omega⟩
  ·have:=Tiles.stands h.2.2 x hx
   grind
def Tiles.apart{ws:List Int}{old:Bool}:∀ {a:Nat} {l:List Ob},Tiles ws old a l->∀o∈l,∀q∈l,o=q\/o.at_+1+o.size<=q.at_\/q.at_+1+q.size<=o.at_
 |_,[],_,_,h,_,_=>by simp at h
 |a,x::l,h,o,ho,q,hq=>by
  have hs:=Zf.1 h.2.1.shape;have e:=h.1;rcases Zh0.1 ho with rfl|ho
  ·rcases Zh0.1 hq with rfl|hq
   ·simp
   ·have:=(Tiles.stands h.2.2 q hq).2;omega
  ·rcases Zh0.1 hq with hq|hq
   ·have:=(Tiles.stands h.2.2 o ho).2
    grind
   ·exact Tiles.apart h.2.2 o ho q hq
structure RightH (h:Hp) (p:Pts):Prop where
 parts:Yd h=some p
 num:numR h=true
 ok:Sb h p=true
 low:Tiles h.low false 0 p.low
 high:Tiles h.high false 0 p.high
 old:Tiles h.old true 0 p.old
 far:Tiles h.far true 0 p.far
def Z6v{h:Hp}(hr:Yq h=true):∃p,RightH h p:=by
 obtain⟨p,h1,h2,h3⟩:=Z1h hr;refine⟨p,h1,h3,h2,?_,?_,?_,?_⟩
 all_goals
  clear h3;unfold Yd at h1;dsimp only at h1;split at h1
  ·cases h1
  rename_i c1;split at h1
  ·cases h1
  rename_i c2;cases h1
  have c3:(Zw h.low [] false).2=0/\(Zw h.high [] false).2=0:=by
   refine⟨ZhH λhc=>c1 (.inl hc),ZhH λhc=>c1 (.inr hc)⟩
  have c4:∀x:Int,¬x≠0->x=0:=λx hx=>ZhH hx;have e3:=c4 _ (λhx=>c2 (.inr (.inr (.inl hx))));have e4:=c4 _ (λhx=>c2 (.inr (.inr (.inr hx))))
  first|exact Yo (ZiZ rfl c3.1)|exact Yo (ZiZ rfl c3.2)|exact Yo (ZiZ rfl e3)|exact Yo (ZiZ rfl e4)
def RightH.tiles{h:Hp}{p:Pts}(r:RightH h p){k:Int}(hk:1<=k/\k<=4):Tiles (Zm h k) (decide (2<k)) 0 (p.at k):=by
 have:k=1\/k=2\/k=3\/k=4:=by omega
 rcases this with rfl|rfl|rfl|rfl
 ·exact r.low
 ·exact r.high
 ·exact r.old
 ·exact r.far
def RightH.lay{h:Hp}{p:Pts}(r:RightH h p):Zl (layH h)=true:=by
 have:=r.num;simp_all[numR,ZgM]
def refR(l:Ly)(k a:Int):Int:=2*(fstL l k+a)+1
def Sr{l:Ly}(hr:Zl l=true){k a:Int}(ha:0<=a):adr (refR l k a)=(fstL l k+a,0):=by
 have:=Y1 hr k;unfold adr refR
 grind
theorem Sq{l:Ly}(hr:Zl l=true){k a:Int}(hk:1<=k/\k<=4)(ha:0<=a/\a<sizL l k):ZI l k a=(fstL l k+a,0):=by
 simp_all[ZI,if_neg]
theorem Z0e{l:Ly}(hr:Zl l=true){k a:Int}(hk:1<=k/\k<=4)(ha:0<=a/\a<sizL l k):Z7y l (fstL l k+a)=(k,a,0):=by
 have h:=Ys.1 hr;have ht:=Z8E hr;unfold Z7y inL;rw[if_neg (by simp[hr])];simp only[ZgM,Zh1];have hk4:k=1\/k=2\/k=3\/k=4:=by omega
 rcases hk4 with rfl|rfl|rfl|rfl
 ·grind
 ·simp only[fstL,sizL]at ha⊢
  grind
 ·simp only[fstL,sizL]at ha⊢
  grind
 ·simp only[fstL,sizL]at ha⊢
  grind
end Vm
namespace Vm
open Go Go.Proofs
end Vm
namespace Vm
open Go Go.Proofs
def Tn{h:Hp}{ws:List Int}{low:List Ob}:∀(f i:Nat) (acc l:List (Int×Int)),YC h ws low f i acc=some l->∃r,l=acc++r
 |0,_,_,_,he=>by simp[YC]at he
 |f+1,i,acc,l,he=>by
  unfold YC at he;split at he
  ·cases he;exact⟨[],by simp⟩
  ·split at he
   ·split at he
    ·cases he
    ·obtain⟨r,hr⟩:=Tn f _ _ _ he;exact⟨_,by rw[hr,ZhR]⟩
   ·split at he
    ·exact Tn f _ _ _ he
    ·cases he
def Vv{h:Hp}{ws:List Int}{low:List Ob}:∀(f i:Nat) (acc shs:List (Int×Int)),YC h ws low f i acc=some shs->∀(f':Nat) (acc' l:List Ob),Xe ws shs true f' i acc.length acc'=(l,0)->
  ∃r,l=acc'++r/\∀o∈r,o.gone=true->∃q,atR h 1 low o.target=some q/\q.size=o.size/\q.ptrs=o.ptrs
 |0,_,_,_,he=>by simp[YC]at he
 |f+1,i,acc,shs,he=>by
  intro f' acc' l hw;cases f' with
  |zero=>simp[Xe]at hw
  |succ f'=>
   unfold YC at he;unfold Xe at hw;cases hwi:ws[i]? with
   |none=>
    simp_all
   |some w=>
    simp only[hwi]at he hw;by_cases ha:(adr w).2=0
    ·simp only[ha,Zhp]at he;cases hq:atR h 1 low (adr w).1 with
     |none=>simp_all
     |some q=>
      simp only[hq]at he;obtain⟨r,hr⟩:=Tn _ _ _ _ he;have hs:shs[acc.length]?=some (q.size,q.ptrs):=by rw[hr];simp
      unfold objR at hw;rw[if_pos ⟨rfl,ha⟩]at hw;simp only[hs]at hw;by_cases hsh:Zs q.size q.ptrs=true
      ·rw[if_pos hsh]at hw;simp only at hw;split at hw
       ·simp at hw
       split at hw
       ·simp at hw
       have hlen:acc.length+1=(acc++[(q.size,q.ptrs)]).length:=by simp
       rw[hlen]at hw;obtain⟨r',h1,h2⟩:=Vv f _ _ _ he _ _ _ hw
       grind
      simp_all
    ·simp only[ha,Zhr]at he;by_cases hu:(unpk w).2.2=0
     ·simp only[hu,Zhp]at he;unfold objR at hw;rw[if_neg (λhc=>ha hc.2),if_pos hu]at hw;simp only at hw;split at hw
      ·simp at hw
      split at hw
      ·simp at hw
      obtain⟨r',h1,h2⟩:=Vv f _ _ _ he _ _ _ hw;simp_all
     simp_all
def RightH.gone_low{h:Hp}{p:Pts}(r:RightH h p){k:Int}(hk:3<=k/\k<=4){o:Ob}(ho:o∈p.at k)(hg:o.gone=true):∃q∈p.low,ZP h 1 q.at_=o.target/\q.size=o.size/\q.ptrs=o.ptrs:=by
 have h1:=r.parts;unfold Yd at h1;dsimp only at h1;split at h1
 ·cases h1
 split at h1
 ·cases h1
 rename_i c2
 have aux:∀(ws:List Int) (x:Option (List (Int×Int))),x=YS h ws (Zw h.low [] false).1->¬x=none->(Zw ws (x.getD []) true).2=0->o∈(Zw ws (x.getD []) true).1->
   ∃q∈(Zw h.low [] false).1,ZP h 1 q.at_=o.target/\q.size=o.size/\q.ptrs=o.ptrs:=by
  intro ws x hx hn h0 ho;cases x with
  |none=>simp_all
  |some shs=>
   simp only[Zhe]at h0 ho;obtain⟨r',e1,e2⟩:=Vv _ _ _ _ hx.symm (ws.length+1) [] (Zw ws shs true).1 (ZiZ rfl h0);simp only[ZhM]at e1;rw[e1]at ho;obtain⟨q,hq,hs⟩:=e2 o ho hg;have:=ZjP hq
   grind [Z8U]
 have e3:¬YS h h.old (Zw h.low [] false).1=none:=λe=>c2 (.inl e);have e4:¬YS h h.far (Zw h.low [] false).1=none:=λe=>c2 (.inr (.inl e));have e5:(Zw h.old ((YS h h.old (Zw h.low [] false).1).getD []) true).2=0:=ZhH λe=>c2 (.inr (.inr (.inl e)));have e6:(Zw h.far ((YS h h.far (Zw h.low [] false).1).getD []) true).2=0:=ZhH λe=>c2 (.inr (.inr (.inr e)));cases h1;have:k=3\/k=4:=by omega
 rcases this with rfl|rfl
 ·exact aux _ _ rfl e3 e5 (by simpa using ho)
 ·exact aux _ _ rfl e4 e6 (by simpa using ho)
def Z8n{l:Ly}(hr:Zl l=true){k j a b:Int}(hk:1<=k/\k<=4)(hj:1<=j/\j<=4)(ha:0<=a/\a<sizL l k)(hb:0<=b/\b<sizL l j)(h:refR l k a=refR l j b):k=j/\a=b:=by
 have h1:=Z0e hr hk ha;have h2:=Z0e hr hj hb;have:fstL l k+a=fstL l j+b:=by unfold refR at h;omega
 simp_all
def ZaX{u a:Int}(h0:(adr u).2=0)(h:(adr u).1=a):u=2*a+1:=by
 unfold adr at h0 h
 grind
def Z7i{u:Int}(h:(unpk u).2.2=0):¬(adr u).2=0:=by
 unfold unpk at h;split at h
 ·rename_i hc;unfold adr
  grind
 grind
end Vm
namespace Vm
open Go Go.Proofs
end Vm
end
section
namespace Vm
open Go Go.Proofs
theorem Tiles.order{ws:List Int}{old:Bool}:∀ {a:Nat} {l:List Ob},Tiles ws old a l->l.Pairwise λx y=>x.at_<y.at_
 |_,[],_=>.nil
 |a,o::l,h=>by
  have hs:=Zf.1 h.2.1.shape;refine .cons (λx hx=> ?_) (Tiles.order h.2.2);have:=(Tiles.stands h.2.2 x hx).2;have:=h.1;omega
theorem zU{h:Hp}(hr:Zl (layH h)=true){k:Int}(hk:1<=k/\k<=4){old:Bool}{o:Ob}(hs:Stands (Zm h k) old o):ZP h k o.at_=fstL (layH h) k+o.at_:=by
 have:=Zf.1 hs.shape;have:=hs.fits;have:=hs.nat
 grind [ZP,Sq,WV]
theorem Z49{h:Hp}(hr:Zl (layH h)=true){k:Int}(hk:1<=k/\k<=4){old:Bool}{o:Ob}(hs:Stands (Zm h k) old o):Z7y (layH h) (ZP h k o.at_)=(k,o.at_,0):=by
 have:=Zf.1 hs.shape;have:=hs.fits;have:=hs.nat;rw[zU hr hk hs]
 grind [Z0e,WV]
theorem Tiles.starts{h:Hp}(hr:Zl (layH h)=true){k:Int}(hk:1<=k/\k<=4){old:Bool}{l:List Ob}(ht:Tiles (Zm h k) old 0 l):l.Pairwise λx y=>ZP h k x.at_≠ZP h k y.at_:=by
 refine List.Pairwise.imp_of_mem ?_ ht.order;intro x y hx hy hlt;rw[zU hr hk (ht.stands x hx).1,zU hr hk (ht.stands y hy).1];omega
theorem qL{h:Hp}{a:Int}:∀ {l:List Ob} {m:List (Int×(Int×Int))},(l.Pairwise λx y=>ZP h 1 x.at_≠ZP h 1 y.at_)->getA (ZY h 1 m l) a=match atR h 1 l a with
  |some o=>some (o.size,o.ptrs)
  |none=>getA m a
 | [],m,_=>rfl
 |o::l,m,hp=>by
  obtain⟨h1,h2⟩:=List.pairwise_cons.1 hp;rw[ZY,qL h2];unfold atR;rw[ZjO];cases hf:l.find? (λo=>ZP h 1 o.at_==a)with
  |some q=>
   grind
  |none=>
   simp only[Zhp,Uj]
   grind [ZP,ZI,layH]
theorem VT{h:Hp}{k:Int}(hk:¬k=1):∀ {l:List Ob} {m:List (Int×(Int×Int))},ZY h k m l=m
 | [],m=>rfl
 |o::l,m=>by simp_all[ZY,if_neg,VT]
theorem VU{h:Hp}{k a:Int}:∀ {l:List Ob} {m:List (Int×Int)},getA (YZ h k m l) a=if(atR h k l a).isSome=true then some k else getA m a
 | [],m=>rfl
 |o::l,m=>by
  rw[YZ,VU];unfold atR;rw[ZjO,Uj];by_cases he:ZP h k o.at_=a
  ·have he':(ZI (layH h) k o.at_).1=a:=he;have:(ZP h k o.at_==a)=true:=by simpa using he
   simp[this,he']
  ·have he':¬(ZI (layH h) k o.at_).1=a:=he;have:(ZP h k o.at_==a)=false:=by simpa using he
   simp[this,he']
theorem Tm{lm:List (Int×(Int×Int))}{ws:List Int}:∀(f i:Nat) (acc:List (Int×Int)),∃r,Yn lm ws f i acc=acc++r
 |0,_,acc=>⟨[],by simp[Yn]⟩
 |f+1,i,acc=>by
  rw[Yn];cases ws[i]? with
  |none=>simp
  |some w=>
   simp only;split
   ·split
    ·simp
    ·obtain⟨r,hr⟩:=Tm (lm:=lm) (ws:=ws) f _ _;exact⟨_,by rw[hr,ZhR]⟩
   ·split
    ·exact Tm f _ _
    ·simp
theorem Ux{lm:List (Int×(Int×Int))}{h:Hp}{low:List Ob}(hlm:∀a,getA lm a=(atR h 1 low a).map λo=>(o.size,o.ptrs)){ws:List Int}:∀(f i:Nat) (acc shs:List (Int×Int)),YC h ws low f i acc=some shs->Yn lm ws f i acc=shs
 |0,_,_,_,he=>by simp[YC]at he
 |f+1,i,acc,shs,he=>by
  rw[YC]at he;rw[Yn];cases hw:ws[i]? with
  |none=>rw[hw]at he;simpa using he
  |some w=>
   rw[hw]at he;simp only at he⊢;by_cases ha:(adr w).2=0
   ·rw[if_pos ha]at he⊢;rw[hlm];cases hq:atR h 1 low (adr w).1 with
    |none=>rw[hq]at he;cases he
    |some o=>rw[hq]at he;exact Ux hlm _ _ _ _ he
   ·rw[if_neg ha]at he⊢;by_cases hu:(unpk w).2.2=0
    ·rw[if_pos hu]at he⊢;exact Ux hlm _ _ _ _ he
    ·rw[if_neg hu]at he;cases he
theorem Wr{lm:List (Int×(Int×Int))}{h:Hp}{low:List Ob}(hlm:∀a,getA lm a=(atR h 1 low a).map λo=>(o.size,o.ptrs)){ws:List Int}:∀(f i:Nat) (acc:List (Int×Int)),0<f->ws.length<f+i->YC h ws low f i acc=none->
  ∀(f':Nat) (acc':List Ob),(Xe ws (Yn lm ws f i acc) true f' i acc.length acc').2≠0
 |0,_,_,h0,_,_=>by omega
 |f+1,i,acc,h0,hf,he=>by
  intro f' acc';cases f' with
  |zero=>simp[Xe]
  |succ f'=>
   rw[YC]at he;rw[Yn,Xe];cases hw:ws[i]? with
   |none=>simp_all
   |some w=>
    have hlt:=(ZgL.1 hw).1;rw[hw]at he;simp only at he⊢;by_cases ha:(adr w).2=0
    ·rw[if_pos ha]at he⊢;rw[hlm];cases hq:atR h 1 low (adr w).1 with
     |none=>
      simp only[Zj7]
      have:objR acc true i acc.length w=none:=by
       unfold objR;rw[if_pos ⟨rfl,ha⟩];simp
      rw[this];simp
     |some o=>
      rw[hq]at he;simp only[ZgY]at he⊢;obtain⟨r,hr⟩:=Tm (lm:=lm) (ws:=ws) f (i+1+o.size.toNat) (acc++[(o.size,o.ptrs)]);have ih:=Wr hlm f (i+1+o.size.toNat) (acc++[(o.size,o.ptrs)]) (by omega) (by omega) he f';generalize Yn lm ws f (i+1+o.size.toNat) (acc++[(o.size,o.ptrs)])=shs at*;have hs:shs[acc.length]?=some (o.size,o.ptrs):=by rw[hr];simp
      unfold objR;rw[if_pos ⟨rfl,ha⟩,hs];simp only;by_cases hsh:Zs o.size o.ptrs=true
      ·rw[if_pos hsh];simp only;split
       ·simp
       split
       ·simp
       simp_all
      simp_all
    ·rw[if_neg ha]at he⊢;by_cases hu:(unpk w).2.2=0
     ·rw[if_pos hu]at he⊢;have ih:=Wr hlm f (i+1+(unpk w).1.toNat) acc (by omega) (by omega) he f';generalize Yn lm ws f (i+1+(unpk w).1.toNat) acc=shs at*;unfold objR
      grind
     simp_all[if_neg,objR]
structure Found (h:Hp) (s:Ck) (p:Pts):Prop where
 hp:s.h=h
 o1:s.o1=p.low
 o2:s.o2=p.high
 o3:s.o3=p.old
 o4:s.o4=p.far
 pm:s.pm=YZ h 4 (YZ h 3 (YZ h 2 (YZ h 1 [] p.low) p.high) p.old) p.far
theorem jI{h:Hp}(hr:Zl (layH h)=true):match Yd h with
  |some p=>(ZW (ZX h)).1=true/\Found h (ZW (ZX h)).2 p
  |none=>(ZW (ZX h)).1=false:=by
 unfold ZW Yd;dsimp only;have s1:Zy (ZX h) 1=Zw h.low [] false:=rfl;rw[Yt,s1];by_cases e1:(Zw h.low [] false).2=0
 case neg=>simp_all
 rw[if_pos e1];have hT:Tiles h.low false 0 (Zw h.low [] false).1:=Yo (ws:=h.low) (shs:=[]) (ZiZ rfl e1);generalize (Zw h.low [] false).1=l1 at*;have s2:Zy (XG (ZX h) 1 l1) 2=Zw h.high [] false:=rfl;rw[Yt,s2];by_cases e2:(Zw h.high [] false).2=0
 case neg=>simp_all
 rw[if_pos e2,if_neg (by omega)];generalize (Zw h.high [] false).1=l2 at*
 have hlm:∀a,getA (ZY h 1 [] l1) a=(atR h 1 l1 a).map λo=>(o.size,o.ptrs):=by
  intro a;rw[qL (Tiles.starts hr (k:=1) (by omega) (by simpa using hT))];cases atR h 1 l1 a<;>rfl
 have hlm2:(XG (XG (ZX h) 1 l1) 2 l2).lm=ZY h 1 [] l1:=VT (by omega)
 have s3:Zy (XG (XG (ZX h) 1 l1) 2 l2) 3=Zw h.old (Xc (ZY h 1 [] l1) h.old) true:=by
  rw[<-hlm2];rfl
 rw[Yt,s3];cases hp:YS h h.old l1 with
 |none=>
  have:=Wr hlm (h.old.length+1) 0 [] (by omega) (by omega) hp (h.old.length+1) [];have e3:¬(Zw h.old (Xc (ZY h 1 [] l1) h.old) true).2=0:=this;rw[if_neg e3,if_pos (.inl rfl)]
 |some shs=>
 have hs3:Xc (ZY h 1 [] l1) h.old=shs:=Ux hlm _ _ _ _ hp;rw[hs3];simp only[Zhe];by_cases e3:(Zw h.old shs true).2=0
 case neg=>simp_all
 rw[if_pos e3];generalize (Zw h.old shs true).1=l3 at*
 have hlm3:(XG (XG (XG (ZX h) 1 l1) 2 l2) 3 l3).lm=ZY h 1 [] l1:=by
  rw[<-hlm2];exact VT (by omega)
 have s4:Zy (XG (XG (XG (ZX h) 1 l1) 2 l2) 3 l3) 4=Zw h.far (Xc (ZY h 1 [] l1) h.far) true:=by
  rw[<-hlm3];rfl
 rw[Yt,s4];cases hq:YS h h.far l1 with
 |none=>
  have:=Wr hlm (h.far.length+1) 0 [] (by omega) (by omega) hq (h.far.length+1) [];have e4:¬(Zw h.far (Xc (ZY h 1 [] l1) h.far) true).2=0:=this;rw[if_neg e4,if_pos (.inr (.inl rfl))]
 |some shs'=>
 have hs4:Xc (ZY h 1 [] l1) h.far=shs':=Ux hlm _ _ _ _ hq;rw[hs4];simp only[Zhe];by_cases e4:(Zw h.far shs' true).2=0
 case neg=>simp_all
 rw[if_pos e4,if_neg (by grind)];generalize (Zw h.far shs' true).1=l4 at*;exact⟨rfl,rfl,rfl,rfl,rfl,rfl,rfl⟩
end Vm
namespace Vm
open Go Go.Proofs
theorem Tg{h:Hp}{p:Pts}(h1:Yd h=some p){k:Int}(hk:1<=k/\k<=4):Tiles (Zm h k) (decide (2<k)) 0 (p.at k):=by
 have:k=1\/k=2\/k=3\/k=4:=by omega
 unfold Yd at h1;dsimp only at h1;split at h1
 ·cases h1
 rename_i c1;split at h1
 ·cases h1
 rename_i c2;cases h1
 have c3:(Zw h.low [] false).2=0/\(Zw h.high [] false).2=0:=by
  refine⟨ZhH λhc=>c1 (.inl hc),ZhH λhc=>c1 (.inr hc)⟩
 have c4:∀x:Int,¬x≠0->x=0:=λx hx=>ZhH hx;have e3:=c4 _ (λhx=>c2 (.inr (.inr (.inl hx))));have e4:=c4 _ (λhx=>c2 (.inr (.inr (.inr hx))));rcases this with rfl|rfl|rfl|rfl
 ·exact Yo (ZiZ rfl c3.1)
 ·exact Yo (ZiZ rfl c3.2)
 ·exact Yo (ZiZ rfl e3)
 ·exact Yo (ZiZ rfl e4)
theorem Kx{h:Hp}{p:Pts}(h1:Yd h=some p){k:Int}(hk:3<=k/\k<=4){o:Ob}(ho:o∈p.at k)(hg:o.gone=true):∃q∈p.low,ZP h 1 q.at_=o.target/\q.size=o.size/\q.ptrs=o.ptrs:=by
 unfold Yd at h1;dsimp only at h1;split at h1
 ·cases h1
 split at h1
 ·cases h1
 rename_i c2
 have aux:∀(ws:List Int) (x:Option (List (Int×Int))),x=YS h ws (Zw h.low [] false).1->¬x=none->(Zw ws (x.getD []) true).2=0->o∈(Zw ws (x.getD []) true).1->
   ∃q∈(Zw h.low [] false).1,ZP h 1 q.at_=o.target/\q.size=o.size/\q.ptrs=o.ptrs:=by
  intro ws x hx hn h0 ho;cases x with
  |none=>simp_all
  |some shs=>
   simp only[Zhe]at h0 ho;obtain⟨r',e1,e2⟩:=Vv _ _ _ _ hx.symm (ws.length+1) [] (Zw ws shs true).1 (ZiZ rfl h0);simp only[ZhM]at e1;rw[e1]at ho;obtain⟨q,hq,hs⟩:=e2 o ho hg;have:=ZjP hq
   grind [Z8U]
 have e3:¬YS h h.old (Zw h.low [] false).1=none:=λe=>c2 (.inl e);have e4:¬YS h h.far (Zw h.low [] false).1=none:=λe=>c2 (.inr (.inl e));have e5:(Zw h.old ((YS h h.old (Zw h.low [] false).1).getD []) true).2=0:=ZhH λe=>c2 (.inr (.inr (.inl e)));have e6:(Zw h.far ((YS h h.far (Zw h.low [] false).1).getD []) true).2=0:=ZhH λe=>c2 (.inr (.inr (.inr e)));cases h1;have:k=3\/k=4:=by omega
 rcases this with rfl|rfl
 ·exact aux _ _ rfl e3 e5 (by simpa using ho)
 ·exact aux _ _ rfl e4 e6 (by simpa using ho)
theorem Z9D{h:Hp}(hr:Zl (layH h)=true){p:Pts}(hp:Yd h=some p){k:Int}(hk:1<=k/\k<=4){a:Int}(hi:(atR h k (p.at k) a).isSome=true):∃b,Z7y (layH h) a=(k,b,0):=by
 obtain⟨o,ho⟩:=ZhN.1 hi;have h1:=Zjf ho;have h2:ZP h k o.at_=a:=by have:=ZjP ho;simpa using this
 rw[<-h2];exact⟨_,Z49 hr hk ((Tg hp hk).stands o h1).1⟩
theorem Z8W{h:Hp}(hr:Zl (layH h)=true){p:Pts}(hp:Yd h=some p){k j:Int}(hk:1<=k/\k<=4)(hj:1<=j/\j<=4)(hn:k≠j){a:Int}(hi:(atR h k (p.at k) a).isSome=true):(atR h j (p.at j) a).isSome=false:=by
 grind [atR,Z9D,Prod.mk.injEq]
section
variable {h:Hp}{s:Ck}{p:Pts}
theorem Found.obs(hf:Found h s p){k:Int}:s.obs k=p.at k:=by
 unfold Ck.obs Pts.at;rw[hf.o1,hf.o2,hf.o3,hf.o4]
theorem Found.pm_at(hf:Found h s p)(a:Int):getA s.pm a=if(atR h 4 (p.at 4) a).isSome=true then some 4 else if(atR h 3 (p.at 3) a).isSome=true then some 3 else if(atR h 2 (p.at 2) a).isSome=true then some 2 else if(atR h 1 (p.at 1) a).isSome=true then some 1 else none:=by
 rw[hf.pm,VU,VU,VU,VU];rfl
theorem Found.points(hf:Found h s p)(hr:Zl (layH h)=true)(hp:Yd h=some p)(w:Int):Zx s w 1 2=Xl h p w 1 2/\Zx s w 3 4=Xl h p w 3 4/\Zx s w 1 4=(Xl h p w 1 2||Xl h p w 3 4):=by
 unfold Zx Xl;by_cases h0:w=0
 ·simp[h0]
 by_cases h1:(adr w).2=0
 case neg=>grind
 simp only[h0,h1,ZkO,ZjV,Zj8,Zkg];rw[hf.pm_at];generalize (adr w).1=a;have o:=λk j hk hj hn=>Z8W (k:=k) (j:=j) hr hp hk hj hn (a:=a);have o43:=o 4 3 (by omega) (by omega) (by omega);have o42:=o 4 2 (by omega) (by omega) (by omega);have o41:=o 4 1 (by omega) (by omega) (by omega);have o32:=o 3 2 (by omega) (by omega) (by omega);have o31:=o 3 1 (by omega) (by omega) (by omega);have o21:=o 2 1 (by omega) (by omega) (by omega);clear o;generalize (atR h 1 (p.at 1) a).isSome=b1 at*;generalize (atR h 2 (p.at 2) a).isSome=b2 at*;generalize (atR h 3 (p.at 3) a).isSome=b3 at*;generalize (atR h 4 (p.at 4) a).isSome=b4 at*;cases b1<;>cases b2<;>cases b3<;>cases b4<;>simp_all
end
end Vm
namespace Vm
open Go Go.Proofs
def tgS(l:List Ob):List Int:=(l.filter (·.gone)).map (·.target)
theorem Z8g{α:Type}{l:List (Int×α)}{k:Int}{x:α}(h:getA l k=none):(putA l k x).length=l.length+1:=by
 grind [getA,Option.map_eq_none_iff,List.findIdx?_eq_none_iff,List.find?_eq_none,putA]
theorem TF{pm:List (Int×Int)}:∀ {l:List Ob} {m:List (Int×Bool)} {K:List Int},K.Nodup->(∀a,getA m a=if a∈K then some true else none)->m.length=K.length->
  match copQ pm l m with
  |some m'=>(∀t∈tgS l,(getA pm t).getD 0=1)/\(K++tgS l).Nodup/\m'.length=(K++tgS l).length/\∀a,getA m' a=if a∈K++tgS l then some true else none
  |none=>¬((∀t∈tgS l,(getA pm t).getD 0=1)/\(K++tgS l).Nodup)
 | [],m,K,hK,hm,hl=>by simp only[copQ,tgS,List.filter_nil,ZiL,ZhT];exact⟨by simp,hK,hl,hm⟩
 |o::l,m,K,hK,hm,hl=>by
  rw[copQ];cases hg:o.gone with
  |false=>
   rw[if_neg (by simp)];have:tgS (o::l)=tgS l:=by simp[tgS,hg]
   rw[this];exact TF hK hm hl
  |true=>
   rw[if_pos rfl];have ht:tgS (o::l)=o.target::tgS l:=by simp[tgS,hg]
   rw[ht];by_cases h1:(getA pm o.target).getD 0=1
   ·by_cases h2:o.target∈K
    ·rw[if_neg (by rw[hm,if_pos h2];simp)];rintro⟨_,hn⟩;exact(Zjv.1 hn).2.2 _ h2 _ (Zhj ..) rfl
    ·have hno:getA m o.target=none:=by rw[hm,if_neg h2]
     rw[if_pos ⟨h1,by rw[hno];rfl⟩]
     have ih:=TF (pm:=pm) (l:=l) (m:=putA m o.target true) (K:=K++[o.target]) (by
       rw[Zjv];refine⟨hK,by simp,λa ha b hb=> ?_⟩;simp at hb;subst hb;intro e;subst e;exact h2 ha) (λa=>by
       rw[Uj,hm];by_cases e:o.target=a
       ·simp[e]
       ·have e':¬a=o.target:=λx=>e x.symm;simp[e,e']) (by rw[Z8g hno,hl];simp)
     rw[ZhR,ZjB]at ih;cases hc:copQ pm l (putA m o.target true)with
     |none=>
      rw[hc]at ih;rintro⟨q1,q2⟩;exact ih ⟨λt ht=>q1 t (Zhb _ ht),q2⟩
     |some m'=>
      rw[hc]at ih;refine⟨λt ht=> ?_,ih.2⟩;rcases Zh0.1 ht with rfl|ht
      ·exact h1
      ·exact ih.1 t ht
   ·rw[if_neg (λhc=>h1 hc.1)];rintro⟨q1,_⟩;exact h1 (q1 _ (Zhj ..))
theorem jA{l:List Ob}{a:Int}:tgL l a=(tgS l).count a:=by
 unfold tgL tgS
 induction l with
 |nil=>rfl
 |cons o l ih=>
  grind
theorem Z87{T S:List Int}(hS:S.Nodup)(hTS:T⊆S):(T.Nodup/\T.length=S.length)↔ ∀a∈S,T.count a=1:=by
 constructor
 ·rintro⟨hT,hl⟩ a ha;rw[hT.count];by_cases hm:a∈T
  ·grind
  ·have h1:T⊆S.erase a:=λx hx=>(hS.mem_erase_iff).2 ⟨λe=>hm (e▸hx),hTS hx⟩;have h2:=hT.length_le_of_subset h1
   grind
 ·intro h
  have hT:T.Nodup:=List.nodup_iff_count.2 λa=>by
   grind
  refine⟨hT,Nat.le_antisymm (hT.length_le_of_subset hTS) (hS.length_le_of_subset λa ha=> ?_)⟩
  grind
section
variable {h:Hp}{s:Ck}{p:Pts}
theorem Found.copied(hf:Found h s p)(hr:Zl (layH h)=true)(hp:Yd h=some p):Va s=(!h.cycle||p.low.all (tgOk h p)):=by
 have hT:=Tg hp (k:=1) (by omega)
 have hS:(p.low.map λo=>ZP h 1 o.at_).Nodup:=by
  have:=Tiles.starts hr (k:=1) (by omega) hT;rw[List.nodup_iff_pairwise_ne,List.pairwise_map];exact this
 have hin:∀t∈tgS s.o3++tgS s.o4,t∈p.low.map λo=>ZP h 1 o.at_:=by
  intro t ht
  have:∃k,(3<=k/\k<=4)/\t∈tgS (p.at k):=by
   rcases Zh9.1 ht with ht|ht
   ·exact⟨3,by omega,by rw[hf.o3]at ht;exact ht⟩
   ·exact⟨4,by omega,by rw[hf.o4]at ht;exact ht⟩
  obtain⟨k,hk,ht⟩:=this;simp only[tgS,ZgX,Zjp]at ht;obtain⟨o,⟨ho,hg⟩,rfl⟩:=ht;obtain⟨q,hq,he,_⟩:=Kx hp hk ho hg;exact ZgX.2 ⟨q,hq,he⟩
 have hpm:∀t∈tgS s.o3++tgS s.o4,(getA s.pm t).getD 0=1:=by
  intro t ht;obtain⟨q,hq,he⟩:=ZgX.1 (hin t ht)
  have h1:(atR h 1 (p.at 1) t).isSome=true:=by
   unfold atR;rw[List.find?_isSome];exact⟨q,hq,by grind⟩
  have o:=λk hk hn=>Z8W (k:=1) (j:=k) hr hp (by omega) hk hn h1;rw[hf.pm_at,o 4 (by omega) (by omega),o 3 (by omega) (by omega),o 2 (by omega) (by omega),h1];rfl
 unfold Va;rw[hf.hp];cases hc:h.cycle
 ·rfl
 simp only[Zja,Zj8];have key:=Z87 hS (T:=tgS s.o3++tgS s.o4) hin
 have hall:p.low.all (tgOk h p)=true↔ ∀a∈(p.low.map λo=>ZP h 1 o.at_),(tgS s.o3++tgS s.o4).count a=1:=by
  rw[ZgT];constructor
  ·intro hx a ha;obtain⟨o,ho,rfl⟩:=ZgX.1 ha;have:=hx o ho;simp only[tgOk,Zh1,Z6U,jA]at this;rw[List.count_append,hf.o3,hf.o4];exact this
  ·intro hx o ho;have:=hx _ (ZgX.2 ⟨o,ho,rfl⟩);rw[List.count_append,hf.o3,hf.o4]at this;simp_all[tgOk,Zh1,Z6U,jA]
 rw[Zhu]at key;have c1:=TF (pm:=s.pm) (l:=s.o3) (m:=[]) (K:=[]) (by simp) (by simp[getA]) rfl;simp only[ZhM]at c1;rw[Bool.eq_iff_iff,hall,<-key];cases h1:copQ s.pm s.o3 []with
 |none=>
  grind
 |some m=>
  rw[h1]at c1;obtain⟨q1,q2,q3,q4⟩:=c1;simp only[ZgS];have c2:=TF (pm:=s.pm) (l:=s.o4) (m:=m) (K:=tgS s.o3) q2 q4 q3;cases h2:copQ s.pm s.o4 m with
  |none=>
   simp_all
  |some m'=>
   rw[h2]at c2;obtain⟨r1,r2,r3,r4⟩:=c2;simp only[Zh1,r3,hf.o1];simp_all
end
end Vm
namespace Vm
open Go Go.Proofs
theorem Lt:∀ {l:List Int} {ptrs:Int} {i:Nat},ZV l true ptrs i=true->∀w∈l,w=0
 | [],_,_,_,w,hw=>by simp at hw
 |x::l,ptrs,i,h,w,hw=>by
  simp only[ZV,ZgM,Zja,Zj8,Zh1]at h;rcases Zh0.1 hw with rfl|hw
  ·exact h.1.1
  ·exact Lt h.2 w hw
theorem U2{s:Ck}{k:Int}{q:Int->Int->Bool}:Vz s k q=true↔ ∀o∈s.obs k,o.gone=false->∀j,j<o.ptrs.toNat->q ((o.at_.toNat+1+j:Nat):Int) (Wu (Zm s.h k) (o.at_.toNat+1+j))=true:=by
 unfold Vz obQ
 grind
theorem Z6o{h:Hp}{p:Pts}(hp:Yd h=some p){k:Int}(hk:1<=k/\k<=4):WQ h p k=true↔ ∀o∈p.at k,o.gone=false->∀j,j<o.ptrs.toNat->R3 h p k (o.at_.toNat+1+j)=true:=by
 unfold WQ Z2f;rw[ZgT];constructor
 ·simp_all
 ·intro h' o ho;rw[ZgT];intro j hj;have hj:=ZiN.1 hj;cases hg:o.gone
  ·simp_all
  ·have hs:=((Tg hp hk).stands o ho).1;have hsh:=Zf.1 hs.shape;have h1:=hs.slots;rw[hg]at h1;have hz:=Lt h1;have hfit:=hs.fits;have hnat:=hs.nat;have hlt:o.at_.toNat+1+j< (Zm h k).length:=by omega
   have hw:(Zm h k)[o.at_.toNat+1+j]?=some 0:=by
    rw[ZgJ hlt];refine ZhV some (hz _ ?_);rw[ZjA];refine⟨j,?_⟩;rw[Zhm,if_pos (by omega),Zht,ZgJ hlt]
   grind [Xl,R3]
section
variable {h:Hp}{s:Ck}{p:Pts}
theorem Found.ptrs(hf:Found h s p)(hr:Zl (layH h)=true)(hp:Yd h=some p):(Vu s&&(Xp s&&Z0G s))=(h.roots.all (λw=>Xl h p w 1 2)&&WQ h p 1&&WQ h p 2&&WQ h p 3&&WQ h p 4):=by
 have hpt:=hf.points hr hp
 have hroots:s.h.roots.all (λw=>Zx s w 1 2)=h.roots.all (λw=>Xl h p w 1 2):=by
  rw[hf.hp];congr 1;funext w;exact(hpt w).1
 have hob:=λk=>hf.obs (k:=k)
 have hpk:∀(k:Int) (q:Nat->Int->Bool) (hk:1<=k/\k<=4),(∀a,R3 h p k a=q a (Wu (Zm h k) a))->(WQ h p k=true↔ ∀o∈p.at k,o.gone=false->∀j,j<o.ptrs.toNat->q (o.at_.toNat+1+j) (Wu (Zm h k) (o.at_.toNat+1+j))=true):=by
  intro k q hk hq;rw[Z6o hp hk];simp only[hq]
 have p2:=hpk 2 (λ_ w=>Xl h p w 1 2) (by omega) (λa=>by simp[R3,Wu]);have p3:=hpk 3 (λ_ w=>Xl h p w 3 4) (by omega) (λa=>by simp[R3,Wu]);have p4:=hpk 4 (λ_ w=>Xl h p w 3 4) (by omega) (λa=>by simp[R3,Wu]);have p1:=hpk 1 (λa w=>if h.scan<=a then Xl h p w 1 2||Xl h p w 3 4 else Xl h p w 1 2) (by omega) (λa=>by simp[R3,Wu])
 have q2:Vz s 2 (λ_ w=>Zx s w 1 2)=true↔WQ h p 2=true:=by
  rw[p2,U2,hob,hf.hp];simp only[(hpt _).1]
 have q3:Vz s 3 (λ_ w=>Zx s w 3 4)=true↔WQ h p 3=true:=by
  rw[p3,U2,hob,hf.hp];simp only[(hpt _).2.1]
 have q4:Vz s 4 (λ_ w=>Zx s w 3 4)=true↔WQ h p 4=true:=by
  rw[p4,U2,hob,hf.hp];simp only[(hpt _).2.1]
 have q1:(Vz s 1 (λa w=>decide (s.h.scan<=a)||Zx s w 1 2)=true/\Vz s 1 (λa w=>decide (a<s.h.scan)||Zx s w 1 4)=true)↔WQ h p 1=true:=by
  rw[p1,U2,U2,hob,hf.hp];simp only[(hpt _).1,(hpt _).2.2];constructor
  ·rintro⟨ha,hb⟩ o ho hg j hj;have ha:=ha o ho hg j hj;have hb:=hb o ho hg j hj;generalize o.at_.toNat+1+j=n at*;by_cases hs:h.scan<=(n:Int)
   ·have:¬(n:Int)<h.scan:=by omega
    simpa[hs,this]using hb
   ·simpa[hs]using ha
  ·intro hx;refine⟨λo ho hg j hj=> ?_,λo ho hg j hj=> ?_⟩
   ·have hx:=hx o ho hg j hj;generalize o.at_.toNat+1+j=n at*;by_cases hs:h.scan<=(n:Int)
    ·simp[hs]
    ·simpa[hs]using hx
   ·have hx:=hx o ho hg j hj;generalize o.at_.toNat+1+j=n at*;by_cases hs:h.scan<=(n:Int)
    ·have:¬(n:Int)<h.scan:=by omega
     simpa[hs,this]using hx
    ·have:(n:Int)<h.scan:=by omega
     simp[this]
 unfold Vu Xp Z0G;rw[hroots,Bool.eq_iff_iff];simp only[ZgM];rw[q2,q3,q4,<-q1];constructor
 ·rintro⟨⟨a,b,c⟩,d,e,f⟩;exact⟨⟨⟨⟨a,c,d⟩,b⟩,e⟩,f⟩
 ·rintro⟨⟨⟨⟨a,c,d⟩,b⟩,e⟩,f⟩;exact⟨⟨a,b,c⟩,d,e,f⟩
theorem Found.roomy(hf:Found h s p):JQ s=decide ((h.low.length:Int)+h.high.length+Rh p<=h.cap):=by
 unfold JQ y6 Rh;rw[hf.hp,hf.o3,hf.o4]
end
theorem ZcV(h:Hp):numR h=(Wj (ZX h)&&Vr (ZX h)):=by
 grind [numR,Wj,Vr,ZX,Zl,layH]
theorem SQ(h:Hp):(Tc h).isSome=Yq h/\∀s,Tc h=some s->∃p,Yd h=some p/\Found h s p:=by
 have hl:Tc h=(if Wj (ZX h)=true then if Vr (ZX h)=true then if(ZW (ZX h)).1=true then
   if Va (ZW (ZX h)).2=true then if Vu (ZW (ZX h)).2=true then if Xp (ZW (ZX h)).2=true then if Z0G (ZW (ZX h)).2=true then if JQ (ZW (ZX h)).2=true then
    some (ZW (ZX h)).2 else none else none else none else none else none else none else none else none):=rfl
 have hn:=ZcV h;unfold Yq;rw[hn];cases hb:Wj (ZX h)
 ·simp_all
 have hr:Zl (layH h)=true:=by
  unfold Wj at hb;simp only[ZgM]at hb;exact hb.1
 cases hre:Vr (ZX h)
 ·simp_all
 have hw:=jI hr;cases hp:Yd h with
 |none=>
  simp_all
 |some p=>
  rw[hp]at hw;obtain⟨h1,hf⟩:=hw;rw[hb,hre,h1]at hl;simp only[Zhp]at hl;generalize (ZW (ZX h)).2=s at*;have e1:=hf.copied hr hp;have e2:=hf.ptrs hr hp;have e3:=hf.roomy
  have e4:Sb h p=(Va s&&((Vu s&&(Xp s&&Z0G s))&&JQ s)):=by
   rw[e1,e2,e3];unfold Sb;simp only[Bool.and_assoc]
  grind
theorem Z5J(h:Hp)(k:Int):Z62 h k=Q0 h k:=by
 obtain⟨h1,h2⟩:=SQ h;unfold Z62 Q0;cases hl:Tc h with
 |none=>
  simp_all
 |some s=>
  rw[hl]at h1;have h1':Yq h=true:=h1.symm;obtain⟨p,hp,hf⟩:=h2 s hl;simp only[h1',true_and,hp,Zhe,hf.obs]
theorem Z5L(h:Hp):((Z2J h:Nat):Int)=Z4j h:=by
 obtain⟨h1,h2⟩:=SQ h;unfold Z2J Z4j;cases hl:Tc h with
 |none=>
  simp_all
 |some s=>
  rw[hl]at h1;have h1':Yq h=true:=h1.symm;obtain⟨p,hp,hf⟩:=h2 s hl;simp only[h1',hp,Zhe,Zhp];unfold y6 Rh;rw[hf.o3,hf.o4]
end Vm
end
section
namespace Vm
open Go Go.Proofs Go.RowKit
section
def SeqP{α:Type}(F:Fence)(n:Nat)(P:Program)(g:Nat)(lb:Array Value)(encs:α->Array Value)(Kp:World->World->Prop)(S:List α->World->Prop)(Pp:List PanicEntry->List α->World->Prop)(N:Nat)(bt:Option Nat)(Ex:World->Prop)(w:World):Prop:=
 ∀(l:Nat) (J:List α->World->Prop) (W:World),Below w.heap.size w W->(∀pre W,J pre W->Ex W)->(∀s A B row,J s A->A.grownBy B row->(∀r,row=some r->some r=bt)->J s B)->
  (∀pre x W1,J pre W1->pre.length<N->YieldAt F (n-1) P l (encs x) W1 λe W'=>e=.returned (.bool true)/\J (pre++[x]) W'/\Kp W1 W')->
  J [] W->
  CallsIn F n P g (#[.func (.yield l) #[] #[]]++lb) W λe W'=>(∃v xs,e=.returned v/\S xs W'/\J xs W')\/(∃chain pre,e=.panicked chain/\Pp chain pre W'/\J pre W')
def Zfr{α:Type}(B:Nat)(Kp:World->World->Prop)(I:List α->World->Prop)(xs:List α)(W:World):Exit->Act->World->Prop
 |.normal,_,W'=>KeepsFrom B W W'/\Kp W W'/\I xs W'
 |_,_,_=>False
def OwnP{β:Type}(bt:Option Nat)(B:Nat)(I:β->World->Prop):Prop:=
 ∀s X Y row,I s X->X.grownBy Y row->(∀r,row=some r->some r=bt\/(B<=r/\∃o:Obj,X.heap[r]?=some o/\o.isCells=false))->I s Y
theorem OwnP.putObj{β:Type}{bt:Option Nat}{B:Nat}{I:β->World->Prop}(h:OwnP bt B I){s:β}{W:World}{l:Nat}{o:Obj}(o':Obj)(hs:I s W)(hB:B<=l)(hl:W.heap[l]?=some o)(ho:o.isCells=false):I s (W.putObj l o'):=
 h s W _ (some l) hs (ZjN W l o') (λr e=>by cases e;exact .inr ⟨hB,o,hl,ho⟩)
theorem OwnP.alloc{β:Type}{bt:Option Nat}{B:Nat}{I:β->World->Prop}(h:OwnP bt B I){s:β}{W:World}(o:Obj)(hs:I s W):I s (W.alloc o):=
 h s W _ none hs (Zi5 W o none) (λr e=>by cases e)
variable {F:Fence}{n:Nat}{P:Program}
theorem Q5{α:Type}{g:Operand}{ps:Array Tmp}{assign body:Code}{Q:Exit->Act->World->Prop}{a:Act}{w:World}
  (hro:F.round=none) (h1:1<=n) {gf:Nat} {lb:Array Value} (hg:a.eval g=.func (.func gf) #[] lb) (hFg:F.fn gf) (eg:∀args w,(callFunc gf args).run P w=.ok (.enter gf args) w)
  {encs:α->Array Value} {Kp:World->World->Prop} {S:List α->World->Prop} {Pp:List PanicEntry->List α->World->Prop} {N:Nat} {bt:Option Nat} {Ex:World->Prop} {w0:World} (hseq:SeqP F (n-1) P gf lb encs Kp S Pp N bt Ex w0)
  (hbt:∀r,bt=some r->r<w.heap.size)
  (hKt:∀ {A B C:World},Kp A B->Kp B C->Kp A C) (hKb:∀(W:World) (l:Nat) (o o':Obj),w.heap.size<=l->W.heap[l]?=some o->o.isCells=false->o.isWalk=false->Kp W (W.putObj l o')) (hb0:Below w0.heap.size w0 w) (hps:∀x,(encs x).size=ps.size)
  (I:List α->World->Prop) (hI:OwnP bt w.heap.size I) (hEx:∀pre W,I pre W->Ex W) (h0:I [] w) (hS:OwnP none w.heap.size S) (Ax:α->Act->World->Prop) (hAx:∀x a',OwnP none w.heap.size (λ(_:Unit) W=>Ax x a' W))
  (hassign:∀(l:Nat) (pre:List α) (x:α) (W:World) (K:Act->World->Prop),I pre W->(∀a' W',KeepsFrom w.heap.size W W'->Kp W W'->I pre W'->Ax x a' W'->K a' W')->
   assign.wpIn (F.inRound l) (n-1-1) P (Exit.then K (λ_ _ _=>False)) {tmps:=(ps.zip (encs x)).foldl (λt (p,v)=>t.setIfInBounds p v) a.tmps,defers:=[]} W)
  (hbody:∀(l:Nat) (pre:List α) (x:α) (a':Act) (W:World),I pre W->Ax x a' W->pre.length<N->body.wpIn (F.inRound l) (n-1-1) P (Zfr w.heap.size Kp I (pre++[x]) W) a' W)
  (hdone:∀(D:Nat) (xs:List α) (W:World),w.heap.size<=D->S xs W->I xs W->W.heap[D]?=some (.deferred (some []))->Q .normal {a with defers:= {target:=.collected D,args:=#[]}::a.defers} W)
  (hpanic:∀(D:Nat) (chain:List PanicEntry) (pre:List α) (W:World),w.heap.size<=D->Pp chain pre W->I pre W->W.heap[D]?=some (.deferred (some []))->Q (.panic chain) {a with defers:= {target:=.collected D,args:=#[]}::a.defers} W):
  (Code.rangeFunc g ps assign body).wpIn F n P Q a w:=by
 refine wpIn_rangeFunc λfn hfn=> ?_;rw[hro];obtain⟨rec,hrec⟩:∃rec:LoopState->Option Code->Loop,rec=λst pe=> {state:=st,pending:=pe,fn,tmps:=a.tmps,params:=ps,assign,body,defers:=w.heap.size}:=⟨_,rfl⟩;obtain⟨W1,hW1⟩:∃W1,(w.alloc (.deferred (some []))).alloc (.loop (rec .ready none))=W1:=⟨_,rfl⟩
 have hL1:W1.heap[w.heap.size+1]?=some (.loop (rec .ready none)):=by
  have:=World.alloc_heap_new (w.alloc (.deferred (some []))) (.loop (rec .ready none));rw[World.size_alloc]at this;rw[<-hW1];exact this
 have hK1:W1.heap[w.heap.size]?=some (.deferred (some [])):=by
  rw[<-hW1];exact(ZhQ _ _ _ (by simp)).trans (World.alloc_heap_new w _)
 have hb1:Below w0.heap.size w0 W1:=by
  rw[<-hW1];exact hb0.trans ((((ZhA _ w).alloc (ZgP _) _).alloc (by simp) _).mono hb0.size)
 refine⟨w.heap.size+1,[{target:=.collected w.heap.size,args:=#[]}],W1,{target:=.fn (.func gf) lb,args:=#[.func (.yield (w.heap.size+1)) #[] #[]]},W1,gf,
  #[.func (.yield (w.heap.size+1)) #[] #[]]++lb,W1,?_,?_,?_,?_,λ_=>h1,?_⟩
 ·rw[<-hW1,hrec];exact run_enterLoop_outer _ _ _ _ _
 ·simp only[resolve,hg];simp[go_sem]
 ·intro f' hf';simp[Target.leads]at hf';subst hf';exact hFg
 ·simp[invoke,go_sem,eg]
 have hrow:∀ {A B:World} {row:Option Nat} {k:Nat} {o:Obj},A.grownBy B row->(∀r,row=some r->some r=bt)->w.heap.size<=k->A.heap[k]?=some o->B.heap[k]?=some o:=by
  intro A B row k o hgr hr hk ho;refine(hgr.block k (ZgO.1 ho).1 λe=> ?_).trans ho;have:=hbt k (hr k e.symm).symm;omega
 refine(hseq (w.heap.size+1) (λpre W=>I pre W/\W.heap[w.heap.size+1]?=some (.loop (rec .ready none))/\W.heap[w.heap.size]?=some (.deferred (some []))) W1 hb1 (λpre W h=>hEx pre W h.1)
  (λs A B row hs hgr hr=>⟨hI s A B row hs.1 hgr (λr e=>.inl (hr r e)),hrow hgr hr (by omega) hs.2.1,hrow hgr hr (ZgP _) hs.2.2⟩) ?_ ⟨by rw[<-hW1];exact hI.alloc _ (hI.alloc _ h0),hL1,hK1⟩).mono ?_
 ·rintro pre x W ⟨hi,hl,hk⟩ hlen;have hy:=run_yield (P:=P) (args:=encs x) hl (by rw[hrec];exact hps x);rw[hrec]at hy;refine⟨fn,_,assign,body,hy,roundIn_of_wpIn hfn (hassign _ pre x W _ hi ?_)⟩;intro a' V hkf hkp hiV hax;have hlV:=hkf.same _ _ (by omega) hl rfl;have hkV:=hkf.same _ _ (ZgP _) hk rfl;have hlt:w.heap.size+1<V.heap.size:=(ZgO.1 hlV).1;refine⟨_,run_beginRound hlV (by rw[hrec]),?_⟩;have hl2:(V.putObj (w.heap.size+1) (.loop {rec .ready none with state:=.busy})).heap[w.heap.size+1]?=some (.loop {rec .ready none with state:=.busy}):=World.putObj_heap_same hlt;have hk2:(V.putObj (w.heap.size+1) (.loop {rec .ready none with state:=.busy})).heap[w.heap.size]?=some (.deferred (some [])):=(ZhS (by omega)).trans hkV;have hp2:Kp V (V.putObj (w.heap.size+1) (.loop {rec .ready none with state:=.busy})):=hKb _ _ _ _ (by omega) hlV rfl rfl;refine wpIn_mono (hbody _ pre x a' _ (hI.putObj _ hiV (by omega) hlV rfl) ((hAx x a').putObj (s:=()) _ hax (by omega) hlV rfl) hlen) ?_;rintro e a3 W3 hp;cases e with
  |normal=>
   obtain⟨hk3,hkp3,hi3⟩:=hp;have hl3:=hk3.same _ _ (by omega) hl2 rfl;have hd3:=hk3.same _ _ (ZgP _) hk2 rfl;have hend:=run_endRound (P:=P) none hl3;refine⟨_,_,hend,rfl,⟨hI.putObj _ hi3 (by omega) hl3 rfl,?_,(ZhS (by omega)).trans hd3⟩,hKt hkp (hKt (hKt hp2 hkp3) (hKb _ _ _ _ (by omega) hl3 rfl rfl))⟩;rw[World.putObj_heap_same (ZgO.1 hl3).1,hrec];rfl
  |ret=>exact hp.elim
  |exit id=>exact hp.elim
  |goto t=>exact hp.elim
  |panic ch=>exact hp.elim
  |outgrown=>exact hp.elim
 ·rintro e W2 (⟨v,xs,rfl,hs,hi,hl,hk⟩|⟨chain,pre,rfl,hp,hi,hl,hk⟩)
  ·have hend:=run_endLoop (P:=P) hl (by rw[hrec];simp);rw[hrec]at hend;exact⟨none,_,hend,hdone _ xs _ (ZgP _) (hS.putObj _ hs (by omega) hl rfl) (hI.putObj _ hi (by omega) hl rfl) ((ZhS (by omega)).trans hk)⟩
  ·exact hpanic _ chain pre _ (ZgP _) hp hi hk
end
end Vm
end
section
namespace Vm
open Go
open Go.Proofs
def p135:Fn:=⟨4,[0,2,3,4],
pQ [pR [pV 1 pF],pC [pK 4 44 [.s 0]] [pV 2 (.ext (.s 4) 0),pV 3 (.ext (.s 4) 1)],.reg ⟨[.lt 5 [] (.bin .eql (.s 0) (pU 0))],[([(5,false)],.bin .eql (.s 3) (pI 0))],[pV 1 (.ite (.s 5) pT (.bin .eql (.s 3) (pI 0)))]⟩] .ret,[(1,.v)]⟩
def c135:Zj Sol.prog fresh sig [.fz] [] Try.f135=some p135:=by kernel_rfl
end Vm
end
section
namespace Vm
open Go Go.Proofs Go.RowKit
def Z2l{w:World}{B:Nat}{e:TypeId}{z n:Nat}{v:Value}{xs:List Value}(h:w.ownsRow B e z v n xs):∃a c,v=.slice a n c:=by
 rcases h.2 with ⟨rfl,rfl⟩|⟨g,cap,cur,rfl,_⟩
 ·exact⟨_,_,rfl⟩
 ·exact⟨_,_,rfl⟩
def YY{w:World}{b o:Nat}{cs:Array Value}{T:TypeId}(h:w.heap[b]?=some (.cells cs T (0,0))):w.frozen? ⟨b,o,none⟩=false:=by
 simp[World.frozen?,h]
def ZH{w:World}{b:Nat}{o:Obj}(h:w.heap[b]?=some o):b<w.heap.size:=(ZgO.1 h).1
def j0{w:World}{B B':Nat}{e:TypeId}{z n:Nat}{v:Value}{xs:List Value}(h:w.ownsRow B e z v n xs)(hB:B'<=B):w.ownsRow B' e z v n xs:=by
 refine⟨h.1,?_⟩;rcases h.2 with h2|⟨g,cap,cur,hv,hb,h3⟩
 ·exact .inl h2
 ·exact .inr ⟨g,cap,cur,hv,Zhc hB hb,h3⟩
def lsH(h:Hp)(j:Nat):List Int:=if j=0 then h.low else if j=1 then h.high else if j=2 then h.old else if j=3 then h.far else h.roots
def hpA(h:Hp)(x:Nat->Value):Value:=.agg #[.int .u64 h.base,.int .i64 h.cap,.int .i64 h.to,.bool h.cycle,.int .i64 h.scan,x 0,x 1,x 2,x 3,x 4]
def Zac{h:Hp}(hh:h.ok)(k:Nat):(lsH h k).length<=1000000:=by
 unfold lsH;split
 ·exact hh.low
 split
 ·exact hh.high
 split
 ·exact hh.old
 split
 ·exact hh.far
 ·exact hh.roots
section
def Z3l:V->Value
 |.int k n=>.int k n
 |.bool b=>.bool b
 |_=>undef
def Ko:V->Bool
 |.int _ _=>true
 |.bool _=>true
 |_=>false
def yH:V->Value
 |.agg cs=>.agg (cs.map Z3l).toArray
 |x=>Z3l x
def Kq:V->Bool
 |.agg cs=>cs.all Ko
 |x=>Ko x
def Z9K:V->Value
 |.tup l=>.tuple (l.map yH).toArray
 |x=>yH x
def Z7z:V->Bool
 |.tup l=>l.all Kq
 |x=>Kq x
variable {w:World}{G:Nat->Prop}
theorem Z8k{x:V}(h:Ko x=true):Rd w G x (Z3l x):=by
 cases x<;>simp[Ko]at h
 ·exact .int _ _
 ·exact .bool _
theorem Z8l{x:V}(h:Kq x=true):Rd w G x (yH x):=by
 cases x with
 |agg cs=>
  simp only[Kq,ZgT]at h;refine .agg _ _ (by simp) (λc hc=> ?_) λi c hc=> ?_
  ·have:=h c hc;cases c<;>simp[Ko]at this<;>rfl
  ·have h1:=Z8k (w:=w) (G:=G) (h c (ZgQ hc))
   have:((cs.map Z3l).toArray).getD i undef=Z3l c:=by
    obtain⟨hi,rfl⟩:=ZgL.1 hc;simp[Array.getD,hi]
   rw[this];exact h1
 |int k n=>exact .int _ _
 |bool b=>exact .bool _
 |_=>simp[Kq,Ko]at h
theorem Z7t{x:V}{v:Value}(h:Ko x=true)(r:Rd w G x v):v=Z3l x:=by
 cases x<;>simp[Ko]at h
 ·cases r;rfl
 ·cases r;rfl
theorem Z1L{x:V}{v:Value}(h:Kq x=true)(r:Rd w G x v):v=yH x:=by
 cases x with
 |agg cs=>
  simp only[Kq,ZgT]at h;cases r with
  |agg _ vs hl _ hr=>
   simp only[yH,Value.agg.injEq];apply Zks
   ·simpa using hl
   ·intro i h1 h2;have hi:i<cs.length:=by omega
    have hc:cs[i]?=some cs[i]:=ZgJ hi;have:=Z7t (h _ (ZgZ hi)) (hr i _ hc);simp[Array.getD,h1]at this;simpa using this
 |int k n=>cases r;rfl
 |bool b=>cases r;rfl
 |_=>simp[Kq,Ko]at h
theorem Z1M{x:V}{v:Value}(h:Z7z x=true)(r:Rd w G x v):v=Z9K x:=by
 cases x with
 |tup cs=>
  simp only[Z7z,ZgT]at h;cases r with
  |tup _ vs hl hr=>
   simp only[Z9K,Value.tuple.injEq];apply Zks
   ·simpa using hl
   ·intro i h1 h2;have hi:i<cs.length:=by omega
    have hc:cs[i]?=some cs[i]:=ZgJ hi;have:=Z1L (h _ (ZgZ hi)) (hr i _ hc);simp[Array.getD,h1]at this;simpa using this
 |agg cs=>exact Z1L (x:=.agg cs) h r
 |int k n=>cases r;rfl
 |bool b=>cases r;rfl
 |_=>simp[Z7z,Kq,Ko]at h
theorem WF{P:Program}{f:FuncId}{fr:Bool}{args:List V}{r:V}(h:VC P f fr args r)(ha:args.all Kq=true)(hr:Z7z r=true)(w:World):
  Calls P f (args.map yH).toArray w λe w'=>e=.returned (Z9K r)/\Below w.heap.size w w':=by
 simp only[ZgT]at ha;refine Zkb (h.2 w (λ_=>False) _ (by simp) (by simp) ?_) ?_
 ·intro i x hx;obtain⟨hi,rfl⟩:=ZgL.1 hx;have:((args.map yH).toArray).getD i undef=yH args[i]:=by simp[Array.getD,hi]
  rw[this];exact Z8l (ha _ (ZgZ hi))
 ·rintro e w' ⟨v,rfl,hb,hv⟩;exact⟨by rw[Z1M hr hv],hb⟩
def lyA(l:Ly):Value:=.agg #[.int .u64 l.base,.int .i64 l.cap,.int .i64 l.to,.int .i64 l.low,.int .i64 l.high,.int .i64 l.old,.int .i64 l.far]
theorem jR{l:Ly}(hl:l.fits)(part at_:Int)(w:World):Calls Sol.prog 75 #[lyA l,.agg #[.int .i64 part,.int .i64 at_]] w λe w'=>e=.returned (.tuple #[.int .u64 (ZI l part at_).1,.int .i64 (ZI l part at_).2])/\Below w.heap.size w w':=
 WF (Z1B hl) rfl rfl w
theorem WC{x:Int}(hx:U64 x)(w:World):Calls Sol.prog 44 #[.int .u64 x] w λe w'=>e=.returned (.tuple #[.int .u64 (adr x).1,.int .i64 (adr x).2])/\Below w.heap.size w w':=
 WF (ye hx) rfl rfl w
theorem UC{x:Int}(hx:U64 x)(w:World):Calls Sol.prog 69 #[.int .u64 x] w λe w'=>e=.returned (.tuple #[.agg #[.int .i64 (unpk x).1,.int .i64 (unpk x).2.1],.int .i64 (unpk x).2.2])/\Below w.heap.size w w':=
 WF (Z6Y hx) rfl rfl w
theorem y8{h:Hp}{x:Nat->Value}(hG:∀b,G b->b<w.heap.size)(hr:∀j,j<5->Rd w G (.sl ((lsH h j).map vu)) (x j)):
  Calls Sol.prog 64 #[hpA h x] w λe w'=>e=.returned (lyA (layH h))/\Below w.heap.size w w':=by
 refine Zkb ((y9 (h:=h)).2 w G _ hG rfl ?_) ?_
 ·intro i y hy
  match i,hy with
  |0,hy=>
   cases hy;refine .agg _ _ rfl (by simp[V.one]) ?_;intro i y hy
   match i,hy with
   |0,hy=>cases hy;exact .int _ _
   |1,hy=>cases hy;exact .int _ _
   |2,hy=>cases hy;exact .int _ _
   |3,hy=>cases hy;exact .bool _
   |4,hy=>cases hy;exact .int _ _
   |5,hy=>cases hy;exact hr 0 (by omega)
   |6,hy=>cases hy;exact hr 1 (by omega)
   |7,hy=>cases hy;exact hr 2 (by omega)
   |8,hy=>cases hy;exact hr 3 (by omega)
   |9,hy=>cases hy;exact hr 4 (by omega)
 ·rintro e w' ⟨v,rfl,hb,hv⟩;exact⟨by rw[Z1M (by rfl) hv];rfl,hb⟩
end
end Vm
end
