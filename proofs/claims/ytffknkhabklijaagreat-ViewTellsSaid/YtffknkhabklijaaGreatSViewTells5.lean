import Derived.ProofKit
import Derived.OpenShut
import Derived.Test.YtffknkhabklijaaGreatSViewTells4
set_option linter.unusedSimpArgs false
set_option linter.unusedVariables false
set_option linter.defProp false
set_option maxHeartbeats 1000000
set_option maxRecDepth 100000
def ZiP:=@List.take_append_drop
def Zix:=@List.append_nil
def ZhW:=@Int.tmod_eq_emod_of_nonneg
def ZiH:=@Int.tdiv_eq_ediv_of_nonneg
def Zkp:=@Int.fdiv_eq_ediv_of_nonneg
def ZhM:=@List.take_add_one
def ZkX:=@Int.emod_nonneg
def Zku:=@Int.emod_lt_of_pos
def Zjb:=@List.map_take
def Zl1:=@List.set_append_right
def ZhZ:=@List.drop_eq_getElem_cons
def Ziy:=@List.append_assoc
def Zk4:=@List.map_set
def ZjU:=@List.map_drop
def Zk2:=@List.drop_take
def ZkE:=@List.find?_append
def Zkv:=@List.filter_append
def Zkj:=@List.all_append
def ZjM:=@List.length_pos_iff
def Zkw:=@List.findIdx?_cons
def Zkk:=@List.find?_cons
def Zko:=@decide_true
def ZjS:=@Bool.true_eq_false
def ZhQ:=@List.findIdx?_eq_some_iff_getElem
def Zkm:=@List.take_succ_cons
def ZjT:=@List.length_eq_zero_iff
def ZjG:=@List.getElem?_eq_none_iff
def Zi8:=@Decidable.byContradiction
section
namespace Vm
open Go
open Go.Proofs
def sig(f:FuncId):Option (List OT):=
 if f=105 then some [.fz,.mem [.own 119],.mem [.own 3]]else
 if f=85 then some [.fz,.mem [.fz,.fz]]else
 if f=86 then some [.fz,.own 119]else
 if f=59 then some [.fz,.own 119]else
 if f=112 then some [.mem [.fz,.fz,.fz,.fz,.fz,.fz,.fz,.fz,.fz,.fz,.fz,.fz,.fz,.fz,.fz,.fz,.fz,.fz,.fz,.fz,.fz,.own 63,.own 144],.fz,.fz]else
 if f=98 then some [.mem [.fz,.fz,.fz,.fz,.fz,.fz,.fz,.fz,.fz,.fz,.fz,.fz,.fz,.fz,.fz,.fz,.fz,.fz,.fz,.fz,.fz,.own 63,.own 144]]else
 if f=1000105 then some [.mem [.fz,.fz,.fz,.fz,.fz,.fz,.fz,.fz,.fz,.fz,.fz,.fz,.fz,.fz,.fz,.fz,.fz,.fz,.fz,.fz,.fz,.own 63,.own 144]]else
 none
@[simp] def pI(n:Int):E:=.c (.int .i64 n)
@[simp] def pU(n:Int):E:=.c (.int .u64 n)
@[simp] def pF:E:=.c (.bool false)
@[simp] def pT:E:=.c (.bool true)
@[simp] def pN:E:=.c (.sl [])
@[simp] def pG(e:E):Nat->Nat->List E
 |_,0=>[]
 |i,n+1=>.fld e i::pG e (i+1) n
@[simp] def pS(a n:Nat):OV:=.m (pG (.sz (.s a) n) 0 n)
@[simp] def pM(e:E)(n:Nat):OV:=.m (pG e 0 n)
@[simp] def pY:E:=.ag [pU 0,pI 0,pI 0,pF,pI 0,pN,pN,pN,pN,pN]
@[simp] def pZ:OV:=.m [pU 0,pI 0,pI 0,pF,pI 0,pN,pN,pN,pN,pN]
@[simp] def pR(l:List (Nat×OV)):Stm:=.reg ⟨[],[],l⟩
@[simp] def pC(e:List EF)(l:List (Nat×OV)):Stm:=.reg ⟨e,[],l⟩
@[simp] def pV(t:Nat)(e:E):Nat×OV:=(t,.v e)
@[simp] def pK(t f:Nat)(l:List E):EF:=.call t [] (.id f) false false l
@[simp] def pQ:List Stm->Stm->Stm
 | [],z=>z
 |a::l,z=>.seq a (pQ l z)
def fresh(f:FuncId):Bool:=f==87||f==108||f==110
def follows:Sol.prog.follows .mixedOrders=true:=by kernel_rfl
section
def Z7T(x:Option V)(A B:Prop):Prop:=
 match x with
 |some (.bool true)=>A
 |some (.bool false)=>B
 |_=>False
@[simp]def Zbw(b:Bool)(A B:Prop):Z7T (some (.bool b)) A B↔if b=true then A else B:=by cases b<;>simp[Z7T]
def onO{α:Type}(x:Option α)(K:α->Prop):Prop:=
 match x with
 |some x=>K x
 |none=>False
@[simp]def ZeX{α:Type}(x:α)(K:α->Prop):onO (some x) K↔K x:=Zj1
@[simp]def ZeW{α:Type}(K:α->Prop):onO none K↔False:=Zj1
@[simp]def ZfF{α β:Type}(f:α->β)(x:Option α)(K:β->Prop):onO (x.map f) K↔onO x (λy=>K (f y)):=by cases x<;>rfl
@[simp]def ZeV{α β:Type}(f:α->Option β)(x:Option α)(K:β->Prop):onO (x.bind f) K↔onO x (λy=>onO (f y) K):=by cases x<;>rfl
@[simp]def ZfE{α:Type}(p:Prop) [Decidable p](x y:Option α)(K:α->Prop):onO (if p then x else y) K↔if p then onO x K else onO y K:=by split<;>rfl
def Z02(P:Program) [Lg P](f:FuncId)(fr fl:Bool)(xs:List V)(K:V->Prop):Prop:=∃r,VC P f fr xs r/\(fl=true->flV r=some r)/\K r
def Z0{P:Program} [Lg P]{f:FuncId}{fr fl:Bool}{xs:List V}{K:V->Prop}{r:V}(h:VC P f fr xs r)(hf:fl=true->flV r=some r)(hK:K r):Z02 P f fr fl xs K:=⟨r,h,hf,hK⟩
def Z1J(P:Program) [Lg P](f:FuncId)(ks:List OT)(xs:List V)(K:V->Prop):Prop:=∃R,VCM P f ks xs R/\K R
def Y9{P:Program} [Lg P]{f:FuncId}{ks:List OT}{xs:List V}{K:V->Prop}{R:V}(h:VCM P f ks xs R)(hK:K R):Z1J P f ks xs K:=⟨R,h,hK⟩
def kS(P:Program) [Lg P](b:Stm)(N:St->Prop)(X:Nat->St->Prop)(R:St->Prop)(s:St):Prop:=wpS P b s N X R
def xB(id:Nat)(N:St->Prop)(X:Nat->St->Prop)(i:Nat)(s:St):Prop:=if i=id then N s else X i s
def kR(chks:List (Zj×E))(outs:List (Nat×OV))(K:St->Prop)(t:St):Prop:=wpC t chks/\wpO outs t t K
def kO(l:List (Nat×OV))(t u:St)(i:Nat)(K:St->Prop)(x:SV):Prop:=wpO l t (putS u i x) K
def kL(P:Program) [Lg P](l:List EF)(s:St)(i:Nat)(K:St->Prop)(x:V):Prop:=wpE P l (putS s i (.v x)) K
def kA(P:Program) [Lg P](f:FuncId)(fr fl:Bool)(K:V->Prop)(xs:List V):Prop:=Z02 P f fr fl xs K
def kAE(P:Program) [Lg P](fr fl:Bool)(K:V->Prop)(xs:List V)(v:V):Prop:=onO (cloV v) λn=>Z02 P n.1 fr fl (xs++n.2) K
def kAF(P:Program) [Lg P](x:Option V)(fr fl:Bool)(K:V->Prop)(xs:List V):Prop:=onO x (kAE P fr fl K xs)
def kAM(P:Program) [Lg P](f:Option FuncId)(ks:List OT)(K:V->Prop)(xs:List V):Prop:=onO f λn=>Z1J P n ks xs K
def kW(P:Program) [Lg P](l:List EF)(s:St)(i:Nat)(K:St->Prop)(os:List V):Prop:=if os=[]then wpE P l s K else wpE P l (putS s i (.v (.tup (.bool false::os)))) K
def kT(_:V):Prop:=True
section
variable {P:Program}[Lg P]{N R:St->Prop}{X:Nat->St->Prop}{K:St->Prop}{s t u:St}
@[simp]def ZgX(b:Stm):kS P b N X R s↔wpS P b s N X R:=Zj1
@[simp]def Zgn(id:Nat):xB id N X id s↔N s:=by simp[xB]
def UK(id i:Nat):xB id N X i s↔if i=id then N s else X i s:=Zj1
@[simp]def Zh5{id i:Nat}(h:i≠id):xB id N X i s↔X i s:=by simp[xB,h]
@[simp]def ZgW(chks:List (Zj×E))(outs:List (Nat×OV)):kR chks outs K t↔wpC t chks/\wpO outs t t K:=Zj1
@[simp]def ZgV(l:List (Nat×OV))(i:Nat)(x:SV):kO l t u i K x↔wpO l t (putS u i x) K:=Zj1
@[simp]def ZgU(l:List EF)(i:Nat)(x:V):kL P l s i K x↔wpE P l (putS s i (.v x)) K:=Zj1
@[simp]def ZgT(f:FuncId)(fr fl:Bool)(K:V->Prop)(xs:List V):kA P f fr fl K xs↔Z02 P f fr fl xs K:=Zj1
@[simp]def ZeP(v:V)(fr fl:Bool)(K:V->Prop)(xs:List V):kAF P (some v) fr fl K xs↔kAE P fr fl K xs v:=Zj1
@[simp]def Zfy(f:FuncId)(cs:List V)(fr fl:Bool)(K:V->Prop)(xs:List V):kAE P fr fl K xs (.clo f cs)↔Z02 P f fr fl (xs++cs) K:=by simp[kAE,cloV]
@[simp]def ZeQ(f:FuncId)(ks:List OT)(K:V->Prop)(xs:List V):kAM P (some f) ks K xs↔Z1J P f ks xs K:=Zj1
@[simp]def Zfz(l:List EF)(i:Nat)(x:V)(os:List V):kW P l s i K (x::os)↔wpE P l (putS s i (.v (.tup (.bool false::x::os)))) K:=by simp[kW]
@[simp]def ZgY(x:V):kT x↔True:=Zj1
@[simp]def Zgk(r:Reg):wpS P (.reg r) s N X R↔wpR P r s N:=Zj1
@[simp]def Zfa:wpS P .skip s N X R↔N s:=Zj1
@[simp]def Zgm(a b:Stm):wpS P (.seq a b) s N X R↔wpS P a s (kS P b N X R) X R:=Zj1
@[simp]def Zf8(c:E)(a b:Stm):wpS P (.cond c a b) s N X R↔Z7T (eval s c) (wpS P a s N X R) (wpS P b s N X R):=by
 simp only[wpS,Z7T];generalize eval s c=x;cases x with
 |none=>rfl
 |some v=>cases v<;>first|rfl|(rename_i q;cases q<;>rfl)
@[simp]def Zen(id:Nat)(a:Stm):wpS P (.block id a) s N X R↔wpS P a s N (xB id N X) R:=Zj1
@[simp]def Zf9(id:Nat):wpS P (.exit id) s N X R↔X id s:=Zj1
@[simp]def Zgl:wpS P .ret s N X R↔R s:=Zj1
def ZK{keep:List Nat}{a:Stm}(I:St->Prop)(μ:St->Nat)(h0:I (YE keep s))(h1:∀s,I s->wpS P a s (λs'=>I (YE keep s')/\μ (YE keep s')<μ s) X R):wpS P (.loop keep a) s N X R:=⟨I,μ,h0,h1⟩
@[simp]def ZgM(efs:List EF)(chks:List (Zj×E))(outs:List (Nat×OV)):wpR P ⟨efs,chks,outs⟩ s K↔wpE P efs s (kR chks outs K):=Zj1
@[simp]def Zgj:wpO [] t u K↔K u:=Zj1
@[simp]def Zf7(i:Nat)(o:OV)(l:List (Nat×OV)):wpO ((i,o)::l) t u K↔onO (ovV t o) (kO l t u i K):=by
 simp only[wpO,onO,kO];cases ovV t o<;>rfl
@[simp]def Zgh:wpC t []↔True:=Zj1
@[simp]def Zf5(C:Zj)(e:E)(l:List (Zj×E)):wpC t ((C,e)::l)↔(Wk t C=true->onO (eval t e) kT)/\wpC t l:=by
 simp only[wpC,onO,kT];cases eval t e<;>simp
@[simp]def Zgi:wpE P [] s K↔K s:=Zj1
@[simp]def ZgL(i:Nat)(C:Zj)(e:E)(l:List EF):wpE P (.lt i C e::l) s K↔if Wk s C=true then onO (eval s e) (kL P l s i K)else wpE P l s K:=by
 simp only[wpE,onO,kL];cases eval s e<;>rfl
@[simp]def Zf6(i:Nat)(C:Zj)(f:FuncId)(fr fl:Bool)(es:List E)(l:List EF):wpE P (.call i C (.id f) fr fl es::l) s K↔if Wk s C=true then onO (Yb s es) (kA P f fr fl (kL P l s i K))else wpE P l s K:=by
 simp only[wpE,onO,kA,Z02,kL,fnV];cases Yb s es<;>simp
@[simp]def Zel(i:Nat)(C:Zj)(x:E)(fr fl:Bool)(es:List E)(l:List EF):wpE P (.call i C (.e x) fr fl es::l) s K↔if Wk s C=true then onO (Yb s es) (kAF P (eval s x) fr fl (kL P l s i K))else wpE P l s K:=by
 simp only[wpE,onO,kAF,kAE,Z02,kL,fnV];cases Yb s es with
 |none=>simp
 |some xs=>
  cases eval s x with
  |none=>simp
  |some v=>cases hv:cloV v<;>simp[hv]
@[simp]def Zem(i:Nat)(C:Zj)(f:FN)(ks:List OT)(es:List E)(l:List EF):wpE P (.callm i C f ks es::l) s K↔
  if Wk s C=true then onO (Yb s es) (kAM P (fnOf s f) ks (kL P l s i K))
  else onO (oldV s ks es) (kW P l s i K):=by
 simp only[wpE,onO,Z1J,kAM,kL,kW];split
 ·cases Yb s es<;>cases fnOf s f<;>simp
 ·cases oldV s ks es with
  |none=>simp
  |some os=>cases os<;>simp
@[simp]def Zh2(e:E):ovV t (.v e)=(eval t e).map .v:=rfl
@[simp]def Zh1(l:List E):ovV t (.m l)=(Yb t l).map .m:=rfl
@[simp]def ZgG:ovV t .no=some .no:=rfl
@[simp]def Zby:Wk s []=true:=rfl
def Z0q(i:Nat)(b:Bool)(C:Zj):Wk s ((i,b)::C)=((match get s i with|.v (.bool c)=>c==b|_=>false)&&Wk s C):=rfl
end
@[simp]def ZeN(x:SV)(s:St):get (x::s) 0=x:=rfl
@[simp]def ZeM(x:SV)(s:St)(n:Nat):get (x::s) (n+1)=get s n:=by simp[get]
@[simp]def ZdM(x y:SV)(s:St):putS (y::s) 0 x=x::s:=rfl
@[simp]def ZdL(x y:SV)(s:St)(n:Nat):putS (y::s) (n+1) x=y::putS s n x:=rfl
@[simp]def Z8H(x:SV):putS [] 0 x=[x]:=rfl
@[simp]def Z8G(x:SV)(n:Nat):putS [] (n+1) x=.no::putS [] n x:=rfl
@[simp]def Zdv(s:St):YE [] s=[]:=rfl
@[simp]def Zbz(i:Nat)(l:List Nat)(s:St):YE (i::l) s=putS (YE l s) i (get s i):=rfl
attribute [simp] ptV eval Yb Z0q resV JL Si finV QZ Xu Z3V argS Kc fnOf oldV
section
variable {k:IntKind}{a b:Int}{x y:V}{l r:List V}
@[simp]def Zep:binV .add (.int k a) (.int k b)=some (.int k (k.wrap (a+b))):=by simp[binV]
@[simp]def Zez:binV .sub (.int k a) (.int k b)=some (.int k (k.wrap (a-b))):=by simp[binV]
@[simp]def Zev:binV .mul (.int k a) (.int k b)=some (.int k (k.wrap (a*b))):=by simp[binV]
@[simp]def Zex:binV .quo (.int k a) (.int k b)=if b≠0 then some (.int k (k.wrap (a.tdiv b)))else none:=by simp[binV]
@[simp]def Zey:binV .rem (.int k a) (.int k b)=if b≠0 then some (.int k (a.tmod b))else none:=by simp[binV]
@[simp]def Zeq:binV .eql (.int k a) (.int k b)=some (.bool (decide (a=b))):=by simp[binV];rfl
@[simp]def Zew:binV .neq (.int k a) (.int k b)=some (.bool (!decide (a=b))):=by simp[binV];rfl
@[simp]def Zeu:binV .lss (.int k a) (.int k b)=some (.bool (decide (a<b))):=by simp[binV]
@[simp]def Zet:binV .leq (.int k a) (.int k b)=some (.bool (decide (a<=b))):=by simp[binV]
@[simp]def Zes:binV .gtr (.int k a) (.int k b)=some (.bool (decide (b<a))):=by simp[binV]
@[simp]def Zer:binV .geq (.int k a) (.int k b)=some (.bool (decide (b<=a))):=by simp[binV]
@[simp]def ZeG(p q n:Bool):eqV n (.bool p) (.bool q)=some (.bool (n ^^ (p==q))):=rfl
@[simp]def Zge:unV .neg (.int k a)=some (.int k (k.wrap (0-a))):=rfl
@[simp]def Zgf(p:Bool):unV .not (.bool p)=some (.bool !p):=rfl
@[simp]def ZbW(k':IntKind):Z3t k' (.int k a)=some (.int k' (k'.wrap a)):=rfl
@[simp]def ZfA:lenV (.sl l)=some (.int .i64 l.length):=rfl
@[simp]def ZeU(id:Nat)(vs:List V):qQ (.mp id l vs)=some (.int .i64 l.length):=rfl
@[simp]def ZeS(id:Nat)(vs:List V):Z67 (.mp id l vs)=some (.mp id [] []):=rfl
@[simp]def ZeT:minV (.int k a) (.int k b)=some (.int k (if b<a then b else a)):=rfl
@[simp]def ZeR:maxV (.int k a) (.int k b)=some (.int k (if b>a then b else a)):=rfl
@[simp]def ZeH(i:Nat):extV (.tup l) i=l[i]? :=rfl
@[simp]def ZeO(i n:Nat):idxV (.sl l) (.int k (i:Int)) n=(l[i]?).bind λz=>if z.cells.length=n then some z else none:=by simp[idxV]
@[simp]def ZbS:(V.int k a).cells=[V.int k a]:=rfl
@[simp]def Zbv(p:Bool):(V.bool p).cells=[V.bool p]:=rfl
@[simp]def ZbT(s:ByteArray):(V.str s).cells=[V.str s]:=rfl
@[simp]def ZeD:(V.sl l).cells=[V.sl l]:=rfl
@[simp]def ZbR:(V.agg l).cells=l:=rfl
@[simp]def ZeC(id:Nat):(V.mp id l r).cells=[V.mp id l r]:=rfl
@[simp]def ZeB(f:FuncId):(V.fn f).cells=[V.fn f]:=rfl
@[simp]def ZfN:(V.int k a).one=true:=rfl
@[simp]def Zf3(p:Bool):(V.bool p).one=true:=rfl
@[simp]def ZgF:(V.sl l).one=true:=rfl
@[simp]def ZgE(id:Nat):(V.mp id l r).one=true:=rfl
@[simp]def ZgD(f:FuncId):(V.fn f).one=true:=rfl
@[simp]def ZfK:(V.agg l).one=false:=rfl
@[simp]def Zf0:oneV (.int k a)=some (.int k a):=rfl
@[simp]def Zdu(p:Bool):oneV (.bool p)=some (.bool p):=rfl
@[simp]def Zf2(s:ByteArray):oneV (.str s)=some (.str s):=rfl
@[simp]def ZfJ:oneV (.sl l)=some (.sl l):=rfl
@[simp]def ZfI(id:Nat):oneV (.mp id l r)=some (.mp id l r):=rfl
@[simp]def ZfH(f:FuncId):oneV (.fn f)=some (.fn f):=rfl
@[simp]def ZeI(o:Nat):fldV (.agg l) o=(l[o]?).bind oneV:=rfl
@[simp]def ZeK:fldV (.int k a) 0=some (.int k a):=rfl
@[simp]def Zc3(p:Bool):fldV (.bool p) 0=some (.bool p):=rfl
@[simp]def Zfv:fldV (.sl l) 0=some (.sl l):=rfl
@[simp]def ZeL(s:ByteArray):fldV (.str s) 0=some (.str s):=rfl
@[simp]def ZcQ(o n:Nat):Q1 (.agg l) o n=if o+n<=l.length then some (.agg ((l.drop o).take n))else none:=rfl
@[simp]def ZfY(n:Nat):szV (.agg l) n=if l.length=n then some (.agg l)else none:=rfl
@[simp]def Zd5:Z0F (.agg l)=some (.agg l):=rfl
@[simp]def Zec:JY (.ptr l)=some (.agg l):=rfl
@[simp]def Zd6(p:Bool)(A B:Option V):iteV (.bool p) A B=if p=true then A else B:=by cases p<;>rfl
@[simp]def Zgo:agV l=.agg (flat l):=rfl
@[simp]def Zbx:flat (x::l)=x.cells++flat l:=rfl
@[simp]def Zc2:flat []=[]:=rfl
@[simp]def Zfe(n:Nat):appV n (.sl l) (.sl r)=if l.length+r.length<=lim/\YN n r=true then some (.sl (l++r))else none:=rfl
@[simp]def ZbB(n:Nat):YN n []=true:=rfl
@[simp]def Zbi(n:Nat):YN n (x::l)=(x.cells.length==n&&YN n l):=rfl
def Lz{α:Type}{f:α->V}{n:Nat}{l:List α}(h:∀x,(f x).cells.length=n):YN n (l.map f)=true:=by
 simp[YN,h]
@[simp]def Uh(l:List Int):YN 1 (l.map (V.int k))=true:=Lz λ_=>rfl
@[simp]def ZfB(n:Nat):mkV x (.int k (n:Int))=if n<=lim then some (.sl (List.replicate n x))else none:=by
 simp only[mkV];have:((n:Int)<=(lim:Nat))↔n<=lim:=by omega
 simp[this]
@[simp]def Z2I(i j n:Nat):slcV n (.sl l) (.int k (i:Int)) (.int k (j:Int))=if i<=j/\j<=l.length/\YN n l=true then some (.sl ((l.take j).drop i))else none:=by
 simp[slcV]
@[simp]def Zf4(i o:Nat):updV (.sl l) (.int k (i:Int)) o y=(l[i]?).bind λz=>if o+y.cells.length<=z.cells.length/\y.cells≠[]then some (.sl (l.set i (z.put o y.cells)))else none:=by
 simp[updV]
end
abbrev vi(n:Int):V:=.int .i64 n
abbrev vu(n:Int):V:=.int .u64 n
@[simp]def ZfC(n:Nat):((n:Int)<0)↔False:=⟨λh=>absurd h (by omega),False.elim⟩
def Z4(n:Int)(h1: -9223372036854775808<=n)(h2:n<=9223372036854775807):IntKind.i64.wrap n=n:=by
 rw[IntKind.wrap_i64];omega
end
end Vm
end
section
namespace Vm
open Go Go.ChangeShapes Go.WideShapes Go.ChangeAt Go.RowKit
section
def q9(P:Program)(n:Nat):List Field->Nat->Bool
 | [],o=>o==n
 |f::l,o=>f.offset==o&&q9 P n l (o+P.cellsOf f.type)
def okTy(P:Program):Nat->TypeId->Bool
 |0,_=>false
 |n+1,t=>match P.underlying t with
  |some .bool|some (.int _)|some .string=>true
  |some (.slice e)=>okTy P n e&&decide (0<P.cellsOf e)
  |some (.struct fs)=>q9 P (P.cellsOf t) fs.toList 0&&fs.toList.all λf=>okTy P n f.type
  |some (.array m e)=>okTy P n e&&m*P.cellsOf e==P.cellsOf t
  |_=>false
def tyV(P:Program):Nat->TypeId->V->Prop
 |0,_,_=>False
 |n+1,t,x=>match P.underlying t with
  |some .bool=>∃b,x=.bool b
  |some (.int k)=>∃m,x=.int k m/\(Lit.int k m).wf=true
  |some .string=>∃s,x=.str s/\s.size<=maxLen
  |some (.slice e)=>∃l,x=.sl l/\l.length<=maxLen/\∀y∈l,tyV P n e y
  |some (.struct fs)=>∃ys,x=.agg (flat ys)/\ys.length=fs.toList.length/\∀(i:Nat) (f:Field) (y:V),fs.toList[i]?=some f->ys[i]?=some y->tyV P n f.type y
  |some (.array m e)=>∃ys,x=.agg (flat ys)/\ys.length=m/\∀y∈ys,tyV P n e y
  |_=>False
def RdC(w:World)(G:Nat->Prop)(cs:List V)(vs:List Value):Prop:=
 vs.length=cs.length/\∀(i:Nat) (c:V),cs[i]?=some c->c.one=true/\∃u,vs[i]?=some u/\Rd w G c u
def RdC.nil{w:World}{G:Nat->Prop}:RdC w G [] []:=⟨rfl,λi c h=>by simp at h⟩
def RdC.append{w:World}{G:Nat->Prop}{cs cs':List V}{vs vs':List Value}(h:RdC w G cs vs)(h':RdC w G cs' vs'):RdC w G (cs++cs') (vs++vs'):=by
 refine⟨by simp[h.1,h'.1],λi c hi=> ?_⟩;rw[List.getElem?_append]at hi⊢;rw[h.1];split at hi
 ·rename_i hlt;rw[if_pos hlt];exact h.2 i c hi
 ·rename_i hlt;rw[if_neg hlt];exact h'.2 _ c hi
def RdC.one{w:World}{G:Nat->Prop}{c:V}{v:Value}(h1:c.one=true)(h:Rd w G c v):RdC w G [c] [v]:=
 ⟨rfl,λi x hi=>by
  cases i with
  |zero=>simp at hi;subst hi;exact⟨h1,v,rfl,h⟩
  |succ i=>simp at hi⟩
def Va{α:Type}{Q:Nat->α->Prop}:∀(n:Nat),(∀i,i<n->∃y,Q i y)->∃l:List α,l.length=n/\∀(i:Nat) (y:α),l[i]?=some y->Q i y
 |0,_=>⟨[],rfl,λi y h=>by simp at h⟩
 |n+1,h=>by
  obtain⟨l,h1,h2⟩:=Va n λi hi=>h i (by omega);obtain⟨y,hy⟩:=h n (by omega);refine⟨l++[y],by simp[h1],λi z hz=> ?_⟩;rw[List.getElem?_append]at hz;split at hz
  ·exact h2 i z hz
  ·rename_i hlt;rw[List.getElem?_singleton]at hz;split at hz
   ·rename_i he;have:i=n:=by omega
    subst this;simp only[Zh6]at hz;subst hz;exact hy
   ·cases hz
def SB{w:World}{b:Nat}{a:Addr}{n:Nat}{cs:List Value}(h:w.cells? b a n=some cs):cs.length=n/\∀i,i<n->w.cell? (a.add i)=cs[i]? :=by
 unfold World.cells? at h;split at h
 ·have h1:=mapM_some_length h;rw[ZkF]at h1;refine⟨h1,λi hi=>mapM_some_get h i i ?_⟩;rw[Zkl hi]
 ·cases h
def Zab{w:World}{a:Addr}{v:Value}(h:w.cell? a=some v):a.block<w.heap.size:=by
 unfold World.cell? at h;obtain h1|h1:=Zl4 a.block w.heap.size
 ·exact h1
 ·have:w.heap[a.block]?=none:=by simp[h1]
  simp[this]at h
def zS{w:World}{G:Nat->Prop}:∀ {ys:List V} {vss:List (List Value)},vss.length=ys.length->(∀(i:Nat) (y:V) (vs:List Value),ys[i]?=some y->vss[i]?=some vs->RdC w G y.cells vs)->RdC w G (flat ys) vss.flatten
 | [],[],_,_=>by simpa using RdC.nil
 | [],_::_,h,_=>by simp at h
 |_::_,[],h,_=>by simp at h
 |y::ys,vs::vss,h,hr=>by
  rw[WJ,List.flatten_cons];exact(hr 0 y vs rfl rfl).append (zS (by simpa using h) λi z us hz hu=>hr (i+1) z us (by simpa using hz) (by simpa using hu))
def Z20{P:Program}{n:Nat}{cs:List Value}:∀ {l:List Field} {o:Nat},q9 P n l o=true->o<=n/\(cs.length=n->cs.drop o=(l.map λf=>(cs.drop f.offset).take (P.cellsOf f.type)).flatten)
 | [],o,h=>by
   simp only[q9,ZhG]at h;subst h;exact⟨Zhe _,λhc=>by simp[<-hc]⟩
 |f::l,o,h=>by
  simp only[q9,Zhb,ZhG]at h;obtain⟨h1,h2⟩:=h;obtain⟨h3,h4⟩:=Z20 (cs:=cs) h2;refine⟨by omega,λhc=> ?_⟩;rw[ZhA,List.flatten_cons,<-h4 hc,h1,<-List.drop_drop,ZiP]
def Za0{cs:List Value}{k:Nat}:∀ {m:Nat},cs.length=m*k->cs=((List.range m).map λi=>(cs.drop (i*k)).take k).flatten:=by
 have:∀(m:Nat) (cs:List Value),cs.take (m*k)=((List.range m).map λi=>(cs.drop (i*k)).take k).flatten:=by
  intro m
  induction m with
  |zero=>intro cs;simp
  |succ m ih=>
   intro cs;rw[Zjx,Zic,List.flatten_append,<-ih,Ziq,List.take_add];simp
 intro m h;have h2:=this m cs;rw[ZhI (by omega)]at h2;exact h2
section
variable {H:Type}{enc:TypeId×Value->H}{P:Program}{w:World}{spare:Nat->Bool}{held:Bool}
def Sg:∀ {n:Nat} {t:TypeId} {fuel:Nat} {cs:List Value} {d:DataW H×List MemPlace},okTy P n t=true->DataW.trod enc P w 0 spare held fuel t cs=some d->
  ∃x,tyV P n t x/\RdC w (λb=>b<w.heap.size) x.cells cs
 |0,t,fuel,cs,d,hk,h=>by cases hk
 |n+1,t,fuel,cs,d,hk,h=>by
  unfold okTy at hk;unfold tyV;split at hk
  ·rename_i ht;obtain⟨b,rfl,_⟩:=DataW.trod_bool ht h;exact⟨.bool b,⟨b,rfl⟩,.one rfl (.bool b)⟩
  ·rename_i k ht;obtain⟨m,rfl,_,hw⟩:=DataW.trod_int ht h;exact⟨.int k m,⟨m,rfl,hw⟩,.one rfl (.int k m)⟩
  ·rename_i ht;obtain⟨s,rfl,_,hw⟩:=DataW.trod_string ht h;exact⟨.str s,⟨s,rfl,hw⟩,.one rfl (.str s)⟩
  ·rename_i e ht;simp only[Zhb,Zhw]at hk;obtain⟨hk1,hk2⟩:=hk;obtain⟨rfl,_⟩|⟨a,len,cap,elems,rest,m,_,rfl,_,_,hlc,hcm,hel,hat,_⟩:=DataW.trod_slice ht h
   ·exact⟨.sl [],⟨[],rfl,by simp,by simp⟩,.one rfl (.nil _ _ (Zim _))⟩
   ·have heach:∀i,i<len->∃y,tyV P n e y/\∃vs,w.cells? 0 (a.add (i*P.cellsOf e)) (P.cellsOf e)=some vs/\RdC w (λb=>b<w.heap.size) y.cells vs:=by
     intro i hi;have h1:=hat i hi;rw[Zh8 (by omega)]at h1;simp only[Zh7]at h1;obtain⟨vs,h2,h3⟩:=h1;obtain⟨y,hy,hr⟩:=Sg hk1 h3;exact⟨y,hy,vs,h2,hr⟩
    obtain⟨l,hl1,hl2⟩:=Va len heach
    have hty:∀y∈l,tyV P n e y:=λy hy=>by
     obtain⟨i,hi⟩:=Zhy hy;exact(hl2 i y hi).1
    refine⟨.sl l,⟨l,rfl,by omega,hty⟩,.one rfl ?_⟩;cases hlen:len with
    |zero=>
     have:l=[]:=Zi6 (by omega);subst this;exact .nil _ _ hcm
    |succ len'=>
     obtain⟨b,o,spot⟩:=a
     have hspot:spot=none:=by
      obtain⟨y,_,vs,hv,_⟩:=heach 0 (by omega);obtain⟨h1,h2⟩:=SB hv;have h3:=h2 0 hk2;rw[Zh8 (by omega)]at h3;have h4:=World.cell?_spot h3;cases spot with
      |none=>rfl
      |some s=>simp[Addr.add]at h4
     subst hspot
     have hcell:∀(i j:Nat) (y:V),l[i]?=some y->j<P.cellsOf e->∃(u:Value),w.cell? ⟨b,o+(i*P.cellsOf e+j),none⟩=some u/\∃c,y.cells[j]?=some c/\c.one=true/\Rd w (λb=>b<w.heap.size) c u:=by
      intro i j y hy hj;obtain⟨_,vs,hv,hr⟩:=hl2 i y hy;obtain⟨h1,h2⟩:=SB hv;have h3:=h2 j hj;rw[Zj6,Zj6,Zh8 (by omega)]at h3;have hyl:j<y.cells.length:=by rw[<-hr.1];omega
      obtain⟨q1,u,q2,q3⟩:=hr.2 j y.cells[j] (Zh8 hyl);rw[Zh8 (by omega),Zh6]at q2;subst q2;exact⟨_,by rw[<-ZiU];exact h3,_,Zh8 hyl,q1,q3⟩
     have hfit:∀y∈l,y.fits (P.cellsOf e):=λy hy=>by
      obtain⟨i,hi⟩:=Zhy hy;obtain⟨_,vs,hv,hr⟩:=hl2 i y hi;refine⟨by rw[<-hr.1,(SB hv).1],λc hc=> ?_⟩;obtain⟨j,hj⟩:=Zhy hc;exact(hr.2 j c hj).1
     have hdiv:∀i,i<l.length*P.cellsOf e->∃y,l[i / P.cellsOf e]?=some y/\i%P.cellsOf e<P.cellsOf e/\i=i / P.cellsOf e*P.cellsOf e+i%P.cellsOf e:=by
      intro i hi;have h1:i / P.cellsOf e<l.length:=(Zl3 hk2).2 hi;exact⟨_,Zh8 h1,Zkc _ hk2,by rw[Nat.mul_comm];exact(Nat.div_add_mod _ _).symm⟩
     have hb:b<w.heap.size:=by
      obtain⟨y,hy⟩:∃y,l[0]?=some y:=⟨_,Zh8 (by omega)⟩;obtain⟨u,hu,_⟩:=hcell 0 0 y hy hk2;exact Zab hu
     have hsl:=Rd.sl (w:=w) (G:=λb=>b<w.heap.size) l b o cap (P.cellsOf e) (λi=>(w.cell? ⟨b,o+i,none⟩).getD undef) (by omega) hcm hb hfit (λi hi=> ?_) (λi c hi=> ?_)
     ·rw[hl1,hlen]at hsl;exact hsl
     ·obtain⟨y,h1,h2,h3⟩:=hdiv i hi;obtain⟨u,hu,_⟩:=hcell _ _ y h1 h2;rw[<-h3]at hu;rw[hu];rfl
     ·have hil:i<l.length*P.cellsOf e:=by
       rw[<-Yk hfit];exact(Zh9.1 hi).1
      obtain⟨y,h1,h2,h3⟩:=hdiv i hil;obtain⟨u,hu,c',hc',_,hr⟩:=hcell _ _ y h1 h2;rw[<-h3]at hu;rw[h3,X2 hfit h1 _ h2,hc']at hi;cases hi;simp only[hu,ZhL];exact hr
  ·rename_i fs ht;simp only[Zhb,Zhm]at hk;obtain⟨hk1,hk2⟩:=hk;obtain⟨xs,m,_,_,hcl,hxl,hat⟩:=DataW.trod_struct ht h
   obtain⟨ys,hy1,hy2⟩:=Va (Q:=λi y=>∀f,fs.toList[i]?=some f->tyV P n f.type y/\RdC w (λb=>b<w.heap.size) y.cells ((cs.drop f.offset).take (P.cellsOf f.type))) fs.toList.length (by
    intro i hi;have hf:fs.toList[i]?=some fs.toList[i]:=Zh8 hi;have h1:=hat i fs.toList[i] (by simp);rw[Zh8 (by rw[hxl];exact hi)]at h1;obtain⟨y,hy,hr⟩:=Sg (hk2 _ (Zhi hi)) h1;exact⟨y,λf h2=>by rw[hf]at h2;cases h2;exact⟨hy,hr⟩⟩)
   refine⟨.agg (flat ys),⟨ys,rfl,hy1,λi f y hf hy=>(hy2 i y hy f hf).1⟩,?_⟩;have hcut:=(Z20 (cs:=cs) hk1).2 hcl;rw[List.drop_zero]at hcut;rw[hcut];refine zS (by simp[hy1]) λi y vs hy hv=> ?_;rw[Zhr,Zha]at hv;obtain⟨f,hf,rfl⟩:=hv;exact(hy2 i y hy f hf).2
  ·rename_i m e ht;simp only[Zhb,ZhG]at hk;obtain⟨hk1,hk2⟩:=hk;obtain⟨xs,q,_,_,hcl,hxl,hat⟩:=DataW.trod_array ht h
   obtain⟨ys,hy1,hy2⟩:=Va (Q:=λi y=>tyV P n e y/\RdC w (λb=>b<w.heap.size) y.cells ((cs.drop (i*P.cellsOf e)).take (P.cellsOf e))) m (by
    intro i hi;have h1:=hat i hi;rw[Zh8 (by omega)]at h1;exact Sg hk1 h1)
   refine⟨.agg (flat ys),⟨ys,rfl,hy1,λy hy=> ?_⟩,?_⟩
   ·obtain⟨i,hi⟩:=Zhy hy;exact(hy2 i y hi).1
   ·rw[Za0 (cs:=cs) (k:=P.cellsOf e) (m:=m) (by omega)];refine zS (by simp[hy1]) λi y vs hy hv=> ?_;rw[Zhr,Zha]at hv;obtain⟨j,hj,rfl⟩:=hv
    have:j=i:=by
     rw[Zh9]at hj;obtain⟨_,hj⟩:=hj;simpa using hj.symm
    subst this;exact(hy2 j y hy).2
  ·cases hk
def Z8L{n:Nat}{t:TypeId}{v:Value}{d:DataW H}{ps:List MemPlace}{r:Reach}{b0:Nat}(hk:okTy P n t=true)(hval:Value.okWide P w r b0 t v)(h:DataW.Trod enc P w 0 spare held t v d ps):
  ∃x,tyV P n t x/\Rd w (λb=>b<w.heap.size) x v:=by
 obtain⟨fuel,h⟩:=h;obtain⟨x,hx,hr⟩:=Sg hk h;refine⟨x,hx,?_⟩
 have h1:∀ {c:V},x=c->c.cells=[c]->v.cells.toList=[v]->Rd w (λb=>b<w.heap.size) x v:=by
  intro c he hc hv;subst he;rw[hc,hv]at hr;obtain⟨_,u,q1,q2⟩:=hr.2 0 x rfl;simp at q1;subst q1;exact q2
 have h2:∀ {cs:List V} {vs:Array Value},x=.agg cs->v=.agg vs->Rd w (λb=>b<w.heap.size) x v:=by
  intro cs vs he hv;subst he hv;refine .agg cs vs (by have:=hr.1;simpa[Value.cells]using this) (λc hc=> ?_) λi c hi=> ?_
  ·obtain⟨i,hi⟩:=Zhy hc;exact(hr.2 i c hi).1
  ·obtain⟨_,u,q1,q2⟩:=hr.2 i c hi
   have:vs.getD i undef=u:=by
    have q3:vs[i]?=some u:=by simpa[Value.cells]using q1
    simp[Zhc,q3]
   rw[this];exact q2
 cases n with
 |zero=>cases hk
 |succ n=>
  unfold okTy at hk;unfold tyV at hx;split at hk
  ·rename_i ht;rw[ht]at hx;obtain⟨b,rfl⟩:=hx;obtain⟨c,rfl⟩:=okWide_bool ht hval;exact h1 rfl rfl rfl
  ·rename_i k ht;rw[ht]at hx;obtain⟨b,rfl,_⟩:=hx;obtain⟨c,rfl⟩:=okWide_int ht hval;exact h1 rfl rfl rfl
  ·rename_i ht;rw[ht]at hx;obtain⟨b,rfl,_⟩:=hx;obtain⟨c,rfl⟩:=okWide_string ht hval;exact h1 rfl rfl rfl
  ·rename_i e ht;rw[ht]at hx;obtain⟨b,rfl,_⟩:=hx;obtain⟨c,_,_,rfl⟩:=okWide_slice ht hval;exact h1 rfl rfl rfl
  ·rename_i fs ht;rw[ht]at hx;obtain⟨b,rfl,_⟩:=hx;simp only[Value.okWide,ht]at hval;obtain⟨cs,rfl,_⟩:=hval;exact h2 rfl rfl
  ·rename_i m e ht;rw[ht]at hx;obtain⟨b,rfl,_⟩:=hx;simp only[Value.okWide,ht]at hval;obtain⟨cs,rfl,_⟩:=hval;exact h2 rfl rfl
  ·cases hk
def jl{n:Nat}{r:Reach}{b0:Nat}:∀ {ts:List TypeId} {vs:List Value} {ds:List (DataW H)} {ps:List MemPlace},DataW.TrodAll enc P w 0 spare held ts vs ds ps->(∀t∈ts,okTy P n t=true)->
  (∀(j:Nat) t v,ts[j]?=some t->vs[j]?=some v->Value.okWide P w r b0 t v)->
  ∃xs:List V,xs.length=vs.length/\vs.length=ts.length/\ds.length=ts.length/\(∀(i:Nat) (t:TypeId) (x:V),ts[i]?=some t->xs[i]?=some x->tyV P n t x)/\∀(i:Nat) (x:V) (v:Value),xs[i]?=some x->vs[i]?=some v->Rd w (λb=>b<w.heap.size) x v
 | [],vs,ds,ps,h,_,_=>by
   obtain⟨rfl,rfl,rfl⟩:=trodAll_nil h;exact⟨[],rfl,rfl,rfl,λi t x h=>by simp at h,λi x v h=>by simp at h⟩
 |t::ts,vs,ds,ps,h,hk,hval=>by
  obtain⟨v,vs',d,ds',p,q,rfl,rfl,rfl,h1,h2⟩:=trodAll_cons h;obtain⟨x,hx1,hx2⟩:=Z8L (hk t (by simp)) (hval 0 t v rfl rfl) h1;obtain⟨xs,q1,q2,q5,q3,q4⟩:=jl h2 (λt ht=>hk t (by simp[ht])) λj t' v' ht hv=>hval (j+1) t' v' (by simpa using ht) (by simpa using hv);refine⟨x::xs,by simp[q1],by simp[q2],by simp[q5],λi t' x' ht hx=> ?_,λi x' v' hx hv=> ?_⟩
  ·cases i with
   |zero=>simp at ht hx;subst ht hx;exact hx1
   |succ i=>exact q3 i t' x' (by simpa using ht) (by simpa using hx)
  ·cases i with
   |zero=>simp at hv hx;subst hv hx;exact hx2
   |succ i=>exact q4 i x' v' (by simpa using hx) (by simpa using hv)
def yr{W W':World}(hl:laidOutB P=true)(hb:Below W.heap.size W W'):∀ {ts:List TypeId} {vs:List Value} {ds:List (DataW H)} {ps:List MemPlace},DataW.TrodAll enc P W 0 (λ_=>true) true ts vs ds ps->
  (∀t∈ts,P.readableRec t=true/\t<P.types.size)->(∀x∈ps,x.block<W.heap.size)->DataW.TrodAll enc P W' 0 (λb=>decide (b<W.heap.size)) true ts vs ds ps
 | [],vs,ds,ps,h,_,_=>by
   obtain⟨rfl,rfl,rfl⟩:=trodAll_nil h;exact trodAll_mk0
 |t::ts,vs,ds,ps,h,hk,hlt=>by
  obtain⟨v,vs',d,ds',p,q,rfl,rfl,rfl,h1,h2⟩:=trodAll_cons h;exact trodAll_cons_mk (Below.trod hl (hk t (by simp)).1 (hk t (by simp)).2 h1 hb λx hx=>hlt x (by simp[hx])) (yr hl hb h2 (λt ht=>hk t (by simp[ht])) λx hx=>hlt x (by simp[hx]))
end
def zn{P:Program} [Lg P]{f:FuncId}{fn:Func}{s:ChangeSpec}{tb:TypeId}(n:Nat)(hl:laidOutB P=true)(hok:(fn.params.toList.all λt=>okTy P n t)=true)(hread:(fn.params.toList.all λt=>P.readableRec t&&decide (t<P.types.size))=true)
  (hvars:s.vars=[]) (hres:fn.resultTypes=#[tb]) (hb:P.underlying tb=some .bool)
  (hfn:∀(H:Type) (ds:List (DataW H)),ds.length=fn.params.toList.length->s.fn H ds= {results:=[.lit (.bool true)],args:=ds})
  (hlaw:∀xs:List V,xs.length=fn.params.toList.length->(∀(i:Nat) (t:TypeId) (x:V),fn.params.toList[i]?=some t->xs[i]?=some x->tyV P n t x)->VC P f false xs (.bool true))
  (H:Type) (enc:TypeId×Value->H) (W:World) (base:Nat) (args:Array Value) (ds gs:List (DataW H)) (before:List MemPlace)
  (hval:∀(j:Nat) t v,fn.params[j]?=some t->args[j]?=some v->Value.okWide P W .any base t v)
  (hW:DataW.Whole enc P fn.params.toList s.vars false W args.toList ds gs before):
  Lg.calls P f args W λe W'=>∃v,e=.returned v/\s.post enc P fn false true false false W args v W':=by
 have hlt:∀x∈before,x.block<W.heap.size:=λx hx=>by simpa using hW.lt x hx
 have hW':=hW;obtain⟨p,q,hA,hV,rfl,_,_⟩:=hW;rw[hvars]at hV;obtain⟨rfl,rfl⟩:=trodVars_none hV;rw[Zix]at hlt hW';obtain⟨xs,q1,q2,q5,q3,q4⟩:=jl (n:=n) hA (Zhm.1 hok) λj t v ht hv=>hval j t v (by simpa using ht) (by simpa using hv);obtain⟨_,hvc⟩:=hlaw xs (by rw[q1,q2]) q3;refine Lg.calls_mono (hvc W (λb=>b<W.heap.size) args (λb h=>h) (by simpa using q1.symm) λi x hx=> ?_) λe W' he=> ?_
 ·have hi:i<args.toList.length:=by rw[<-q1];exact(Zh9.1 hx).1
  have:args.getD i undef=args.toList[i]:=by
   have hi2:i<args.size:=by simpa using hi
   simp[Zhc,hi2]
  rw[this];exact q4 i x _ hx (Zh8 hi)
 ·obtain⟨v,rfl,hbel,hrd⟩:=he;cases hrd;refine⟨_,rfl,ds,[],p,[],p,[],hW',?_,?_,?_,hbel.frame _,λh=>by cases h⟩
  ·rw[hfn H _ (by rw[Zix];exact q5),hres];exact trodAll_mk1 (shut_bool hb true)
  ·rw[hfn H _ (by rw[Zix];exact q5),Zix];exact yr hl hbel hA (λt ht=>by simpa using Zhm.1 hread t ht) hlt
  ·rw[hvars,hfn H _ (by rw[Zix];exact q5)];rfl
def Z5W{α:Type}{enc:α->V}{Q:α->Prop}:∀ {l:List V},(∀y∈l,∃a,y=enc a/\Q a)->∃l':List α,l=l'.map enc/\∀a∈l',Q a
 | [],_=>⟨[],rfl,by simp⟩
 |y::l,h=>by
  obtain⟨a,rfl,ha⟩:=h y (by simp);obtain⟨l',rfl,hl⟩:=Z5W (l:=l) λz hz=>h z (ZhB _ hz)
  exact⟨a::l',rfl,λb hb=>by
   obtain rfl|hb:=Zho.1 hb
   ·exact ha
   ·exact hl b hb⟩
def Zbo{P:Program}{n:Nat}{t:TypeId}{x:V}(ht:P.underlying t=some .bool)(h:tyV P (n+1) t x):∃b,x=.bool b:=by
 unfold tyV at h;rw[ht]at h;exact h
def Z9S{P:Program}{n:Nat}{t:TypeId}{x:V}{k:IntKind}(ht:P.underlying t=some (.int k))(h:tyV P (n+1) t x):∃m,x=.int k m/\k.min<=m/\m<=k.max:=by
 unfold tyV at h;rw[ht]at h;obtain⟨m,rfl,hw⟩:=h;simp only[Lit.wf,Zhb,Zhw]at hw;exact⟨m,rfl,hw⟩
def ya{P:Program}{n:Nat}{t e:TypeId}{x:V}{α:Type}{enc:α->V}{Q:α->Prop}(ht:P.underlying t=some (.slice e))(h:tyV P (n+1) t x)(hQ:∀y,tyV P n e y->∃a,y=enc a/\Q a):∃l:List α,x=.sl (l.map enc)/\l.length<=maxLen/\∀a∈l,Q a:=by
 unfold tyV at h;rw[ht]at h;obtain⟨l,rfl,h1,h2⟩:=h;obtain⟨l',rfl,h3⟩:=Z5W λy hy=>hQ y (h2 y hy);exact⟨l',rfl,by simpa using h1,h3⟩
def K3{P:Program}{n:Nat}{t:TypeId}{x:V}{fs:Array Field}(ht:P.underlying t=some (.struct fs))(h:tyV P (n+1) t x):∃ys,x=.agg (flat ys)/\ys.length=fs.toList.length/\∀(i:Nat) (f:Field) (y:V),fs.toList[i]?=some f->ys[i]?=some y->tyV P n f.type y:=by
 unfold tyV at h;rw[ht]at h;exact h
end
end Vm
end
section
namespace Vm
open Go
open Go.Proofs
section
def Sd(s:St):List (Nat×SV)->St
 | []=>s
 |(i,x)::l=>Sd (putS s i x) l
@[simp]def ZdP(s:St):Sd s []=s:=rfl
@[simp]def ZbA(s:St)(i:Nat)(x:SV)(l:List (Nat×SV)):Sd s ((i,x)::l)=Sd (putS s i x) l:=rfl
section
variable {P:Program}[Lg P]{K K':St->Prop}
def Z2V(hK:∀s,K s->K' s){t:St}:∀ {l:List (Nat×OV)} {u:St},wpO l t u K->wpO l t u K'
 | [],_,h=>hK _ h
 | (i,o)::l,u,h=>by
   simp only[wpO]at h⊢;split
   ·rename_i x hx;rw[hx]at h;exact Z2V hK h
   ·rename_i hx;rw[hx]at h;exact h
def Wt(hK:∀s,K s->K' s):∀ {l:List EF} {s:St},wpE P l s K->wpE P l s K'
 | [],_,h=>hK _ h
 | .lt i C e::l,s,h=>by
   simp only[wpE]at h⊢;split
   ·rename_i hc;rw[if_pos hc]at h;split
    ·rename_i x hx;rw[hx]at h;exact Wt hK h
    ·rename_i hx;rw[hx]at h;exact h
   ·rename_i hc;rw[if_neg hc]at h;exact Wt hK h
 | .call i C f fr fl es::l,s,h=>by
   simp only[wpE]at h⊢;split
   ·rename_i hc;rw[if_pos hc]at h;split
    ·rename_i x n hx hn;rw[hx,hn]at h;obtain⟨r,h1,h2,h3⟩:=h;exact⟨r,h1,h2,Wt hK h3⟩
    ·rename_i hne;split at h
     ·rename_i x n hx hn;exact(hne x n hx hn).elim
     ·exact h
   ·rename_i hc;rw[if_neg hc]at h;exact Wt hK h
 | .callm i C f ks es::l,s,h=>by
   simp only[wpE]at h⊢;split
   ·rename_i hc;rw[if_pos hc]at h;split
    ·rename_i x n hx hn;rw[hx,hn]at h;obtain⟨r,h1,h3⟩:=h;exact⟨r,h1,Wt hK h3⟩
    ·rename_i hx;split at h
     ·rename_i x n h1 h2;exact(hx x n h1 h2).elim
     ·exact h
   ·rename_i hc;rw[if_neg hc]at h;split at h
    ·exact Wt hK h
    ·exact Wt hK h
    ·exact h.elim
def Wu:∀ {a:Stm} {s:St} {N N' R R':St->Prop} {X X':Nat->St->Prop},wpS P a s N X R->(∀s,N s->N' s)->(∀i s,X i s->X' i s)->(∀s,R s->R' s)->wpS P a s N' X' R'
 |.reg r,s,_,_,_,_,_,_,h,hN,_,_=>Wt (λt ht=>⟨ht.1,Z2V hN ht.2⟩) h
 |.skip,s,_,_,_,_,_,_,h,hN,_,_=>hN _ h
 |.seq a b,s,_,_,_,_,_,_,h,hN,hX,hR=>Wu (a:=a) (s:=s) h (λt ht=>Wu (a:=b) (s:=t) ht hN hX hR) hX hR
 | .cond c a b,s,_,_,_,_,_,_,h,hN,hX,hR=>by
   simp only[wpS]at h⊢;split
   ·rename_i hc;rw[hc]at h;exact Wu h hN hX hR
   ·rename_i hc;rw[hc]at h;exact Wu h hN hX hR
   ·rename_i h1 h2;split at h
    ·rename_i hc;exact(h1 hc).elim
    ·rename_i hc;exact(h2 hc).elim
    ·exact h
 | .block id a,s,_,_,_,_,_,_,h,hN,hX,hR=>Wu (a:=a) (s:=s) h hN (λi t ht=>by
   split
   ·rename_i hi;rw[if_pos hi]at ht;exact hN _ ht
   ·rename_i hi;rw[if_neg hi]at ht;exact hX _ _ ht) hR
 | .loop keep a,s,_,_,_,_,_,_,h,hN,hX,hR=>by
   obtain⟨I,m,h1,h2⟩:=h;exact⟨I,m,h1,λt ht=>Wu (a:=a) (s:=t) (h2 t ht) (λ_ h=>h) hX hR⟩
 |.exit id,s,_,_,_,_,_,_,h,_,hX,_=>hX _ _ h
 |.ret,s,_,_,_,_,_,_,h,_,_,hR=>hR _ h
end
def ZO{P:Program} [Lg P]{keep:List Nat}{a:Stm}{s:St}{N R:St->Prop}{X:Nat->St->Prop}{ι:Type}(L:ι->List (Nat×SV))(Inv:ι->Prop)(m:St->Nat)(p0:ι)
  (h0:YE keep s=Sd (YE keep s) (L p0)) (hI:Inv p0)
  (h1:∀p,Inv p->wpS P a (Sd (YE keep s) (L p)) (λs'=>∃q,Inv q/\YE keep s'=Sd (YE keep s) (L q)/\m (Sd (YE keep s) (L q))<m (Sd (YE keep s) (L p))) X R):
  wpS P (.loop keep a) s N X R:=by
 refine⟨λt=>∃p,Inv p/\t=Sd (YE keep s) (L p),m,⟨p0,hI,h0⟩,?_⟩;rintro t ⟨p,hp,rfl⟩;refine Wu (h1 p hp) (λs' hs=> ?_) (λ_ _ h=>h) (λ_ h=>h);obtain⟨q,hq,he,hm⟩:=hs;rw[he];exact⟨⟨q,hq,rfl⟩,hm⟩
def cnt(c:Nat)(n:Nat)(t:St):Nat:=match get t c with|.v (.int _ k)=>n-k.toNat|_=>0
def Y2{P:Program} [Lg P]{keep:List Nat}{a:Stm}{s:St}{N R:St->Prop}{X:Nat->St->Prop}(c n:Nat)(L:Nat->List (Nat×SV))(Inv:Nat->Prop)
  (h0:YE keep s=Sd (YE keep s) (L 0)) (hc:∀i,get (Sd (YE keep s) (L i)) c=.v (vi i)) (hI:Inv 0)
  (h1:∀i,i<=n->Inv i->wpS P a (Sd (YE keep s) (L i)) (λs'=>i<n/\Inv (i+1)/\YE keep s'=Sd (YE keep s) (L (i+1))) X R):
  wpS P (.loop keep a) s N X R:=by
 refine ZO L (λi=>i<=n/\Inv i) (cnt c n) 0 h0 ⟨by omega,hI⟩ ?_;rintro i ⟨hi,hv⟩;refine Wu (h1 i hi hv) (λs' hs=> ?_) (λ_ _ h=>h) (λ_ h=>h);obtain⟨h,hv',he⟩:=hs;refine⟨i+1,⟨by omega,hv'⟩,he,?_⟩;simp only[cnt,hc];simp;omega
def Xe{P:Program} [Lg P]{keep:List Nat}{a:Stm}{s:St}{N R:St->Prop}{X:Nat->St->Prop}(c n:Nat)(Inv:Nat->Prop)
  (h0:YE keep s=putS (YE keep s) c (.v (vi 0))) (hc:∀x,get (putS (YE keep s) c x) c=x) (hI:Inv 0)
  (h1:∀i,i<=n->Inv i->wpS P a (putS (YE keep s) c (.v (vi i))) (λs'=>i<n/\Inv (i+1)/\YE keep s'=putS (YE keep s) c (.v (vi (i+1)))) X R):
  wpS P (.loop keep a) s N X R:=
 Y2 c n (λi=>[(c,.v (vi i))]) Inv h0 (λi=>hc _) hI h1
end
def p29:Fn:=⟨5,[0,2,3,5,12],
pQ [pR [pV 1 (pU 0),pV 2 (pI 0)],pQ [pR [pV 3 (.bin .eql (.s 0) (pU 0))]] (.cond (.s 3) (pQ [pR [pV 1 (pU 0),pV 2 (pI 6)]] .ret) .skip),pQ [.reg ⟨[.lt 5 [] (.bin .eql (.bin .rem (.s 0) (pU 2)) (pU 0))],[([(5,false)],.bin .eql (.s 0) (pU 1))],[pV 4 (.ite (.s 5) pT (.bin .eql (.s 0) (pU 1)))]⟩] (.cond (.s 4) (pQ [pR [pV 1 (pU 0),pV 2 (pI 3)]] .ret) .skip),pR [pV 1 (.bin .quo (.s 0) (pU 2)),pV 2 (pI 0)]] .ret,[(1,.v),(2,.v)]⟩
def c29:Za Sol.prog fresh sig [.fz] [] Tryz.f29=some p29:=by kernel_rfl
def p47:Fn:=⟨5,[0,2,3,4,20],
pQ [pR [(1,.m [pI 0,pI 0]),pV 2 (pI 0)],pR [(3,pM (.ag [.conv .i64 (.bin .rem (.bin .shr (.s 0) (pU 1)) (pU 65536)),.conv .i64 (.bin .shr (.s 0) (pU 17))]) 2)],pQ [.reg ⟨[.lt 5 [] (.bin .neq (.bin .rem (.s 0) (pU 2)) (pU 0)),.call 6 [(5,false)] (.id 78) false false [.mm 3 0 2]],[([(5,false)],.un .not (.s 6))],[pV 4 (.ite (.s 5) pT (.un .not (.s 6)))]⟩] (.cond (.s 4) (pQ [pR [(1,pM (.ag [pI 0,pI 0]) 2),pV 2 (pI 3)]] .ret) .skip),pR [(1,pM (.mm 3 0 2) 2),pV 2 (pI 0)]] .ret,[(1,(.ag 2)),(2,.v)]⟩
def c47:Za Sol.prog fresh sig [.fz] [] Tryz.f47=some p47:=by kernel_rfl
def p68:Fn:=⟨5,[0,2,3,5,12],
pQ [pR [pV 1 (pU 0),pV 2 (pI 0)],pQ [pR [pV 3 (.bin .eql (.s 0) (pU 0))]] (.cond (.s 3) (pQ [pR [pV 1 (pU 0),pV 2 (pI 6)]] .ret) .skip),pQ [.reg ⟨[.lt 5 [] (.bin .eql (.bin .rem (.s 0) (pU 2)) (pU 0))],[([(5,false)],.bin .eql (.s 0) (pU 1))],[pV 4 (.ite (.s 5) pT (.bin .eql (.s 0) (pU 1)))]⟩] (.cond (.s 4) (pQ [pR [pV 1 (pU 0),pV 2 (pI 3)]] .ret) .skip),pR [pV 1 (.bin .quo (.s 0) (pU 2)),pV 2 (pI 0)]] .ret,[(1,.v),(2,.v)]⟩
def c68:Za Sol.prog fresh sig [.fz] [] Tryz.f68=some p68:=by kernel_rfl
def p78:Fn:=⟨3,[0,1,2],
pQ [pR [(1,pS 0 2),pV 2 pF],.reg ⟨[.lt 3 [] (.bin .geq (.m 1 0) (pI 0)),.lt 4 [] (.ite (.s 3) (.bin .leq (.m 1 0) (pI 255)) pF),.lt 5 [] (.ite (.s 4) (.bin .geq (.m 1 1) (pI 0)) pF)],[([(3,true)],.bin .leq (.m 1 0) (pI 255)),([(4,true)],.bin .geq (.m 1 1) (pI 0)),([(5,true)],.bin .leq (.m 1 1) (.m 1 0))],[pV 2 (.ite (.s 5) (.bin .leq (.m 1 1) (.m 1 0)) pF)]⟩] .ret,[(2,.v)]⟩
def c78:Za Sol.prog fresh sig [.fz] [] Tryz.f78=some p78:=by kernel_rfl
def p82:Fn:=⟨6,[0,1,2,3,4,8],
pQ [pR [(1,pS 0 2),pV 2 (pU 0),pV 3 (pI 0)],pC [pK 6 104 [.mm 1 0 2]] [pV 4 (.s 6)],pQ [pR [pV 5 (.un .not (.s 4))]] (.cond (.s 5) (pQ [pR [pV 2 (pU 0),pV 3 (pI 1)]] .ret) .skip),pR [pV 2 (.bin .mul (pU 2) (.bin .add (.conv .u64 (.m 1 0)) (.bin .mul (pU 65536) (.conv .u64 (.m 1 1))))),pV 3 (pI 0)]] .ret,[(2,.v),(3,.v)]⟩
def c82:Za Sol.prog fresh sig [.fz] [] Tryz.f82=some p82:=by kernel_rfl
def p84:Fn:=⟨4,[0,2,3,9],
pQ [pR [pV 1 (pU 0),pV 2 (pI 0)],pQ [.reg ⟨[.lt 4 [] (.bin .lss (.s 0) (pU 1))],[([(4,false)],.bin .gtr (.s 0) (pU 9223372036854775807))],[pV 3 (.ite (.s 4) pT (.bin .gtr (.s 0) (pU 9223372036854775807)))]⟩] (.cond (.s 3) (pQ [pR [pV 1 (pU 0),pV 2 (pI 1)]] .ret) .skip),pR [pV 1 (.bin .add (.bin .mul (pU 2) (.s 0)) (pU 1)),pV 2 (pI 0)]] .ret,[(1,.v),(2,.v)]⟩
def c84:Za Sol.prog fresh sig [.fz] [] Tryz.f84=some p84:=by kernel_rfl
def p104:Fn:=⟨3,[0,1,2],
pQ [pR [(1,pS 0 2),pV 2 pF],.reg ⟨[.lt 3 [] (.bin .geq (.m 1 0) (pI 0)),.lt 4 [] (.ite (.s 3) (.bin .leq (.m 1 0) (pI 255)) pF),.lt 5 [] (.ite (.s 4) (.bin .geq (.m 1 1) (pI 0)) pF)],[([(3,true)],.bin .leq (.m 1 0) (pI 255)),([(4,true)],.bin .geq (.m 1 1) (pI 0)),([(5,true)],.bin .leq (.m 1 1) (.m 1 0))],[pV 2 (.ite (.s 5) (.bin .leq (.m 1 1) (.m 1 0)) pF)]⟩] .ret,[(2,.v)]⟩
def c104:Za Sol.prog fresh sig [.fz] [] Tryz.f104=some p104:=by kernel_rfl
def p107:Fn:=⟨7,[0,2,3,4,5,6,27],
pQ [pR [(1,.m [pI 0,pI 0]),pV 2 (pI 0)],pR [(3,pM (.ag [.conv .i64 (.bin .rem (.bin .quo (.s 0) (pU 2)) (pU 65536)),.conv .i64 (.bin .rem (.bin .quo (.s 0) (pU 131072)) (pU 65536))]) 2)],pC [pK 7 82 [.mm 3 0 2]] [pV 4 (.ext (.s 7) 0),pV 5 (.ext (.s 7) 1)],pQ [.reg ⟨[.lt 8 [] (.bin .neq (.s 5) (pI 0))],[([(8,false)],.bin .neq (.s 4) (.s 0))],[pV 6 (.ite (.s 8) pT (.bin .neq (.s 4) (.s 0)))]⟩] (.cond (.s 6) (pQ [pR [(1,pM (.ag [pI 0,pI 0]) 2),pV 2 (pI 3)]] .ret) .skip),pR [(1,pM (.mm 3 0 2) 2),pV 2 (pI 0)]] .ret,[(1,(.ag 2)),(2,.v)]⟩
def c107:Za Sol.prog fresh sig [.fz] [] Tryz.f107=some p107:=by kernel_rfl
end Vm
end
section
namespace Vm
open Go Go.Proofs
def Fit(n:Int):Prop:= -9223372036854775808<=n/\n<=9223372036854775807
def U64(n:Int):Prop:=0<=n/\n<18446744073709551616
def Zs(n:Int)(h1:0<=n)(h2:n<=18446744073709551615):IntKind.u64.wrap n=n:=by
 rw[IntKind.wrap_u64];omega
def Zt{α:Type}{l:List α}{i:Nat}{x:α}(h:l[i]?=some x):∀hl:i<l.length,l[i]'hl=x:=λhl=>by
 rw[Zh8 hl]at h;exact ZiF h
def Zm(size ptrs:Int):Bool:=decide (0<=size)&&decide (size<=255)&&decide (0<=ptrs)&&decide (ptrs<=size)
theorem Zb{s p:Int}:Zm s p=true↔0<=s/\s<=255/\0<=p/\p<=s:=by simp[Zm,and_assoc]
def Z4f{s p:Int}:Zm s p=false↔ ¬(0<=s/\s<=255/\0<=p/\p<=s):=by rw[<-Zb];simp
abbrev shV(s p:Int):V:=.agg [vi s,vi p]
def jp{s p:Int}:VC Sol.prog 78 false [shV s p] (.bool (Zm s p)):=by
 refine Z5 Sol.func78 follows (by kernel_rfl) c78 rfl ?_;by_cases h1:0<=s<;>by_cases h2:s<=255<;>by_cases h3:0<=p<;>by_cases h4:p<=s<;>simp[p78,Zm,h1,h2,h3,h4]
def RQ{s p:Int}:VC Sol.prog 104 false [shV s p] (.bool (Zm s p)):=by
 refine Z5 Sol.func104 follows (by kernel_rfl) c104 rfl ?_;by_cases h1:0<=s<;>by_cases h2:s<=255<;>by_cases h3:0<=p<;>by_cases h4:p<=s<;>simp[p104,Zm,h1,h2,h3,h4]
def adr(w:Int):Int×Int:=if w=0 then(0,6)else if w%2=0\/w=1 then(0,3)else(w / 2,0)
def yp{w:Int}(hw:U64 w):VC Sol.prog 29 false [vu w] (.tup [vu (adr w).1,vi (adr w).2]):=by
 refine Z5 Sol.func29 follows (by kernel_rfl) c29 rfl ?_;obtain⟨h1,h2⟩:=hw;have e1:w.tmod 2=w%2:=ZhW h1;have e2:w.tdiv 2=w / 2:=ZiH h1;have e3:=Zs (w / 2) (by omega) (by omega);by_cases h0:w=0
 ·simp[p29,adr,h0]
 ·by_cases h3:w%2=0
  ·simp[p29,adr,h0,e1,h3]
  ·by_cases h4:w=1
   ·subst h4;simp[p29,adr]
   ·simp[p29,adr,h0,e1,e2,h3,h4,e3]
def U9{w:Int}(hw:U64 w):VC Sol.prog 68 false [vu w] (.tup [vu (adr w).1,vi (adr w).2]):=by
 refine Z5 Sol.func68 follows (by kernel_rfl) c68 rfl ?_;obtain⟨h1,h2⟩:=hw;have e1:w.tmod 2=w%2:=ZhW h1;have e2:w.tdiv 2=w / 2:=ZiH h1;have e3:=Zs (w / 2) (by omega) (by omega);by_cases h0:w=0
 ·simp[p68,adr,h0]
 ·by_cases h3:w%2=0
  ·simp[p68,adr,h0,e1,h3]
  ·by_cases h4:w=1
   ·subst h4;simp[p68,adr]
   ·simp[p68,adr,h0,e1,e2,h3,h4,e3]
def zR(a:Int):Int×Int:=if a<1\/9223372036854775807<a then(0,1)else(2*a+1,0)
def Z1f{a:Int}(hw:U64 a):VC Sol.prog 84 false [vu a] (.tup [vu (zR a).1,vi (zR a).2]):=by
 refine Z5 Sol.func84 follows (by kernel_rfl) c84 rfl ?_;obtain⟨h1,h2⟩:=hw;by_cases h3:a<1
 ·simp[p84,zR,h3]
 ·by_cases h4:9223372036854775807<a
  ·simp[p84,zR,h3,h4]
  ·have e1:=Zs (2*a) (by omega) (by omega);have e2:=Zs (2*a+1) (by omega) (by omega);simp[p84,zR,h3,h4,e1,e2]
def Jy(s p:Int):Int×Int:=if Zm s p then(2*(s+65536*p),0)else(0,1)
def Lp{s p:Int}:VC Sol.prog 82 false [shV s p] (.tup [vu (Jy s p).1,vi (Jy s p).2]):=by
 refine Z5 Sol.func82 follows (by kernel_rfl) c82 rfl ?_;simp[p82];refine Z0 RQ (by simp) ?_;cases h:Zm s p
 ·simp[Jy,h]
 ·obtain⟨h1,h2,h3,h4⟩:=Zb.1 h;have e1:=Zs s (by omega) (by omega);have e2:=Zs p (by omega) (by omega);have e3:=Zs (65536*p) (by omega) (by omega);have e4:=Zs (s+65536*p) (by omega) (by omega);have e5:=Zs (2*(s+65536*p)) (by omega) (by omega);simp[Jy,h,e1,e2,e3,e4,e5]
def unpk(w:Int):Int×Int×Int:=if w%2=0/\Zm (w / 2%65536) (w / 131072)=true then(w / 2%65536,w / 131072,0)else(0,0,3)
def Z7n{w:Int}(hw:U64 w):VC Sol.prog 47 false [vu w] (.tup [shV (unpk w).1 (unpk w).2.1,vi (unpk w).2.2]):=by
 refine Z5 Sol.func47 follows (by kernel_rfl) c47 rfl ?_;obtain⟨h1,h2⟩:=hw
 have s1:w.fdiv (2 ^ min 1 IntKind.u64.bits)=w / 2:=by
  rw[show(2:Int) ^ min 1 IntKind.u64.bits=2 by decide];exact Zkp _ (by omega)
 have s2:w.fdiv (2 ^ min 17 IntKind.u64.bits)=w / 131072:=by
  rw[show(2:Int) ^ min 17 IntKind.u64.bits=131072 by decide];exact Zkp _ (by omega)
 have m1:=Zs (w / 2) (by omega) (by omega);have m2:=Zs (w / 131072) (by omega) (by omega);have e1:w.tmod 2=w%2:=ZhW h1;have e2:(w / 2).tmod 65536=w / 2%65536:=ZhW (by omega);have e3:=Z4 (w / 2%65536) (by omega) (by omega);have e4:=Z4 (w / 131072) (by omega) (by omega);simp[p47,binV,s1,s2,e1,e2,e3,e4,m1,m2];by_cases h3:w%2=0
 ·simp[h3];refine Z0 jp (by simp) ?_;cases h4:Zm (w / 2%65536) (w / 131072)
  ·simp[unpk,h3,h4]
  ·simp[unpk,h3,h4]
 ·simp[h3,unpk]
def Lq{w:Int}(hw:U64 w):VC Sol.prog 107 false [vu w] (.tup [shV (unpk w).1 (unpk w).2.1,vi (unpk w).2.2]):=by
 refine Z5 Sol.func107 follows (by kernel_rfl) c107 rfl ?_;obtain⟨h1,h2⟩:=hw;have s1:w.tdiv 2=w / 2:=ZiH h1;have s2:w.tdiv 131072=w / 131072:=ZiH h1;have e0:=Zs (w / 2) (by omega) (by omega);have e0':=Zs (w / 131072) (by omega) (by omega);have e2:(w / 2).tmod 65536=w / 2%65536:=ZhW (by omega);have e2':(w / 131072).tmod 65536=w / 131072%65536:=ZhW (by omega);have e3:=Z4 (w / 2%65536) (by omega) (by omega);have e4:=Z4 (w / 131072%65536) (by omega) (by omega);simp[p107,s1,s2,e0,e0',e2,e2',e3,e4];refine Z0 Lp (by simp) ?_;unfold Jy unpk;cases h:Zm (w / 2%65536) (w / 131072%65536)
 ·have:¬(w%2=0/\Zm (w / 2%65536) (w / 131072)=true):=by
   rintro⟨h3,h4⟩;have h5:=Zb.1 h4;have h6:=Z4f.1 h;omega
  simp[this]
 ·have h5:=Zb.1 h;by_cases h3:2*(w / 2%65536+65536*(w / 131072%65536))=w
  ·have h4:w%2=0/\Zm (w / 2%65536) (w / 131072)=true:=⟨by omega,Zb.2 (by omega)⟩;have h6:w / 131072%65536=w / 131072:=by omega
   rw[h6]at h3;simp[h3,h4,h6]
  ·have h4:¬(w%2=0/\Zm (w / 2%65536) (w / 131072)=true):=by
    rintro⟨h6,h7⟩;have h8:=Zb.1 h7;omega
   simp[h3,h4]
end Vm
end
section
namespace Vm
open Go
open Go.Proofs
def p40:Fn:=⟨11,[0,1,2,3,4,5,6,12,7,8,28],
pQ [pR [(2,pS 0 7),(3,pS 1 2),pV 4 (pU 0),pV 5 (pI 0)],pC [pK 11 73 [.mm 2 0 7]] [pV 6 (.s 11)],pQ [pR [pV 7 (.un .not (.s 6))]] (.cond (.s 7) (pQ [pR [pV 4 (pU 0),pV 5 (pI 1)]] .ret) .skip),pC [pK 12 74 [.mm 2 0 7,.m 3 0]] [pV 8 (.ext (.s 12) 0),pV 9 (.ext (.s 12) 1)],pQ [.reg ⟨[.lt 13 [] (.bin .lss (.m 3 1) (pI 0))],[([(13,false)],.bin .geq (.m 3 1) (.s 9))],[pV 10 (.ite (.s 13) pT (.bin .geq (.m 3 1) (.s 9)))]⟩] (.cond (.s 10) (pQ [pR [pV 4 (pU 0),pV 5 (pI 6)]] .ret) .skip),pR [pV 4 (.bin .add (.s 8) (.conv .u64 (.m 3 1))),pV 5 (pI 0)]] .ret,[(4,.v),(5,.v)]⟩
def c40:Za Sol.prog fresh sig [.fz,.fz] [] Tryz.f40=some p40:=by kernel_rfl
def p43:Fn:=⟨4,[0,1,2,25],
pQ [pR [(1,pS 0 7),pV 2 pF],pQ [.reg ⟨[.lt 4 [] (.bin .lss (.m 1 1) (pI 0)),.lt 5 [] (.ite (.s 4) pT (.bin .gtr (.m 1 1) (pI 4096))),.lt 6 [] (.ite (.s 5) pT (.bin .lss (.m 1 0) (pU 1)))],[([(4,false)],.bin .gtr (.m 1 1) (pI 4096)),([(5,false)],.bin .lss (.m 1 0) (pU 1)),([(6,false)],.bin .gtr (.m 1 0) (.bin .sub (pU 9223372036854775808) (.bin .mul (pU 2) (.conv .u64 (.m 1 1)))))],[pV 3 (.ite (.s 6) pT (.bin .gtr (.m 1 0) (.bin .sub (pU 9223372036854775808) (.bin .mul (pU 2) (.conv .u64 (.m 1 1))))))]⟩] (.cond (.s 3) (pQ [pR [pV 2 pF]] .ret) .skip),.reg ⟨[.lt 7 [] (.bin .eql (.m 1 2) (pI 0)),.lt 8 [] (.ite (.s 7) pT (.bin .eql (.m 1 2) (pI 1))),.call 9 [(8,true)] (.id 75) false false [.m 1 3,.m 1 4,.m 1 1],.lt 10 [] (.ite (.s 8) (.s 9) pF),.call 11 [(10,true)] (.id 75) false false [.m 1 5,.m 1 6,.m 1 1]],[([(7,false)],.bin .eql (.m 1 2) (pI 1))],[pV 2 (.ite (.s 10) (.s 11) pF)]⟩] .ret,[(2,.v)]⟩
def c43:Za Sol.prog fresh sig [.fz] [] Tryz.f43=some p43:=by kernel_rfl
def p57:Fn:=⟨10,[0,1,2,3,4,5,9,17,6,33],
pQ [pR [(2,pS 0 7),(3,pS 1 2),pV 4 (pU 0),pV 5 (pI 0)],pQ [pC [pK 10 43 [.mm 2 0 7]] [pV 6 (.un .not (.s 10))]] (.cond (.s 6) (pQ [pR [pV 4 (pU 0),pV 5 (pI 1)]] .ret) .skip),pQ [.reg ⟨[.lt 11 [] (.bin .lss (.m 3 0) (pI 1))],[([(11,false)],.bin .gtr (.m 3 0) (pI 4))],[pV 7 (.ite (.s 11) pT (.bin .gtr (.m 3 0) (pI 4)))]⟩] (.cond (.s 7) (pQ [pR [pV 4 (pU 0),pV 5 (pI 6)]] .ret) .skip),pC [pK 12 77 [.mm 2 0 7]] [(8,pM (.sz (.ai (.s 12) (.bin .sub (.m 3 0) (pI 1)) 4 2 true) 2) 2)],pQ [.reg ⟨[.lt 13 [] (.bin .lss (.m 3 1) (pI 0))],[([(13,false)],.bin .geq (.m 3 1) (.m 8 1))],[pV 9 (.ite (.s 13) pT (.bin .geq (.m 3 1) (.m 8 1)))]⟩] (.cond (.s 9) (pQ [pR [pV 4 (pU 0),pV 5 (pI 6)]] .ret) .skip),pR [pV 4 (.bin .add (.m 8 0) (.conv .u64 (.m 3 1))),pV 5 (pI 0)]] .ret,[(4,.v),(5,.v)]⟩
def c57:Za Sol.prog fresh sig [.fz,.fz] [] Tryz.f57=some p57:=by kernel_rfl
def p73:Fn:=⟨5,[0,1,2,35,53],
pQ [pR [(1,pS 0 7),pV 2 pF],pQ [.reg ⟨[.lt 5 [] (.bin .lss (.m 1 0) (pU 1)),.lt 6 [] (.ite (.s 5) pT (.bin .lss (.m 1 1) (pI 0))),.lt 7 [] (.ite (.s 6) pT (.bin .gtr (.m 1 1) (pI 4096))),.lt 8 [] (.ite (.s 7) pT (.bin .gtr (.m 1 0) (.bin .sub (pU 9223372036854775808) (.bin .mul (pU 2) (.conv .u64 (.m 1 1)))))),.lt 9 [] (.ite (.s 8) pT (.bin .lss (.m 1 2) (pI 0)))],[([(5,false)],.bin .lss (.m 1 1) (pI 0)),([(6,false)],.bin .gtr (.m 1 1) (pI 4096)),([(7,false)],.bin .gtr (.m 1 0) (.bin .sub (pU 9223372036854775808) (.bin .mul (pU 2) (.conv .u64 (.m 1 1))))),([(8,false)],.bin .lss (.m 1 2) (pI 0)),([(9,false)],.bin .gtr (.m 1 2) (pI 1))],[pV 3 (.ite (.s 9) pT (.bin .gtr (.m 1 2) (pI 1)))]⟩] (.cond (.s 3) (pQ [pR [pV 2 pF]] .ret) .skip),pQ [.reg ⟨[.lt 10 [] (.bin .lss (.m 1 3) (pI 0)),.lt 11 [] (.ite (.s 10) pT (.bin .lss (.m 1 4) (pI 0))),.lt 12 [] (.ite (.s 11) pT (.bin .lss (.m 1 5) (pI 0)))],[([(10,false)],.bin .lss (.m 1 4) (pI 0)),([(11,false)],.bin .lss (.m 1 5) (pI 0)),([(12,false)],.bin .lss (.m 1 6) (pI 0))],[pV 4 (.ite (.s 12) pT (.bin .lss (.m 1 6) (pI 0)))]⟩] (.cond (.s 4) (pQ [pR [pV 2 pF]] .ret) .skip),.reg ⟨[.lt 13 [] (.bin .leq (.m 1 3) (.m 1 1)),.lt 14 [] (.ite (.s 13) (.bin .leq (.m 1 4) (.bin .sub (.m 1 1) (.m 1 3))) pF),.lt 15 [] (.ite (.s 14) (.bin .leq (.m 1 5) (.m 1 1)) pF)],[([(13,true)],.bin .leq (.m 1 4) (.bin .sub (.m 1 1) (.m 1 3))),([(14,true)],.bin .leq (.m 1 5) (.m 1 1)),([(15,true)],.bin .leq (.m 1 6) (.bin .sub (.m 1 1) (.m 1 5)))],[pV 2 (.ite (.s 15) (.bin .leq (.m 1 6) (.bin .sub (.m 1 1) (.m 1 5))) pF)]⟩] .ret,[(2,.v)]⟩
def c73:Za Sol.prog fresh sig [.fz] [] Tryz.f73=some p73:=by kernel_rfl
def p74:Fn:=⟨12,[0,1,2,4,5,6,7,28,27,33,45,50],
pQ [pR [(2,pS 0 7),pV 3 (pU 0),pV 4 (pI 0)],pR [pV 5 (.bin .add (.m 2 0) (.conv .u64 (.bin .mul (.m 2 2) (.m 2 1))))],pR [pV 6 (.bin .add (.m 2 0) (.conv .u64 (.bin .mul (.bin .sub (pI 1) (.m 2 2)) (.m 2 1))))],pQ [pR [pV 8 (.s 1)]] (.block 0 (pQ [pR [pV 7 (.bin .eql (.s 8) (pI 1))]] (.cond (.s 7) (pQ [pR [pV 3 (.s 5),pV 4 (.m 2 3)]] .ret) (pQ [pR [pV 9 (.bin .eql (.s 8) (pI 2))]] (.cond (.s 9) (pQ [pR [pV 3 (.bin .add (.s 5) (.conv .u64 (.bin .sub (.m 2 1) (.m 2 4)))),pV 4 (.m 2 4)]] .ret) (pQ [pR [pV 10 (.bin .eql (.s 8) (pI 3))]] (.cond (.s 10) (pQ [pR [pV 3 (.s 6),pV 4 (.m 2 5)]] .ret) (pQ [pR [pV 11 (.bin .eql (.s 8) (pI 4))]] (.cond (.s 11) (pQ [pR [pV 3 (.bin .add (.s 6) (.conv .u64 (.bin .sub (.m 2 1) (.m 2 6)))),pV 4 (.m 2 6)]] .ret) .skip))))))))),pR [pV 3 (pU 0),pV 4 (pI 0)]] .ret,[(3,.v),(4,.v)]⟩
def c74:Za Sol.prog fresh sig [.fz,.fz] [] Tryz.f74=some p74:=by kernel_rfl
def p75:Fn:=⟨4,[0,1,2,6],
pQ [pR [pV 3 pF],.reg ⟨[.lt 4 [] (.bin .geq (.s 0) (pI 0)),.lt 5 [] (.ite (.s 4) (.bin .geq (.s 1) (pI 0)) pF),.lt 6 [] (.ite (.s 5) (.bin .leq (.s 0) (.s 2)) pF)],[([(4,true)],.bin .geq (.s 1) (pI 0)),([(5,true)],.bin .leq (.s 0) (.s 2)),([(6,true)],.bin .leq (.s 1) (.bin .sub (.s 2) (.s 0)))],[pV 3 (.ite (.s 6) (.bin .leq (.s 1) (.bin .sub (.s 2) (.s 0))) pF)]⟩] .ret,[(3,.v)]⟩
def c75:Za Sol.prog fresh sig [.fz,.fz,.fz] [] Tryz.f75=some p75:=by kernel_rfl
def p77:Fn:=⟨3,[0,1,2],
pQ [pR [(1,pS 0 7),(2,.m [pU 0,pI 0,pU 0,pI 0,pU 0,pI 0,pU 0,pI 0])],pC [pK 3 95 [.mm 1 0 7,pI 1],pK 4 95 [.mm 1 0 7,pI 2],pK 5 95 [.mm 1 0 7,pI 3],pK 6 95 [.mm 1 0 7,pI 4]] [(2,pM (.ag [.fld (.ag [.one (.s 3),.m 1 3]) 0,.fld (.ag [.one (.s 3),.m 1 3]) 1,.fld (.ag [.one (.s 4),.m 1 4]) 0,.fld (.ag [.one (.s 4),.m 1 4]) 1,.fld (.ag [.one (.s 5),.m 1 5]) 0,.fld (.ag [.one (.s 5),.m 1 5]) 1,.fld (.ag [.one (.s 6),.m 1 6]) 0,.fld (.ag [.one (.s 6),.m 1 6]) 1]) 8)]] .ret,[(2,(.ag 8))]⟩
def c77:Za Sol.prog fresh sig [.fz] [] Tryz.f77=some p77:=by kernel_rfl
def p95:Fn:=⟨10,[0,1,2,4,5,9,8,11,13,15],
pQ [pR [(2,pS 0 7),pV 3 (pU 0)],pR [pV 4 (.m 2 0)],pQ [pR [pV 6 (.s 1)]] (.block 0 (pQ [.block 4 (pQ [.block 3 (pQ [.block 2 (pQ [.block 1 (pQ [pQ [pQ [pR [pV 5 (.bin .eql (.s 6) (pI 2))]] (.cond (.s 5) (.exit 1) .skip),pQ [pR [pV 7 (.bin .eql (.s 6) (pI 1))]] (.cond (.s 7) (.exit 2) .skip),pQ [pR [pV 8 (.bin .eql (.s 6) (pI 4))]] (.cond (.s 8) (.exit 3) .skip),pR [pV 9 (.bin .eql (.s 6) (pI 3))]] (.cond (.s 9) (.exit 4) .skip)] (.exit 0))] (pR [pV 4 (.bin .add (.s 4) (.conv .u64 (.bin .sub (.m 2 1) (.m 2 4))))])),pR [pV 4 (.bin .add (.s 4) (.conv .u64 (.bin .mul (.m 2 2) (.m 2 1))))]] (.exit 0))] (pR [pV 4 (.bin .add (.s 4) (.conv .u64 (.bin .sub (.m 2 1) (.m 2 6))))])),pR [pV 4 (.bin .add (.s 4) (.conv .u64 (.bin .mul (.bin .sub (pI 1) (.m 2 2)) (.m 2 1))))]] (.exit 0))),pR [pV 3 (.s 4)]] .ret,[(3,.v)]⟩
def c95:Za Sol.prog fresh sig [.fz,.fz] [] Tryz.f95=some p95:=by kernel_rfl
end Vm
end
section
namespace Vm
open Go Go.Proofs
structure Ly where
 base:Int
 cap:Int
 to:Int
 low:Int
 high:Int
 old:Int
 far:Int
 deriving DecidableEq,Inhabited
def lyV(l:Ly):V:=.agg [vu l.base,vi l.cap,vi l.to,vi l.low,vi l.high,vi l.old,vi l.far]
@[simp]def Zg3(l:Ly):szV (lyV l) 7=some (lyV l):=rfl
@[simp]def Zdb(l:Ly):(lyV l).cells=[vu l.base,vi l.cap,vi l.to,vi l.low,vi l.high,vi l.old,vi l.far]:=rfl
@[simp]def Zcn(l:Ly):fldV (lyV l) 0=some (vu l.base):=rfl
@[simp]def Zco(l:Ly):fldV (lyV l) 1=some (vi l.cap):=rfl
@[simp]def Zcp(l:Ly):fldV (lyV l) 2=some (vi l.to):=rfl
@[simp]def Zcq(l:Ly):fldV (lyV l) 3=some (vi l.low):=rfl
@[simp]def Zcr(l:Ly):fldV (lyV l) 4=some (vi l.high):=rfl
@[simp]def Zcs(l:Ly):fldV (lyV l) 5=some (vi l.old):=rfl
@[simp]def Zct(l:Ly):fldV (lyV l) 6=some (vi l.far):=rfl
def Ly.fits(l:Ly):Prop:=U64 l.base/\Fit l.cap/\Fit l.to/\Fit l.low/\Fit l.high/\Fit l.old/\Fit l.far
def Wx(a b words:Int):Bool:=decide (0<=a)&&decide (0<=b)&&decide (a<=words)&&decide (b<=words-a)
def Zl(l:Ly):Bool:=decide (0<=l.cap)&&decide (l.cap<=4096)&&decide (1<=l.base)&&decide (l.base<=9223372036854775808-2*l.cap)&&(decide (l.to=0)||decide (l.to=1))&&Wx l.low l.high l.cap&&Wx l.old l.far l.cap
def Yr{l:Ly}:Zl l=true↔0<=l.cap/\l.cap<=4096/\1<=l.base/\l.base<=9223372036854775808-2*l.cap/\(l.to=0\/l.to=1)/\(0<=l.low/\0<=l.high/\l.low<=l.cap/\l.high<=l.cap-l.low)/\(0<=l.old/\0<=l.far/\l.old<=l.cap/\l.far<=l.cap-l.old):=by
 simp[Zl,Wx,and_assoc]
def ZF{l:Ly}:Zl l=false↔ ¬(0<=l.cap/\l.cap<=4096/\1<=l.base/\l.base<=9223372036854775808-2*l.cap/\(l.to=0\/l.to=1)/\(0<=l.low/\0<=l.high/\l.low<=l.cap/\l.high<=l.cap-l.low)/\(0<=l.old/\0<=l.far/\l.old<=l.cap/\l.far<=l.cap-l.old)):=by
 rw[<-Yr];simp
def jP{a b w:Int}(ha:Fit a)(hb:Fit b)(hw:Fit w):VC Sol.prog 75 false [vi a,vi b,vi w] (.bool (Wx a b w)):=by
 refine Z5 Sol.func75 follows (by kernel_rfl) c75 rfl ?_;obtain⟨a1,a2⟩:=ha;obtain⟨w1,w2⟩:=hw;by_cases h1:0<=a
 ·by_cases h2:a<=w
  ·have e:=Z4 (w-a) (by omega) (by omega);by_cases h3:0<=b<;>simp[p75,Wx,h1,h2,h3,e]
  ·by_cases h3:0<=b<;>simp[p75,Wx,h1,h2,h3]
 ·simp[p75,Wx,h1]
def jq{l:Ly}(hl:l.fits):VC Sol.prog 43 false [lyV l] (.bool (Zl l)):=by
 refine Z5 Sol.func43 follows (by kernel_rfl) c43 rfl ?_;obtain⟨⟨hb1,hb2⟩,hc,ht,h1,h2,h3,h4⟩:=hl;obtain⟨c1,c2⟩:=hc;simp[p43];by_cases g1:l.cap<0
 ·have:Zl l=false:=ZF.2 (by omega);simp[g1,this]
 by_cases g2:4096<l.cap
 ·have:Zl l=false:=ZF.2 (by omega);simp[g1,g2,this]
 by_cases g3:l.base<1
 ·have:Zl l=false:=ZF.2 (by omega);simp[g1,g2,g3,this]
 have e1:=Zs l.cap (by omega) (by omega);have e2:=Zs (2*l.cap) (by omega) (by omega);have e3:=Zs (9223372036854775808-2*l.cap) (by omega) (by omega);by_cases g4:9223372036854775808-2*l.cap<l.base
 ·have:Zl l=false:=ZF.2 (by omega);simp[g1,g2,g3,e1,e2,e3,g4,this]
 by_cases g5:l.to=0\/l.to=1
 ·have k1:=jP h1 h2 ⟨c1,c2⟩;have k2:=jP h3 h4 ⟨c1,c2⟩
  have hr:Zl l=(Wx l.low l.high l.cap&&Wx l.old l.far l.cap):=by
   obtain h|h:=g5<;>simp[Zl,show 0<=l.cap by omega,show l.cap<=4096 by omega,show 1<=l.base by omega,show l.base<=9223372036854775808-2*l.cap by omega,h]
  rw[hr];obtain g5|g5:=g5
  all_goals
   cases hw:Wx l.low l.high l.cap
   ·rw[hw]at k1;simp[g1,g2,g3,e1,e2,e3,g4,g5];refine Z0 k1 (by simp) ?_;simp
   ·rw[hw]at k1;simp[g1,g2,g3,e1,e2,e3,g4,g5];refine Z0 k1 (by simp) ?_;simp;refine Z0 k2 (by simp) ?_;simp
 ·have:Zl l=false:=ZF.2 (by omega);have g6:¬l.to=0:=λh=>g5 (.inl h);have g7:¬l.to=1:=λh=>g5 (.inr h);simp[g1,g2,g3,e1,e2,e3,g4,g6,g7,this]
def RR{l:Ly}(hl:l.fits):VC Sol.prog 73 false [lyV l] (.bool (Zl l)):=by
 refine Z5 Sol.func73 follows (by kernel_rfl) c73 rfl ?_;obtain⟨⟨hb1,hb2⟩,hc,ht,h1,h2,h3,h4⟩:=hl;obtain⟨c1,c2⟩:=hc;simp[p73];by_cases g3:l.base<1
 ·have:Zl l=false:=ZF.2 (by omega);simp[g3,this]
 by_cases g1:l.cap<0
 ·have:Zl l=false:=ZF.2 (by omega);simp[g1,g3,this]
 by_cases g2:4096<l.cap
 ·have:Zl l=false:=ZF.2 (by omega);simp[g1,g2,g3,this]
 have e1:=Zs l.cap (by omega) (by omega);have e2:=Zs (2*l.cap) (by omega) (by omega);have e3:=Zs (9223372036854775808-2*l.cap) (by omega) (by omega);by_cases g4:9223372036854775808-2*l.cap<l.base
 ·have:Zl l=false:=ZF.2 (by omega);simp[g1,g2,g3,e1,e2,e3,g4,this]
 by_cases g5:l.to<0
 ·have:Zl l=false:=ZF.2 (by omega);simp[g1,g2,g3,e1,e2,e3,g4,g5,this]
 by_cases g6:1<l.to
 ·have:Zl l=false:=ZF.2 (by omega);simp[g1,g2,g3,e1,e2,e3,g4,g5,g6,this]
 by_cases q1:l.low<0
 ·have:Zl l=false:=ZF.2 (by omega);simp[g1,g2,g3,e1,e2,e3,g4,g5,g6,q1,this]
 by_cases q2:l.high<0
 ·have:Zl l=false:=ZF.2 (by omega);simp[g1,g2,g3,e1,e2,e3,g4,g5,g6,q1,q2,this]
 by_cases q3:l.old<0
 ·have:Zl l=false:=ZF.2 (by omega);simp[g1,g2,g3,e1,e2,e3,g4,g5,g6,q1,q2,q3,this]
 by_cases q4:l.far<0
 ·have:Zl l=false:=ZF.2 (by omega);simp[g1,g2,g3,e1,e2,e3,g4,g5,g6,q1,q2,q3,q4,this]
 obtain⟨l1,l2⟩:=h1;obtain⟨o1,o2⟩:=h3;have w1:=Z4 (l.cap-l.low) (by omega) (by omega);have w2:=Z4 (l.cap-l.old) (by omega) (by omega);by_cases r1:l.low<=l.cap
 ·by_cases r2:l.high<=l.cap-l.low
  ·by_cases r3:l.old<=l.cap
   ·by_cases r4:l.far<=l.cap-l.old
    ·have:Zl l=true:=Yr.2 (by omega);simp[g1,g2,g3,e1,e2,e3,g4,g5,g6,q1,q2,q3,q4,w1,w2,r1,r2,r3,r4,this]
    ·have:Zl l=false:=ZF.2 (by omega);simp[g1,g2,g3,e1,e2,e3,g4,g5,g6,q1,q2,q3,q4,w1,w2,r1,r2,r3,r4,this]
   ·have:Zl l=false:=ZF.2 (by omega);simp[g1,g2,g3,e1,e2,e3,g4,g5,g6,q1,q2,q3,q4,w1,w2,r1,r2,r3,this]
  ·have:Zl l=false:=ZF.2 (by omega);simp[g1,g2,g3,e1,e2,e3,g4,g5,g6,q1,q2,q3,q4,w1,w2,r1,r2,this]
 ·have:Zl l=false:=ZF.2 (by omega);simp[g1,g2,g3,e1,e2,e3,g4,g5,g6,q1,q2,q3,q4,w1,w2,r1,this]
def fstL(l:Ly)(part:Int):Int:=
 if part=1 then l.base+l.to*l.cap else if part=2 then l.base+l.to*l.cap+(l.cap-l.high)else if part=3 then l.base+(1-l.to)*l.cap else l.base+(1-l.to)*l.cap+(l.cap-l.far)
def sizL(l:Ly)(part:Int):Int:=if part=1 then l.low else if part=2 then l.high else if part=3 then l.old else l.far
def Z94{l:Ly}(hr:Zl l=true):(l.to*l.cap=0/\(1-l.to)*l.cap=l.cap)\/(l.to*l.cap=l.cap/\(1-l.to)*l.cap=0):=by
 obtain⟨_,_,_,_,ht,_⟩:=Yr.1 hr;obtain h|h:=ht
 ·rw[h];exact .inl ⟨by simp,by simp⟩
 ·rw[h];exact .inr ⟨by simp,by simp⟩
def Yq{l:Ly}(hr:Zl l=true)(k:Int):1<=fstL l k/\fstL l k+sizL l k<=9223372036854775808/\0<=sizL l k/\sizL l k<=4096:=by
 have h:=Yr.1 hr;have ht:=Z94 hr;unfold fstL sizL;by_cases k1:k=1
 ·simp only[if_pos k1];omega
 by_cases k2:k=2
 ·simp only[if_neg k1,if_pos k2];omega
 by_cases k3:k=3
 ·simp only[if_neg k1,if_neg k2,if_pos k3];omega
 ·simp only[if_neg k1,if_neg k2,if_neg k3];omega
def Qa{l:Ly}(hr:Zl l=true){k:Int}(hk:1<=k/\k<=4):VC Sol.prog 95 false [lyV l,vi k] (vu (fstL l k)):=by
 refine Z5 Sol.func95 follows (by kernel_rfl) c95 rfl ?_;have h:=Yr.1 hr;have ht:=Z94 hr;have w1:=Z4 (l.to*l.cap) (by omega) (by omega);have w2:=Z4 (1-l.to) (by omega) (by omega);have w3:=Z4 ((1-l.to)*l.cap) (by omega) (by omega);have w4:=Z4 (l.cap-l.high) (by omega) (by omega);have w5:=Z4 (l.cap-l.far) (by omega) (by omega);have u1:=Zs (l.to*l.cap) (by omega) (by omega);have u3:=Zs ((1-l.to)*l.cap) (by omega) (by omega);have u4:=Zs (l.cap-l.high) (by omega) (by omega);have u5:=Zs (l.cap-l.far) (by omega) (by omega);have v1:=Zs (l.base+l.to*l.cap) (by omega) (by omega);have v2:=Zs (l.base+(l.cap-l.high)) (by omega) (by omega);have v3:=Zs (l.base+(l.cap-l.high)+l.to*l.cap) (by omega) (by omega);have v4:=Zs (l.base+(1-l.to)*l.cap) (by omega) (by omega);have v5:=Zs (l.base+(l.cap-l.far)) (by omega) (by omega);have v6:=Zs (l.base+(l.cap-l.far)+(1-l.to)*l.cap) (by omega) (by omega);have hk':k=1\/k=2\/k=3\/k=4:=by omega
 obtain rfl|rfl|rfl|rfl:=hk'
 ·simp[p95,UK,fstL,w1,u1,v1]
 ·simp[p95,UK,fstL,w1,u1,w4,u4,v2,v3];omega
 ·simp[p95,UK,fstL,w2,w3,u3,v4]
 ·simp[p95,UK,fstL,w2,w3,u3,w5,u5,v5,v6];omega
def JX(l:Ly):V:=.agg [vu (fstL l 1),vi l.low,vu (fstL l 2),vi l.high,vu (fstL l 3),vi l.old,vu (fstL l 4),vi l.far]
def Z92{l:Ly}(hr:Zl l=true):VC Sol.prog 77 false [lyV l] (JX l):=by
 refine Z5 Sol.func77 follows (by kernel_rfl) c77 rfl ?_;simp[p77];refine Z0 (Qa hr (k:=1) (by omega)) (by simp[lyV]) ?_;simp;refine Z0 (Qa hr (k:=2) (by omega)) (by simp[lyV]) ?_;simp;refine Z0 (Qa hr (k:=3) (by omega)) (by simp[lyV]) ?_;simp;refine Z0 (Qa hr (k:=4) (by omega)) (by simp[lyV]) ?_;simp[JX]
@[simp]def Ze4(l:Ly):sizL l 1=l.low:=rfl
@[simp]def Ze5(l:Ly):sizL l 2=l.high:=rfl
@[simp]def Ze6(l:Ly):sizL l 3=l.old:=rfl
@[simp]def Ze7(l:Ly):sizL l 4=l.far:=rfl
def ZI(l:Ly)(part at_:Int):Int×Int:=
 if Zl l=false then(0,1)else if part<1\/4<part then(0,6)else if at_<0\/sizL l part<=at_ then(0,6)else(fstL l part+at_,0)
def Z1F{l:Ly}(hl:l.fits){part at_:Int}:VC Sol.prog 57 false [lyV l,.agg [vi part,vi at_]] (.tup [vu (ZI l part at_).1,vi (ZI l part at_).2]):=by
 refine Z5 Sol.func57 follows (by kernel_rfl) c57 rfl ?_;simp[p57];refine Z0 (jq hl) (by simp) ?_;cases hr:Zl l
 ·simp[ZI,hr]
 ·simp;by_cases h1:part<1
  ·simp[ZI,hr,h1]
  by_cases h2:4<part
  ·simp[ZI,hr,h1,h2]
  have hk:part=1\/part=2\/part=3\/part=4:=by omega
  simp[h1,h2];refine Z0 (Z92 hr) (by simp[JX]) ?_;obtain rfl|rfl|rfl|rfl:=hk
  ·have hw:=Yq hr 1;simp only[Ze4]at hw;simp[JX,aiV,Z4];by_cases h3:at_<0
   ·simp[ZI,hr,h3]
   by_cases h4:l.low<=at_
   ·simp[ZI,hr,h3,h4]
   ·have u1:=Zs at_ (by omega) (by omega);have u2:=Zs (fstL l 1+at_) (by omega) (by omega);simp[ZI,hr,h3,h4,u1,u2]
  ·have hw:=Yq hr 2;simp only[Ze5]at hw;simp[JX,aiV,Z4];by_cases h3:at_<0
   ·simp[ZI,hr,h3]
   by_cases h4:l.high<=at_
   ·simp[ZI,hr,h3,h4]
   ·have u1:=Zs at_ (by omega) (by omega);have u2:=Zs (fstL l 2+at_) (by omega) (by omega);simp[ZI,hr,h3,h4,u1,u2]
  ·have hw:=Yq hr 3;simp only[Ze6]at hw;simp[JX,aiV,Z4];by_cases h3:at_<0
   ·simp[ZI,hr,h3]
   by_cases h4:l.old<=at_
   ·simp[ZI,hr,h3,h4]
   ·have u1:=Zs at_ (by omega) (by omega);have u2:=Zs (fstL l 3+at_) (by omega) (by omega);simp[ZI,hr,h3,h4,u1,u2]
  ·have hw:=Yq hr 4;simp only[Ze7]at hw;simp[JX,aiV,Z4];by_cases h3:at_<0
   ·simp[ZI,hr,h3]
   by_cases h4:l.far<=at_
   ·simp[ZI,hr,h3,h4]
   ·have u1:=Zs at_ (by omega) (by omega);have u2:=Zs (fstL l 4+at_) (by omega) (by omega);simp[ZI,hr,h3,h4,u1,u2]
def X9{l:Ly}(hr:Zl l=true){k:Int}(hk:1<=k/\k<=4):VC Sol.prog 74 false [lyV l,vi k] (.tup [vu (fstL l k),vi (sizL l k)]):=by
 refine Z5 Sol.func74 follows (by kernel_rfl) c74 rfl ?_;have h:=Yr.1 hr;have ht:=Z94 hr;have w1:=Z4 (l.to*l.cap) (by omega) (by omega);have w2:=Z4 (1-l.to) (by omega) (by omega);have w3:=Z4 ((1-l.to)*l.cap) (by omega) (by omega);have w4:=Z4 (l.cap-l.high) (by omega) (by omega);have w5:=Z4 (l.cap-l.far) (by omega) (by omega);have u1:=Zs (l.to*l.cap) (by omega) (by omega);have u3:=Zs ((1-l.to)*l.cap) (by omega) (by omega);have u4:=Zs (l.cap-l.high) (by omega) (by omega);have u5:=Zs (l.cap-l.far) (by omega) (by omega);have v1:=Zs (l.base+l.to*l.cap) (by omega) (by omega);have v2:=Zs (l.base+l.to*l.cap+(l.cap-l.high)) (by omega) (by omega);have v4:=Zs (l.base+(1-l.to)*l.cap) (by omega) (by omega);have v5:=Zs (l.base+(1-l.to)*l.cap+(l.cap-l.far)) (by omega) (by omega);have hk':k=1\/k=2\/k=3\/k=4:=by omega
 obtain rfl|rfl|rfl|rfl:=hk'
 all_goals simp[p74,UK,fstL,w1,u1,w2,w3,u3,w4,u4,w5,u5,v1,v2,v4,v5]
def JG{l:Ly}(hr:Zl l=true){k:Int}(hk:k<1\/4<k):VC Sol.prog 74 false [lyV l,vi k] (.tup [vu 0,vi 0]):=by
 refine Z5 Sol.func74 follows (by kernel_rfl) c74 rfl ?_;simp[p74,UK,show k≠1 by omega,show k≠2 by omega,show k≠3 by omega,show k≠4 by omega]
def Tq{l:Ly}(hl:l.fits){part at_:Int}:VC Sol.prog 40 false [lyV l,.agg [vi part,vi at_]] (.tup [vu (ZI l part at_).1,vi (ZI l part at_).2]):=by
 refine Z5 Sol.func40 follows (by kernel_rfl) c40 rfl ?_;simp[p40];refine Z0 (RR hl) (by simp) ?_;cases hr:Zl l
 ·simp[ZI,hr]
 ·simp;by_cases hp:part<1\/4<part
  ·refine Z0 (JG hr hp) (by simp) ?_;by_cases h3:at_<0
   ·simp[ZI,hr,hp,h3]
   ·simp[ZI,hr,hp,h3,show 0<=at_ by omega]
  have hk:part=1\/part=2\/part=3\/part=4:=by omega
  obtain rfl|rfl|rfl|rfl:=hk
  ·have hw:=Yq hr 1;simp only[Ze4]at hw;refine Z0 (X9 hr (k:=1) (by omega)) (by simp) ?_;by_cases h3:at_<0
   ·simp[ZI,hr,h3]
   by_cases h4:l.low<=at_
   ·simp[ZI,hr,h3,h4]
   ·have u1:=Zs at_ (by omega) (by omega);have u2:=Zs (fstL l 1+at_) (by omega) (by omega);simp[ZI,hr,h3,h4,u1,u2]
  ·have hw:=Yq hr 2;simp only[Ze5]at hw;refine Z0 (X9 hr (k:=2) (by omega)) (by simp) ?_;by_cases h3:at_<0
   ·simp[ZI,hr,h3]
   by_cases h4:l.high<=at_
   ·simp[ZI,hr,h3,h4]
   ·have u1:=Zs at_ (by omega) (by omega);have u2:=Zs (fstL l 2+at_) (by omega) (by omega);simp[ZI,hr,h3,h4,u1,u2]
  ·have hw:=Yq hr 3;simp only[Ze6]at hw;refine Z0 (X9 hr (k:=3) (by omega)) (by simp) ?_;by_cases h3:at_<0
   ·simp[ZI,hr,h3]
   by_cases h4:l.old<=at_
   ·simp[ZI,hr,h3,h4]
   ·have u1:=Zs at_ (by omega) (by omega);have u2:=Zs (fstL l 3+at_) (by omega) (by omega);simp[ZI,hr,h3,h4,u1,u2]
  ·have hw:=Yq hr 4;simp only[Ze7]at hw;refine Z0 (X9 hr (k:=4) (by omega)) (by simp) ?_;by_cases h3:at_<0
   ·simp[ZI,hr,h3]
   by_cases h4:l.far<=at_
   ·simp[ZI,hr,h3,h4]
   ·have u1:=Zs at_ (by omega) (by omega);have u2:=Zs (fstL l 4+at_) (by omega) (by omega);simp[ZI,hr,h3,h4,u1,u2]
def inL(l:Ly)(a k:Int):Bool:=decide (fstL l k<=a)&&decide (a<fstL l k+sizL l k)
def Z7Y(l:Ly)(a:Int):Int×Int×Int:=
 if Zl l=false then(0,0,1)else if inL l a 1 then(1,a-fstL l 1,0)else if inL l a 2 then(2,a-fstL l 2,0)else if inL l a 3 then(3,a-fstL l 3,0)else if inL l a 4 then(4,a-fstL l 4,0)else(0,0,6)
end Vm
end
section
namespace Vm
open Go
open Go.Proofs
def p6:Fn:=⟨9,[0,1,2,3,6,10,7,14,18],
pQ [pR [(3,pS 0 10),(4,pZ)],pQ [pR [pV 6 (.s 1)]] (.block 0 (pQ [pR [pV 5 (.bin .eql (.s 6) (pI 1))]] (.cond (.s 5) (pR [(3,.m [.m 3 0,.m 3 1,.m 3 2,.m 3 3,.m 3 4,.one (.s 2),.m 3 6,.m 3 7,.m 3 8,.m 3 9])]) (pQ [pR [pV 7 (.bin .eql (.s 6) (pI 2))]] (.cond (.s 7) (pR [(3,.m [.m 3 0,.m 3 1,.m 3 2,.m 3 3,.m 3 4,.m 3 5,.one (.s 2),.m 3 7,.m 3 8,.m 3 9])]) (pQ [pR [pV 8 (.bin .eql (.s 6) (pI 3))]] (.cond (.s 8) (pR [(3,.m [.m 3 0,.m 3 1,.m 3 2,.m 3 3,.m 3 4,.m 3 5,.m 3 6,.one (.s 2),.m 3 8,.m 3 9])]) (pR [(3,.m [.m 3 0,.m 3 1,.m 3 2,.m 3 3,.m 3 4,.m 3 5,.m 3 6,.m 3 7,.one (.s 2),.m 3 9])])))))))),pR [(4,pM (.mm 3 0 10) 10)]] .ret,[(4,(.ag 10))]⟩
def c6:Za Sol.prog fresh sig [.fz,.fz,.fz] [] Tryz.f6=some p6:=by kernel_rfl
def p7:Fn:=⟨8,[0,1,2,4,6,5,10,14],
pQ [pR [(2,pS 0 10),pV 3 pN],pQ [pR [pV 5 (.s 1)]] (.block 0 (pQ [pR [pV 4 (.bin .eql (.s 5) (pI 1))]] (.cond (.s 4) (pQ [pR [pV 3 (.m 2 5)]] .ret) (pQ [pR [pV 6 (.bin .eql (.s 5) (pI 2))]] (.cond (.s 6) (pQ [pR [pV 3 (.m 2 6)]] .ret) (pQ [pR [pV 7 (.bin .eql (.s 5) (pI 3))]] (.cond (.s 7) (pQ [pR [pV 3 (.m 2 7)]] .ret) .skip))))))),pR [pV 3 (.m 2 8)]] .ret,[(3,.v)]⟩
def c7:Za Sol.prog fresh sig [.fz,.fz] [] Tryz.f7=some p7:=by kernel_rfl
def p22:Fn:=⟨7,[0,1,4,10,5,14,25],
pQ [pR [pV 2 pF],pQ [pR [pV 3 (.bin .neq (.len (.s 0)) (.len (.s 1)))]] (.cond (.s 3) (pQ [pR [pV 2 pF]] .ret) .skip),pQ [pR [pV 4 (pI 0)]] (.block 0 (.loop [0,1,2,3,4] (pQ [pQ [pR [pV 5 (.bin .lss (.s 4) (.len (.s 0)))]] (.cond (.s 5) .skip (.exit 0)),.block 1 (pQ [pR [pV 6 (.bin .neq (.fld (.idx (.s 0) (.s 4) 1) 0) (.fld (.idx (.s 1) (.s 4) 1) 0))]] (.cond (.s 6) (pQ [pR [pV 2 pF]] .ret) .skip))] (pR [pV 4 (.bin .add (.s 4) (pI 1))])))),pR [pV 2 pT]] .ret,[(2,.v)]⟩
def c22:Za Sol.prog fresh sig [.fz,.fz] [] Tryz.f22=some p22:=by kernel_rfl
def p26:Fn:=⟨4,[0,1,4,6],
pQ [pR [pV 2 (pI 0)],pQ [pR [pV 3 (.bin .lss (.s 0) (pI 0))]] (.cond (.s 3) (pR [pV 0 (.un .neg (.bin .add (.s 0) (pI 1)))]) .skip),pR [pV 2 (.bin .rem (.s 0) (.s 1))]] .ret,[(2,.v)]⟩
def c26:Za Sol.prog fresh sig [.fz,.fz] [] Tryz.f26=some p26:=by kernel_rfl
def p41:Fn:=⟨3,[0,1,2],
pQ [pR [(1,pS 0 10),(2,.m [pU 0,pI 0,pI 0,pI 0,pI 0,pI 0,pI 0])],pR [(2,pM (.ag [.m 1 0,.m 1 1,.m 1 2,.len (.m 1 5),.len (.m 1 6),.len (.m 1 7),.len (.m 1 8)]) 7)]] .ret,[(2,(.ag 7))]⟩
def c41:Za Sol.prog fresh sig [.fz] [] Tryz.f41=some p41:=by kernel_rfl
def p42:Fn:=⟨3,[0,1,2],
pQ [pR [(1,pS 0 10),(2,.m [pU 0,pI 0,pI 0,pI 0,pI 0,pI 0,pI 0])],pR [(2,pM (.ag [.m 1 0,.m 1 1,.m 1 2,.len (.m 1 5),.len (.m 1 6),.len (.m 1 7),.len (.m 1 8)]) 7)]] .ret,[(2,(.ag 7))]⟩
def c42:Za Sol.prog fresh sig [.fz] [] Tryz.f42=some p42:=by kernel_rfl
def p81:Fn:=⟨4,[0,1,4,6],
pQ [pR [pV 2 (pI 0)],pQ [pR [pV 3 (.bin .lss (.s 0) (pI 0))]] (.cond (.s 3) (pR [pV 0 (.un .neg (.bin .add (.s 0) (pI 1)))]) .skip),pR [pV 2 (.bin .rem (.s 0) (.s 1))]] .ret,[(2,.v)]⟩
def c81:Za Sol.prog fresh sig [.fz,.fz] [] Tryz.f81=some p81:=by kernel_rfl
end Vm
end
section
namespace Vm
open Go Go.Proofs
structure Hp where
 base:Int
 cap:Int
 to:Int
 cycle:Bool
 scan:Int
 low:List Int
 high:List Int
 old:List Int
 far:List Int
 roots:List Int
 deriving DecidableEq,Inhabited
def hpCs(h:Hp):List V:=[vu h.base,vi h.cap,vi h.to,.bool h.cycle,vi h.scan,.sl (h.low.map vu),.sl (h.high.map vu),.sl (h.old.map vu),.sl (h.far.map vu),.sl (h.roots.map vu)]
def hpV(h:Hp):V:=.agg [vu h.base,vi h.cap,vi h.to,.bool h.cycle,vi h.scan,.sl (h.low.map vu),.sl (h.high.map vu),.sl (h.old.map vu),.sl (h.far.map vu),.sl (h.roots.map vu)]
@[simp]def Zg2(h:Hp):szV (hpV h) 10=some (hpV h):=rfl
@[simp]def Zd3(h:Hp):(hpV h).cells=[vu h.base,vi h.cap,vi h.to,.bool h.cycle,vi h.scan,.sl (h.low.map vu),.sl (h.high.map vu),.sl (h.old.map vu),.sl (h.far.map vu),.sl (h.roots.map vu)]:=rfl
@[simp]def Zcd(h:Hp):fldV (hpV h) 0=some (vu h.base):=rfl
@[simp]def Zce(h:Hp):fldV (hpV h) 1=some (vi h.cap):=rfl
@[simp]def Zcf(h:Hp):fldV (hpV h) 2=some (vi h.to):=rfl
@[simp]def Zcg(h:Hp):fldV (hpV h) 3=some (.bool h.cycle):=rfl
@[simp]def Zch(h:Hp):fldV (hpV h) 4=some (vi h.scan):=rfl
@[simp]def Zci(h:Hp):fldV (hpV h) 5=some (.sl (h.low.map vu)):=rfl
@[simp]def Zcj(h:Hp):fldV (hpV h) 6=some (.sl (h.high.map vu)):=rfl
@[simp]def Zck(h:Hp):fldV (hpV h) 7=some (.sl (h.old.map vu)):=rfl
@[simp]def Zcl(h:Hp):fldV (hpV h) 8=some (.sl (h.far.map vu)):=rfl
@[simp]def Zcm(h:Hp):fldV (hpV h) 9=some (.sl (h.roots.map vu)):=rfl
def layH(h:Hp):Ly:=⟨h.base,h.cap,h.to,h.low.length,h.high.length,h.old.length,h.far.length⟩
structure Hp.ok (h:Hp):Prop where
 base:U64 h.base
 cap:Fit h.cap
 to:Fit h.to
 scan:Fit h.scan
 low:h.low.length<=1000000
 high:h.high.length<=1000000
 old:h.old.length<=1000000
 far:h.far.length<=1000000
 roots:h.roots.length<=1000000
 lowW:∀w∈h.low,U64 w
 highW:∀w∈h.high,U64 w
 oldW:∀w∈h.old,U64 w
 farW:∀w∈h.far,U64 w
 rootsW:∀w∈h.roots,U64 w
def zd{α:Type}{l:List α}(h:l.length<=1000000):Fit (l.length:Int):=⟨by omega,by omega⟩
def Hp.ok.lay{h:Hp}(hh:h.ok):(layH h).fits:=⟨hh.base,hh.cap,hh.to,zd hh.low,zd hh.high,zd hh.old,zd hh.far⟩
def yj{h:Hp}:VC Sol.prog 42 false [hpV h] (lyV (layH h)):=by
 refine Z5 Sol.func42 follows (by kernel_rfl) c42 rfl ?_;simp[p42,lyV,layH]
def Wo{h:Hp}:VC Sol.prog 41 false [hpV h] (lyV (layH h)):=by
 refine Z5 Sol.func41 follows (by kernel_rfl) c41 rfl ?_;simp[p41,lyV,layH]
def Zh(h:Hp)(n:Int):List Int:=if n=1 then h.low else if n=2 then h.high else if n=3 then h.old else h.far
@[simp] theorem Z9A(h:Hp):Zh h 1=h.low:=rfl
@[simp] theorem Z9B(h:Hp):Zh h 2=h.high:=rfl
@[simp] theorem Z9C(h:Hp):Zh h 3=h.old:=rfl
@[simp] theorem Z9D(h:Hp):Zh h 4=h.far:=rfl
def Sx{h:Hp}{n:Int}:VC Sol.prog 7 false [hpV h,vi n] (.sl ((Zh h n).map vu)):=by
 refine Z5 Sol.func7 follows (by kernel_rfl) c7 rfl ?_;by_cases h1:n=1
 ·simp[p7,Zh,h1]
 by_cases h2:n=2
 ·simp[p7,Zh,h2]
 by_cases h3:n=3<;>simp[p7,Zh,h1,h2,h3]
def Xg(h:Hp)(n:Int)(l:List Int):Hp:=if n=1 then {h with low:=l}else if n=2 then {h with high:=l}else if n=3 then {h with old:=l}else {h with far:=l}
@[simp]def ZgH(h:Hp)(l:List Int):Xg h 1 l= {h with low:=l}:=rfl
@[simp]def ZgI(h:Hp)(l:List Int):Xg h 2 l= {h with high:=l}:=rfl
@[simp]def ZgJ(h:Hp)(l:List Int):Xg h 3 l= {h with old:=l}:=rfl
@[simp]def ZgK(h:Hp)(l:List Int):Xg h 4 l= {h with far:=l}:=rfl
def LH{h:Hp}{n:Int}{l:List Int}:VC Sol.prog 6 false [hpV h,vi n,.sl (l.map vu)] (hpV (Xg h n l)):=by
 refine Z5 Sol.func6 follows (by kernel_rfl) c6 rfl ?_;by_cases h1:n=1
 ·simp[p6,Xg,h1,hpV]
 by_cases h2:n=2
 ·simp[p6,Xg,h2,hpV]
 by_cases h3:n=3<;>simp[p6,Xg,h1,h2,h3,hpV]
def Uj{α:Type}{a b:List α}{i:Nat}(h:a.take i=b.take i)(hx:a[i]?=b[i]?):a.take (i+1)=b.take (i+1):=by
 rw[ZhM,ZhM,h,hx]
def Zdg{α:Type}{a b:List α}{i:Nat}(h:a[i]? ≠b[i]?):a≠b:=λe=>h (by rw[e])
def ZaR{a b:List Int}(ha:a.length<=1000000):VC Sol.prog 22 false [.sl (a.map vu),.sl (b.map vu)] (.bool (decide (a=b))):=by
 refine Z5 Sol.func22 follows (by kernel_rfl) c22 rfl ?_;by_cases hl:a.length=b.length
 ·simp[p22,hl];refine Xe 4 b.length (λi=>a.take i=b.take i) (by simp) (by simp) (by simp) ?_;intro i hi heq;have hw:=Z4 ((i:Int)+1) (by omega) (by omega);by_cases h:i<b.length
  ·have h':i<a.length:=by omega
   by_cases hx:a[i]=b[i]
   ·simp[h,h',hx,hw];exact Uj heq (by simp[h,h',hx])
   ·simp[h,h',hx];exact Zdg (i:=i) (by simp[h,h',hx])
  ·have:i=b.length:=by omega
   subst this;rw[ZhS,ZhI (by omega)]at heq;simp[heq]
 ·simp[p22,show ¬((a.length:Int)=(b.length:Int))by omega];intro e;subst e;exact hl rfl
def pick(c n:Int):Int:=(if c<0 then-(c+1)else c) %n
def W8{c n:Int}(hn:0<n):0<=pick c n/\pick c n<n:=⟨ZkX _ (by omega),Zku _ hn⟩
def X6{c n:Int}(hc:Fit c)(hn:0<n):VC Sol.prog 26 false [vi c,vi n] (vi (pick c n)):=by
 refine Z5 Sol.func26 follows (by kernel_rfl) c26 rfl ?_;obtain⟨h1,h2⟩:=hc;by_cases h:c<0
 ·simp[p26,h];simp(disch:=omega) only[Z4];refine⟨by omega,?_⟩;unfold pick;rw[if_pos h,ZhW (by omega)]
 ·simp[p26,h];refine⟨by omega,?_⟩;unfold pick;rw[if_neg h,ZhW (by omega)]
def jc{c n:Int}(hc:Fit c)(hn:0<n):VC Sol.prog 81 false [vi c,vi n] (vi (pick c n)):=by
 refine Z5 Sol.func81 follows (by kernel_rfl) c81 rfl ?_;obtain⟨h1,h2⟩:=hc;by_cases h:c<0
 ·simp[p81,h];simp(disch:=omega) only[Z4];refine⟨by omega,?_⟩;unfold pick;rw[if_pos h,ZhW (by omega)]
 ·simp[p81,h];refine⟨by omega,?_⟩;unfold pick;rw[if_neg h,ZhW (by omega)]
end Vm
end
section
namespace Vm
open Go
open Go.Proofs
def p52:Fn:=⟨13,[0,1,4,5,6,7,16,8,9,30,10,78,97],
pQ [pR [(2,.m [pN,pN])],pR [pV 3 (.mn (.len (.s 0)) (pI 10))],pR [(4,.m [pN,pN])],pQ [pR [pV 5 (pI 0)]] (.block 0 (.loop [0,1,2,3,4,5] (pQ [pQ [pR [pV 6 (.bin .lss (.s 5) (.s 3))]] (.cond (.s 6) .skip (.exit 0)),.block 1 (pQ [pR [(7,.m [pN,pN])],pQ [pR [pV 8 (pI 0)]] (.block 2 (.loop [0,1,2,3,4,5,6,7,8] (pQ [pQ [.reg ⟨[.lt 13 [] (.bin .lss (.s 8) (.len (.fld (.idx (.s 0) (.s 5) 2) 0)))],[([(13,true)],.bin .lss (.s 8) (pI 4))],[pV 9 (.ite (.s 13) (.bin .lss (.s 8) (pI 4)) pF)]⟩] (.cond (.s 9) .skip (.exit 2)),.block 3 (pC [pK 14 81 [.fld (.idx (.fld (.idx (.s 0) (.s 5) 2) 0) (.s 8) 1) 0,.bin .add (.s 3) (pI 1)]] [(7,.m [.app (.m 7 0) (.lit [.bin .sub (.s 14) (pI 1)]) 1,.m 7 1])])] (pR [pV 8 (.bin .add (.s 8) (pI 1))])))),pR [(7,.m [.m 7 0,.app pN (.slc (.fld (.idx (.s 0) (.s 5) 2) 1) (pI 0) (.mn (.len (.fld (.idx (.s 0) (.s 5) 2) 1)) (pI 4)) 1) 1])]] (pR [(4,.m [.app (.m 4 0) (.lit [.mm 7 0 2]) 2,.m 4 1])]))] (pR [pV 5 (.bin .add (.s 5) (pI 1))])))),pQ [pR [pV 10 (pI 0)]] (.block 4 (.loop [0,1,2,3,4,5,6,10] (pQ [pQ [.reg ⟨[.lt 15 [] (.bin .lss (.s 10) (.len (.s 1)))],[([(15,true)],.bin .lss (.s 10) (pI 5))],[pV 11 (.ite (.s 15) (.bin .lss (.s 10) (pI 5)) pF)]⟩] (.cond (.s 11) .skip (.exit 4)),.block 5 (pC [pK 16 81 [.fld (.idx (.s 1) (.s 10) 1) 0,.bin .add (.s 3) (pI 1)]] [(4,.m [.m 4 0,.app (.m 4 1) (.lit [.bin .sub (.s 16) (pI 1)]) 1])])] (pR [pV 10 (.bin .add (.s 10) (pI 1))])))),pQ [pR [pV 12 (.bin .eql (.len (.m 4 1)) (pI 0))]] (.cond (.s 12) (pR [(4,.m [.m 4 0,.app (.m 4 1) (.lit [.bin .sub (.s 3) (pI 1)]) 1])]) .skip),pR [(2,pM (.mm 4 0 2) 2)]] .ret,[(2,(.ag 2))]⟩
def c52:Za Sol.prog fresh sig [.fz,.fz] [] Tryz.f52=some p52:=by kernel_rfl
def p53:Fn:=⟨10,[0,1,2,3,6,7,8,14,9,31],
pQ [pR [(3,pS 0 7),pV 4 (pI 0),pV 5 pF],pR [pV 6 (.s 1)],pQ [pR [pV 7 (.bin .gtr (.len (.m 3 2)) (pI 0))]] (.cond (.s 7) (pR [pV 6 (.fld (.idx (.m 3 2) (.bin .rem (.s 1) (.len (.m 3 2))) 1) 0)]) .skip),pC [pK 10 26 [.s 6,pI 3]] [pV 8 (.s 10)],pQ [.reg ⟨[.lt 11 [] (.bin .eql (.s 8) (pI 2))],[([(11,true)],.un .not (.s 2))],[pV 9 (.ite (.s 11) (.un .not (.s 2)) pF)]⟩] (.cond (.s 9) (pR [pV 8 (pI 1)]) .skip),pC [pK 12 26 [.bin .quo (.s 6) (pI 3),pI 2]] [pV 4 (.s 8),pV 5 (.bin .eql (.s 12) (pI 1))]] .ret,[(4,.v),(5,.v)]⟩
def c53:Za Sol.prog fresh sig [.fz,.fz,.fz] [] Tryz.f53=some p53:=by kernel_rfl
def p54:Fn:=⟨15,[0,1,2,3,4,5,6,8,9,10,11,12,44,13,76],
pQ [pR [(4,pS 0 14),(5,pS 1 2),(6,pS 2 2),(7,.m [pU 0,pI 0,pI 0,pF,pI 0,pN,pN,pN,pN,pN,pN,pN,pN,pN])],pC [pK 15 7 [.mm 4 0 10,.m 5 0]] [pV 8 (.app pN (.s 15) 1)],pC [pK 16 82 [.ag [.bin .add (.len (.m 6 0)) (.len (.m 6 1)),.len (.m 6 0)]]] [pV 9 (.ext (.s 16) 0),pV 10 (.ext (.s 16) 1)],.reg ⟨[],[([],.idx (.s 8) (.m 5 1) 1)],[pV 8 (.upd (.s 8) (.m 5 1) 0 (.one (.s 9)))]⟩,pQ [pR [pV 11 (pI 0)]] (.block 0 (.loop [0,1,2,3,4,5,6,7,8,9,10,11] (pQ [pQ [pR [pV 12 (.bin .lss (.s 11) (.len (.m 6 0)))]] (.cond (.s 12) .skip (.exit 0)),.block 1 (.reg ⟨[pK 17 83 [.mm 4 0 14,.ag [.m 5 0,.bin .add (.bin .add (.m 5 1) (pI 1)) (.s 11)],.fld (.idx (.m 6 0) (.s 11) 1) 0,.bin .add (.s 3) (.s 11)]],[([],.idx (.s 8) (.bin .add (.bin .add (.m 5 1) (pI 1)) (.s 11)) 1)],[pV 8 (.upd (.s 8) (.bin .add (.bin .add (.m 5 1) (pI 1)) (.s 11)) 0 (.one (.s 17)))]⟩)] (pR [pV 11 (.bin .add (.s 11) (pI 1))])))),pQ [pR [pV 13 (pI 0)]] (.block 2 (.loop [0,1,2,3,4,5,6,7,8,9,10,11,12,13] (pQ [pQ [pR [pV 14 (.bin .lss (.s 13) (.len (.m 6 1)))]] (.cond (.s 14) .skip (.exit 2)),.block 3 (.reg ⟨[],[([],.idx (.s 8) (.bin .add (.bin .add (.bin .add (.m 5 1) (pI 1)) (.len (.m 6 0))) (.s 13)) 1)],[pV 8 (.upd (.s 8) (.bin .add (.bin .add (.bin .add (.m 5 1) (pI 1)) (.len (.m 6 0))) (.s 13)) 0 (.fld (.idx (.m 6 1) (.s 13) 1) 0))]⟩)] (pR [pV 13 (.bin .add (.s 13) (pI 1))])))),pC [pK 18 6 [.mm 4 0 10,.m 5 0,.s 8]] [(4,.m [.fld (.sz (.s 18) 10) 0,.fld (.sz (.s 18) 10) 1,.fld (.sz (.s 18) 10) 2,.fld (.sz (.s 18) 10) 3,.fld (.sz (.s 18) 10) 4,.fld (.sz (.s 18) 10) 5,.fld (.sz (.s 18) 10) 6,.fld (.sz (.s 18) 10) 7,.fld (.sz (.s 18) 10) 8,.fld (.sz (.s 18) 10) 9,.m 4 10,.m 4 11,.m 4 12,.m 4 13])],pR [(7,pM (.mm 4 0 14) 14)]] .ret,[(7,(.ag 14))]⟩
def c54:Za Sol.prog fresh sig [.fz,.fz,.fz,.fz] [] Tryz.f54=some p54:=by kernel_rfl
def p55:Fn:=⟨10,[0,1,2,3,4,11,5,6,7,8],
pQ [pR [(2,pS 0 14),(3,pS 1 2),pV 4 (pU 0)],pQ [pR [pV 5 (.bin .eql (.m 3 0) (pI 0))]] (.cond (.s 5) (pQ [pR [pV 4 (pU 0)]] .ret) .skip),pC [pK 10 41 [.mm 2 0 10],pK 11 40 [.s 10,.mm 3 0 2]] [pV 6 (.ext (.s 11) 0),pV 7 (.ext (.s 11) 1)],pC [pK 12 84 [.s 6]] [pV 8 (.ext (.s 12) 0),pV 9 (.ext (.s 12) 1)],pR [pV 4 (.s 8)]] .ret,[(4,.v)]⟩
def c55:Za Sol.prog fresh sig [.fz,.fz] [] Tryz.f55=some p55:=by kernel_rfl
def p83:Fn:=⟨10,[0,1,2,3,4,5,8,10,13,54],
pQ [pR [(4,pS 0 14),(5,pS 1 2),pV 6 (pU 0)],pQ [pR [pV 7 (.bin .lss (.s 2) (pI 0))]] (.cond (.s 7) (pQ [pR [pV 6 (pU 0)]] .ret) .skip),pQ [pR [pV 8 (.bin .gtr (.m 5 0) (pI 2))]] (.cond (.s 8) (pQ [pC [pK 10 55 [.mm 4 0 14,.flds (.idx (.m 4 13) (.s 2) 2) 0 2]] [pV 6 (.s 10)]] .ret) .skip),pQ [.reg ⟨[.lt 11 [] (.bin .eql (.m 5 0) (pI 1)),.lt 12 [] (.ite (.s 11) (.bin .geq (.m 5 1) (.m 4 4)) pF),.lt 13 [(12,true)] (.bin .eql (.fld (.idx (.m 4 12) (.s 2) 2) 0) (pI 0)),.lt 14 [(12,true),(13,false)] (.bin .gtr (.fld (.idx (.m 4 13) (.s 2) 2) 0) (pI 0))],[([(11,true)],.bin .geq (.m 5 1) (.m 4 4)),([(12,true),(13,false),(14,true)],.bin .eql (.bin .rem (.s 3) (pI 2)) (pI 0)),([(12,true),(13,false)],.ite (.s 14) (.bin .eql (.bin .rem (.s 3) (pI 2)) (pI 0)) pF),([(12,true)],.ite (.s 13) pT (.ite (.s 14) (.bin .eql (.bin .rem (.s 3) (pI 2)) (pI 0)) pF))],[pV 9 (.ite (.s 12) (.ite (.s 13) pT (.ite (.s 14) (.bin .eql (.bin .rem (.s 3) (pI 2)) (pI 0)) pF)) pF)]⟩] (.cond (.s 9) (pQ [pC [pK 15 55 [.mm 4 0 14,.flds (.idx (.m 4 13) (.s 2) 2) 0 2]] [pV 6 (.s 15)]] .ret) .skip),pC [pK 16 55 [.mm 4 0 14,.flds (.idx (.m 4 12) (.s 2) 2) 0 2]] [pV 6 (.s 16)]] .ret,[(6,.v)]⟩
def c83:Za Sol.prog fresh sig [.fz,.fz,.fz,.fz] [] Tryz.f83=some p83:=by kernel_rfl
end Vm
end
section
namespace Vm
open Go Go.Proofs
structure Nd where
 ptrs:List Int
 data:List Int
 deriving DecidableEq,Inhabited
structure Gr where
 nodes:List Nd
 roots:List Int
 deriving DecidableEq,Inhabited
def ndV(n:Nd):V:=.agg [.sl (n.ptrs.map vi),.sl (n.data.map vu)]
def grV(g:Gr):V:=.agg [.sl (g.nodes.map ndV),.sl (g.roots.map vi)]
@[simp]def Zdf(n:Nd):(ndV n).cells=[.sl (n.ptrs.map vi),.sl (n.data.map vu)]:=rfl
@[simp]def ZcT(n:Nd):Q1 (ndV n) 0 2=some (ndV n):=rfl
@[simp]def Zcu(n:Nd):fldV (ndV n) 0=some (.sl (n.ptrs.map vi)):=rfl
@[simp]def Zcv(n:Nd):fldV (ndV n) 1=some (.sl (n.data.map vu)):=rfl
@[simp]def Zg4(n:Nd):szV (ndV n) 2=some (ndV n):=rfl
@[simp]def ZcS(g:Gr):Q1 (grV g) 0 2=some (grV g):=rfl
@[simp]def Zcb(g:Gr):fldV (grV g) 0=some (.sl (g.nodes.map ndV)):=rfl
@[simp]def Zcc(g:Gr):fldV (grV g) 1=some (.sl (g.roots.map vi)):=rfl
@[simp]def Zg1(g:Gr):szV (grV g) 2=some (grV g):=rfl
@[simp]def Zd1(g:Gr):(grV g).cells=[.sl (g.nodes.map ndV),.sl (g.roots.map vi)]:=rfl
@[simp]def Ze9{k:IntKind}{l:List V}(j n:Nat):slcV n (.sl l) (.int k 0) (.int k (j:Int))=if j<=l.length/\YN n l=true then some (.sl (l.take j))else none:=by
 have:=Z2I (k:=k) (l:=l) 0 j n;simpa using this
def rp(n:Nat)(p:Int):Int:=pick p (n+1) -1
def mkNd(n:Nat)(x:Nd):Nd:=⟨(x.ptrs.take 4).map (rp n),x.data.take 4⟩
def mkN(l:List Nd):Nat:=min l.length 10
def mkG(l:List Nd)(roots:List Int):Gr:=⟨(l.take (mkN l)).map (mkNd (mkN l)),if roots.take 5=[]then [(mkN l:Int) -1]else(roots.take 5).map (rp (mkN l))⟩
def Z7B{l:List Nd}{roots:List Int}(hl:∀x∈l,∀p∈x.ptrs,Fit p)(hr:∀p∈roots,Fit p):VC Sol.prog 52 false [.sl (l.map ndV),.sl (roots.map vi)] (grV (mkG l roots)):=by
 refine Z5 Sol.func52 follows (by kernel_rfl) c52 rfl ?_;have hn10:mkN l<=10:=by unfold mkN;omega
 have hnl:mkN l<=l.length:=by unfold mkN;omega
 have hmin:(if(10:Int)< (l.length:Int)then(10:Int)else(l.length:Int))=(mkN l:Int):=by
  unfold mkN;split<;>omega
 simp[p52,hmin];generalize hn:mkN l=n at*;have hwn:=Z4 ((n:Int)+1) (by omega) (by omega);refine ZK (λt=>∃i:Nat,i<=n/\t=[.v (.sl (l.map ndV)),.v (.sl (roots.map vi)),.m [.sl [],.sl []],.v (vi n),.m [.sl (((l.take i).map (mkNd n)).map ndV),.sl []],.v (vi i)]) (λt=>match get t 5 with|.v (.int _ i)=>n-i.toNat|_=>0) ?_ ?_
 ·exact⟨0,by simp,by simp⟩
 ·rintro t ⟨i,hi,rfl⟩;have hw:=Z4 ((i:Int)+1) (by omega) (by omega);by_cases h:i<n
  ·have hil:i<l.length:=by omega
   have hx:l[i]?=some l[i]:=Zh8 hil;simp[h];generalize hnd:l[i]=x at hx;have hxp:∀p∈x.ptrs,Fit p:=hl x (Zhg hx);have hdm:(if(4:Int)< (x.data.length:Int)then(4:Int)else(x.data.length:Int))=((min x.data.length 4:Nat):Int):=by split<;>omega
   refine ZK (λt=>∃k:Nat,k<=x.ptrs.length/\k<=4/\t=[.v (.sl (l.map ndV)),.v (.sl (roots.map vi)),.m [.sl [],.sl []],.v (vi n),.m [.sl (((l.take i).map (mkNd n)).map ndV),.sl []],.v (vi i),.v (.bool true),.m [.sl (((x.ptrs.take k).map (rp n)).map vi),.sl []],.v (vi k)]) (λt=>match get t 8 with|.v (.int _ i)=>4-i.toNat|_=>0) ?_ ?_
   ·exact⟨0,by simp,by simp,by simp⟩
   ·rintro t ⟨k,hk,hk4,rfl⟩;have hwk:=Z4 ((k:Int)+1) (by omega) (by omega);by_cases h4:k<x.ptrs.length/\k<4
    ·obtain⟨ha,hb⟩:=h4;have hp:x.ptrs[k]?=some x.ptrs[k]:=Zh8 ha;have hkb:(k:Int)<4:=by omega
     simp[hil,hnd,ha,hkb,hwn];refine Z0 (jc (hxp _ (Zhi ha)) (by omega)) (by simp) ?_;have hpl:=W8 (c:=x.ptrs[k]) (n:=(n:Int)+1) (by omega);have hwp:=Z4 (pick x.ptrs[k] ((n:Int)+1) -1) (by omega) (by omega);simp[hwk,hwp];refine⟨by simp[lim];omega,⟨k+1,by omega,by omega,?_,by simp⟩,by omega⟩;rw[ZhM,Zhr,hp];rfl
    ·have hend:(x.ptrs.take k)=x.ptrs.take 4:=by
      by_cases ha:k<x.ptrs.length
      ·have:k=4:=by omega
       rw[this]
      ·rw[ZhI (by omega),ZhI (by omega)]
     have hfin:(l.take (i+1)).map (ndV∘mkNd n)=(l.take i).map (ndV∘mkNd n)++[V.agg [.sl ((x.ptrs.take k).map (vi∘rp n)),.sl ((x.data.take (min x.data.length 4)).map vu)]]:=by
      rw[ZhM,hx,Zic,hend]
      have hmd:x.data.take (min x.data.length 4)=x.data.take 4:=by
       by_cases hd:x.data.length<=4
       ·rw[ZhI (by omega),ZhI (by omega)]
       ·congr 1;omega
      rw[hmd];simp[ndV,mkNd]
     have hsz:YN 1 ((x.data.take (min x.data.length 4)).map vu)=true:=Uh _;have hl1:min x.data.length 4<=lim:=by simp[lim];omega
     have hl2:min i l.length+1<=lim:=by simp[lim];omega
     have hl3:min x.data.length 4<=x.data.length:=by omega
     simp only[Zjb]at hfin hsz;have hkb:k<x.ptrs.length->¬(k:Int)<4:=by omega
     by_cases ha:k<x.ptrs.length
     all_goals (
      simp[hil,hnd,ha,hkb,hdm,hl1,hl2,hsz,hw,hl3];exact⟨⟨i+1,by omega,hfin.symm,by simp⟩,by omega⟩)
  ·have:i=n:=by omega
   subst this;simp;have hwn1:=Z4 ((i:Int) -1) (by omega) (by omega);refine ZK (λt=>∃k:Nat,k<=roots.length/\k<=5/\t=[.v (.sl (l.map ndV)),.v (.sl (roots.map vi)),.m [.sl [],.sl []],.v (vi i),.m [.sl ((l.take i).map (ndV∘mkNd i)),.sl ((roots.take k).map (vi∘rp i))],.v (vi i),.v (.bool false),.no,.no,.no,.v (vi k)]) (λt=>match get t 10 with|.v (.int _ i)=>5-i.toNat|_=>0) ?_ ?_
   ·exact⟨0,by simp,by simp,by simp⟩
   ·rintro t ⟨k,hk,hk5,rfl⟩;have hwk:=Z4 ((k:Int)+1) (by omega) (by omega);by_cases h5:k<roots.length/\k<5
    ·obtain⟨ha,hb⟩:=h5;have hp:roots[k]?=some roots[k]:=Zh8 ha;have hkb:(k:Int)<5:=by omega
     simp[ha,hkb,hwn];refine Z0 (jc (hr _ (Zhi ha)) (by omega)) (by simp) ?_;have hpl:=W8 (c:=roots[k]) (n:=(i:Int)+1) (by omega);have hwp:=Z4 (pick roots[k] ((i:Int)+1) -1) (by omega) (by omega);simp[hwk,hwp];refine⟨by simp[lim];omega,⟨k+1,by omega,by omega,?_,by simp⟩,by omega⟩;rw[ZhM,Zhr,hp];rfl
    ·have hend:(roots.take k)=roots.take 5:=by
      by_cases ha:k<roots.length
      ·have:k=5:=by omega
       rw[this]
      ·rw[ZhI (by omega),ZhI (by omega)]
     have hkb:k<roots.length->¬(k:Int)<5:=by omega
     have hg:mkG l roots=⟨(l.take i).map (mkNd i),if roots.take 5=[]then [(i:Int) -1]else(roots.take 5).map (rp i)⟩:=by
      unfold mkG;rw[hn]
     have hlen:(roots.take k).length=k:=by rw[Zik];omega
     by_cases hz:k=0
     ·subst hz;have hnil:roots.take 5=[]:=by rw[<-hend];rfl
      rw[hg,if_pos hnil];have ha:¬0<roots.length:=by omega
      have hl1:1<=lim:=by simp[lim]
      simp[ha,grV,hwn1,hl1]
     ·have hnil:roots.take 5≠[]:=by
       rw[<-hend];intro h;rw[h]at hlen;simp at hlen;omega
      rw[hg,if_neg hnil,<-hend];have hr0:¬roots=[]:=by intro h;rw[h]at hk;simp at hk;omega
      by_cases ha:k<roots.length
      all_goals simp[ha,hkb,grV,hz,hr0]
def ZdZ{n:Nat}{p:Int}: -1<=rp n p/\rp n p<n:=by
 have:=W8 (c:=p) (n:=(n:Int)+1) (by omega);unfold rp;omega
def S5(l:List Nd)(roots:List Int):(mkG l roots).nodes.length=mkN l:=by
 simp[mkG,mkN]
def Lf(l:List Nd)(roots:List Int):mkN l<=10/\(mkG l roots).roots.length<=5/\∀x∈(mkG l roots).nodes,x.ptrs.length<=4/\x.data.length<=4:=by
 refine⟨by unfold mkN;omega,?_,λx hx=> ?_⟩
 ·simp only[mkG];split
  ·simp
  ·simp;omega
 ·simp only[mkG,Zhq]at hx;obtain⟨y,_,rfl⟩:=hx;simp only[mkNd,Zi1,Zik];omega
end Vm
end
section
namespace Vm
open Go
open Go.Proofs
def p8:Fn:=⟨5,[0,1,2,3,10],
pQ [pR [(1,pS 0 7),(2,pZ)],pC [pK 5 23 [.mm 1 0 7,pT]] [(3,pS 5 14)],pQ [pR [pV 4 (.bin .eql (.len (.m 3 5)) (pI 0))]] (.cond (.s 4) (pQ [pC [pK 6 24 [.mm 1 0 7]] [(2,pS 6 10)]] .ret) .skip),pC [pK 7 25 [.mm 3 0 14,.mm 1 0 7]] [(2,pS 7 10)]] .ret,[(2,(.ag 10))]⟩
def c8:Za Sol.prog fresh sig [.fz] [] Tryz.f8=some p8:=by kernel_rfl
def p23:Fn:=⟨19,[0,1,2,4,5,6,7,8,26,9,10,11,12,13,57,81,14,82,165],
pQ [pR [(2,pS 0 7),(3,.m [pU 0,pI 0,pI 0,pF,pI 0,pN,pN,pN,pN,pN,pN,pN,pN,pN])],.reg ⟨[pK 19 52 [.m 2 0,.m 2 1]],[([],.ag [pU 0,pI 0,pI 0,pF,pI 0,pN,pN,pN,pN,pN,.fld (.sz (.s 19) 2) 0,.fld (.sz (.s 19) 2) 1,pN,pN])],[(4,.m [pU 0,pI 0,pI 0,pF,pI 0,pN,pN,pN,pN,pN,.fld (.sz (.s 19) 2) 0,.fld (.sz (.s 19) 2) 1,pN,pN])]⟩,pR [(5,.m [pI 0,pI 0,pI 0,pI 0,pI 0])],pR [pV 6 (pI 0)],pQ [pR [pV 7 (pI 0)]] (.block 0 (.loop [0,1,2,3,4,5,6,7] (pQ [pQ [pR [pV 8 (.bin .lss (.s 7) (.len (.m 4 10)))]] (.cond (.s 8) .skip (.exit 0)),.block 1 (pQ [pC [pK 20 53 [.mm 2 0 7,.s 7,.s 1]] [pV 9 (.ext (.s 20) 0),pV 10 (.ext (.s 20) 1)],pR [pV 11 (.bin .add (.bin .add (pI 1) (.len (.fld (.idx (.m 4 10) (.s 7) 2) 0))) (.len (.fld (.idx (.m 4 10) (.s 7) 2) 1)))],pR [(12,pM (.ag [pI 0,pI 0]) 2)],pR [(13,pM (.ag [pI 0,pI 0]) 2)],pQ [pR [pV 14 (.bin .lss (.s 9) (pI 2))]] (.cond (.s 14) (pQ [.reg ⟨[],[([],.ai (.c (.agg [(.bool true),(.bool true),(.bool true),(.bool true),(.bool true)])) (.bin .sub (pI 2) (.s 9)) 5 1 false)],[(12,pM (.ag [.bin .sub (pI 2) (.s 9),.one (.ai (.mm 5 0 5) (.bin .sub (pI 2) (.s 9)) 5 1 false)]) 2)]⟩] (.reg ⟨[],[([],.ai (.c (.agg [(.bool true),(.bool true),(.bool true),(.bool true),(.bool true)])) (.bin .sub (pI 2) (.s 9)) 5 1 false)],[(5,pM (.aput (.mm 5 0 5) (.bin .sub (pI 2) (.s 9)) 5 1 (.bin .add (.ai (.mm 5 0 5) (.bin .sub (pI 2) (.s 9)) 5 1 false) (.s 11))) 5)]⟩)) (pR [pV 6 (.bin .add (.s 6) (.s 11))])),pQ [pC [.lt 21 [] (.bin .gtr (.s 9) (pI 0))] [pV 15 (.ite (.s 21) (.s 1) pF)]] (.cond (.s 15) (pQ [pR [pV 16 (pI 3)],pQ [pR [pV 17 (.s 10)]] (.cond (.s 17) (pR [pV 16 (pI 4)]) .skip),.reg ⟨[],[([],.ai (.c (.agg [(.bool true),(.bool true),(.bool true),(.bool true),(.bool true)])) (.s 16) 5 1 false)],[(13,pM (.ag [.one (.s 16),.one (.ai (.mm 5 0 5) (.s 16) 5 1 false)]) 2)]⟩] (.reg ⟨[],[([],.ai (.c (.agg [(.bool true),(.bool true),(.bool true),(.bool true),(.bool true)])) (.s 16) 5 1 false)],[(5,pM (.aput (.mm 5 0 5) (.s 16) 5 1 (.bin .add (.ai (.mm 5 0 5) (.s 16) 5 1 false) (.s 11))) 5)]⟩)) .skip),pR [(4,.m [.m 4 0,.m 4 1,.m 4 2,.m 4 3,.m 4 4,.m 4 5,.m 4 6,.m 4 7,.m 4 8,.m 4 9,.m 4 10,.m 4 11,.app (.m 4 12) (.lit [.mm 12 0 2]) 2,.m 4 13])]] (pR [(4,.m [.m 4 0,.m 4 1,.m 4 2,.m 4 3,.m 4 4,.m 4 5,.m 4 6,.m 4 7,.m 4 8,.m 4 9,.m 4 10,.m 4 11,.m 4 12,.app (.m 4 13) (.lit [.mm 13 0 2]) 2])]))] (pR [pV 7 (.bin .add (.s 7) (pI 1))])))),.reg ⟨[pK 22 26 [.m 2 6,pI 2]],[([],.ai (.c (.agg [(.bool true),(.bool true),(.bool true),(.bool true),(.bool true)])) (pI 1) 5 1 false),([],.ai (.c (.agg [(.bool true),(.bool true),(.bool true),(.bool true),(.bool true)])) (pI 2) 5 1 false),([],.ai (.c (.agg [(.bool true),(.bool true),(.bool true),(.bool true),(.bool true)])) (pI 3) 5 1 false),([],.ai (.c (.agg [(.bool true),(.bool true),(.bool true),(.bool true),(.bool true)])) (pI 4) 5 1 false),([],.ag [pU 0,pI 0,.one (.s 22),.one (.s 1),pI 0,.mk (.int .u64 0) (.ai (.mm 5 0 5) (pI 1) 5 1 false),.mk (.int .u64 0) (.ai (.mm 5 0 5) (pI 2) 5 1 false),.mk (.int .u64 0) (.ai (.mm 5 0 5) (pI 3) 5 1 false),.mk (.int .u64 0) (.ai (.mm 5 0 5) (pI 4) 5 1 false),pN])],[(4,.m [pU 0,pI 0,.one (.s 22),.one (.s 1),pI 0,.mk (.int .u64 0) (.ai (.mm 5 0 5) (pI 1) 5 1 false),.mk (.int .u64 0) (.ai (.mm 5 0 5) (pI 2) 5 1 false),.mk (.int .u64 0) (.ai (.mm 5 0 5) (pI 3) 5 1 false),.mk (.int .u64 0) (.ai (.mm 5 0 5) (pI 4) 5 1 false),pN,.m 4 10,.m 4 11,.m 4 12,.m 4 13])]⟩,.reg ⟨[pK 23 26 [.m 2 4,pI 12]],[([],.ai (.c (.agg [(.bool true),(.bool true),(.bool true),(.bool true),(.bool true)])) (pI 1) 5 1 false),([],.ai (.c (.agg [(.bool true),(.bool true),(.bool true),(.bool true),(.bool true)])) (pI 2) 5 1 false),([],.ai (.c (.agg [(.bool true),(.bool true),(.bool true),(.bool true),(.bool true)])) (pI 3) 5 1 false),([],.ai (.c (.agg [(.bool true),(.bool true),(.bool true),(.bool true),(.bool true)])) (pI 4) 5 1 false)],[(4,.m [.m 4 0,.bin .add (.mx (.bin .add (.bin .add (.ai (.mm 5 0 5) (pI 1) 5 1 false) (.ai (.mm 5 0 5) (pI 2) 5 1 false)) (.s 6)) (.bin .add (.ai (.mm 5 0 5) (pI 3) 5 1 false) (.ai (.mm 5 0 5) (pI 4) 5 1 false))) (.s 23),.m 4 2,.m 4 3,.m 4 4,.m 4 5,.m 4 6,.m 4 7,.m 4 8,.m 4 9,.m 4 10,.m 4 11,.m 4 12,.m 4 13])]⟩,pR [(4,.m [.bin .add (pU 1) (.bin .rem (.m 2 3) (.bin .sub (pU 9223372036854775808) (.bin .mul (pU 2) (.conv .u64 (.m 4 1))))),.m 4 1,.m 4 2,.m 4 3,.m 4 4,.m 4 5,.m 4 6,.m 4 7,.m 4 8,.m 4 9,.m 4 10,.m 4 11,.m 4 12,.m 4 13])],.reg ⟨[],[([],.ai (.c (.agg [(.bool true),(.bool true),(.bool true),(.bool true),(.bool true)])) (pI 1) 5 1 false)],[(4,.m [.m 4 0,.m 4 1,.m 4 2,.m 4 3,.one (.ai (.mm 5 0 5) (pI 1) 5 1 false),.m 4 5,.m 4 6,.m 4 7,.m 4 8,.m 4 9,.m 4 10,.m 4 11,.m 4 12,.m 4 13])]⟩,pQ [.reg ⟨[.lt 24 [] (.s 1)],[([(24,true)],.ai (.c (.agg [(.bool true),(.bool true),(.bool true),(.bool true),(.bool true)])) (pI 1) 5 1 false),([(24,true)],.bin .gtr (.ai (.mm 5 0 5) (pI 1) 5 1 false) (pI 0))],[pV 18 (.ite (.s 24) (.bin .gtr (.ai (.mm 5 0 5) (pI 1) 5 1 false) (pI 0)) pF)]⟩] (.cond (.s 18) (.reg ⟨[pK 25 26 [.m 2 5,.ai (.mm 5 0 5) (pI 1) 5 1 false]],[([],.ai (.c (.agg [(.bool true),(.bool true),(.bool true),(.bool true),(.bool true)])) (pI 1) 5 1 false)],[(4,.m [.m 4 0,.m 4 1,.m 4 2,.m 4 3,.one (.s 25),.m 4 5,.m 4 6,.m 4 7,.m 4 8,.m 4 9,.m 4 10,.m 4 11,.m 4 12,.m 4 13])]⟩) .skip),pR [(3,pM (.mm 4 0 14) 14)]] .ret,[(3,(.ag 14))]⟩
def c23:Za Sol.prog fresh sig [.fz,.fz] [] Tryz.f23=some p23:=by kernel_rfl
def p24:Fn:=⟨3,[0,1,2],
pQ [pR [(1,pS 0 7),(2,pZ)],pC [pK 3 23 [.mm 1 0 7,pF],pK 4 25 [.s 3,.mm 1 0 7]] [(2,pS 4 10)]] .ret,[(2,(.ag 10))]⟩
def c24:Za Sol.prog fresh sig [.fz] [] Tryz.f24=some p24:=by kernel_rfl
def p25:Fn:=⟨17,[0,1,2,3,4,5,16,6,31,59,83,7,8,9,125,10,134],
pQ [pR [(2,pS 0 14),(3,pS 1 7),(4,pZ)],pQ [pR [pV 5 (pI 0)]] (.block 0 (.loop [0,1,2,3,4,5] (pQ [pQ [pR [pV 6 (.bin .lss (.s 5) (.len (.m 2 10)))]] (.cond (.s 6) .skip (.exit 0)),.block 1 (pQ [pR [(7,pM (.flds (.idx (.m 2 10) (.s 5) 2) 0 2) 2)],pQ [pR [pV 8 (.bin .gtr (.fld (.idx (.m 2 12) (.s 5) 2) 0) (pI 0))]] (.cond (.s 8) (pC [pK 17 54 [.mm 2 0 14,.flds (.idx (.m 2 12) (.s 5) 2) 0 2,.mm 7 0 2,.bin .add (.m 3 4) (.s 5)]] [(2,pS 17 14)]) .skip),pQ [.reg ⟨[.lt 18 [] (.bin .gtr (.fld (.idx (.m 2 13) (.s 5) 2) 0) (pI 0))],[([(18,true)],.bin .eql (.fld (.idx (.m 2 12) (.s 5) 2) 0) (pI 0))],[pV 9 (.ite (.s 18) (.bin .eql (.fld (.idx (.m 2 12) (.s 5) 2) 0) (pI 0)) pF)]⟩] (.cond (.s 9) (pC [pK 19 54 [.mm 2 0 14,.flds (.idx (.m 2 13) (.s 5) 2) 0 2,.mm 7 0 2,pI 0]] [(2,pS 19 14)]) .skip),.reg ⟨[.lt 20 [] (.bin .gtr (.fld (.idx (.m 2 13) (.s 5) 2) 0) (pI 0))],[([(20,true)],.bin .gtr (.fld (.idx (.m 2 12) (.s 5) 2) 0) (pI 0))],[pV 10 (.ite (.s 20) (.bin .gtr (.fld (.idx (.m 2 12) (.s 5) 2) 0) (pI 0)) pF)]⟩] (.cond (.s 10) (pQ [pC [pK 21 7 [.mm 2 0 10,.fld (.idx (.m 2 13) (.s 5) 2) 0]] [pV 11 (.app pN (.s 21) 1)],.reg ⟨[pK 22 55 [.mm 2 0 14,.flds (.idx (.m 2 12) (.s 5) 2) 0 2]],[([],.idx (.s 11) (.fld (.idx (.m 2 13) (.s 5) 2) 1) 1)],[pV 11 (.upd (.s 11) (.fld (.idx (.m 2 13) (.s 5) 2) 1) 0 (.one (.s 22)))]⟩] (pC [pK 23 6 [.mm 2 0 10,.fld (.idx (.m 2 13) (.s 5) 2) 0,.s 11]] [(2,.m [.fld (.sz (.s 23) 10) 0,.fld (.sz (.s 23) 10) 1,.fld (.sz (.s 23) 10) 2,.fld (.sz (.s 23) 10) 3,.fld (.sz (.s 23) 10) 4,.fld (.sz (.s 23) 10) 5,.fld (.sz (.s 23) 10) 6,.fld (.sz (.s 23) 10) 7,.fld (.sz (.s 23) 10) 8,.fld (.sz (.s 23) 10) 9,.m 2 10,.m 2 11,.m 2 12,.m 2 13])])) .skip))] (pR [pV 5 (.bin .add (.s 5) (pI 1))])))),pR [pV 12 pN],pQ [pR [pV 13 (pI 0)]] (.block 2 (.loop [0,1,2,3,4,5,6,12,13] (pQ [pQ [pR [pV 14 (.bin .lss (.s 13) (.len (.m 2 11)))]] (.cond (.s 14) .skip (.exit 2)),.block 3 (pQ [pR [pV 15 (pU 0)],pQ [pR [pV 16 (.bin .geq (.fld (.idx (.m 2 11) (.s 13) 1) 0) (pI 0))]] (.cond (.s 16) (pC [pK 24 55 [.mm 2 0 14,.flds (.idx (.m 2 12) (.fld (.idx (.m 2 11) (.s 13) 1) 0) 2) 0 2]] [pV 15 (.s 24)]) .skip)] (pR [pV 12 (.app (.s 12) (.lit [.one (.s 15)]) 1)]))] (pR [pV 13 (.bin .add (.s 13) (pI 1))])))),pR [(2,.m [.m 2 0,.m 2 1,.m 2 2,.m 2 3,.m 2 4,.m 2 5,.m 2 6,.m 2 7,.m 2 8,.one (.s 12),.m 2 10,.m 2 11,.m 2 12,.m 2 13])],pR [(4,pM (.mm 2 0 10) 10)]] .ret,[(4,(.ag 10))]⟩
def c25:Za Sol.prog fresh sig [.fz,.fz] [] Tryz.f25=some p25:=by kernel_rfl
end Vm
end
section
namespace Vm
open Go Go.Proofs
structure Pl where
 part:Int
 at_:Int
 deriving DecidableEq,Inhabited
def plV(p:Pl):V:=.agg [vi p.part,vi p.at_]
@[simp]def ZdK(p:Pl):(plV p).cells=[vi p.part,vi p.at_]:=rfl
@[simp]def ZcV(p:Pl):Q1 (plV p) 0 2=some (plV p):=rfl
@[simp]def ZcB(p:Pl):fldV (plV p) 0=some (vi p.part):=rfl
@[simp]def ZcC(p:Pl):fldV (plV p) 1=some (vi p.at_):=rfl
@[simp]def Zg6(p:Pl):szV (plV p) 2=some (plV p):=rfl
structure Rw where
 nodes:List Nd
 roots:List Int
 cls:List Int
 base:Int
 slack:Int
 scan:Int
 to:Int
 deriving Inhabited
def rwV(x:Rw):V:=.agg [.sl (x.nodes.map ndV),.sl (x.roots.map vi),.sl (x.cls.map vi),vu x.base,vi x.slack,vi x.scan,vi x.to]
@[simp]def Zg8(x:Rw):szV (rwV x) 7=some (rwV x):=rfl
@[simp]def Ze1(x:Rw):(rwV x).cells=[.sl (x.nodes.map ndV),.sl (x.roots.map vi),.sl (x.cls.map vi),vu x.base,vi x.slack,vi x.scan,vi x.to]:=rfl
@[simp]def ZcG(x:Rw):fldV (rwV x) 0=some (.sl (x.nodes.map ndV)):=rfl
@[simp]def ZcH(x:Rw):fldV (rwV x) 1=some (.sl (x.roots.map vi)):=rfl
@[simp]def ZcI(x:Rw):fldV (rwV x) 2=some (.sl (x.cls.map vi)):=rfl
@[simp]def ZcJ(x:Rw):fldV (rwV x) 3=some (vu x.base):=rfl
@[simp]def ZcK(x:Rw):fldV (rwV x) 4=some (vi x.slack):=rfl
@[simp]def ZcL(x:Rw):fldV (rwV x) 5=some (vi x.scan):=rfl
@[simp]def ZcM(x:Rw):fldV (rwV x) 6=some (vi x.to):=rfl
structure Rw.ok (x:Rw):Prop where
 ptrs:∀n∈x.nodes,∀p∈n.ptrs,Fit p
 data:∀n∈x.nodes,∀p∈n.data,U64 p
 roots:∀p∈x.roots,Fit p
 cls:∀p∈x.cls,Fit p
 base:U64 x.base
 slack:Fit x.slack
 scan:Fit x.scan
 to:Fit x.to
def rawC(x:Rw)(i:Nat):Int:=if x.cls.length=0 then i else(x.cls[i%x.cls.length]?).getD 0
def clsK(x:Rw)(i:Nat)(cycle:Bool):Int:=if pick (rawC x i) 3=2/\cycle=false then 1 else pick (rawC x i) 3
def clsF(x:Rw)(i:Nat):Bool:=decide (pick ((rawC x i).tdiv 3) 2=1)
def SD(x:Rw)(i:Nat)(cycle:Bool):clsK x i cycle=0\/clsK x i cycle=1\/(clsK x i cycle=2/\cycle=true):=by
 have:=W8 (c:=rawC x i) (n:=3) (by omega);unfold clsK
 grind
def Z7R{x:Rw}(hx:x.ok){i:Nat}(hi:i<=1000){cycle:Bool}:VC Sol.prog 53 false [rwV x,vi i,.bool cycle] (.tup [vi (clsK x i cycle),.bool (clsF x i)]):=by
 refine Z5 Sol.func53 follows (by kernel_rfl) c53 rfl ?_
 have hc:Fit (rawC x i):=by
  unfold rawC;split
  ·exact⟨by omega,by omega⟩
  ·rename_i h;have:i%x.cls.length<x.cls.length:=Zkc _ (by omega);rw[Zh8 this];exact hx.cls _ (Zhi this)
 have hp3:=X6 (c:=rawC x i) (n:=3) hc (by omega)
 have hd:Fit ((rawC x i).tdiv 3):=by
  obtain⟨h1,h2⟩:=hc;unfold Fit;rw[Int.tdiv_eq_ediv];have:Int.sign 3=1:=rfl;split<;>omega
 have hwd:=Z4 _ hd.1 hd.2;have hp2:=X6 (c:=(rawC x i).tdiv 3) (n:=2) hd (by omega);have fin:∀(b:Bool),(decide (pick ((rawC x i).tdiv 3) 2=1)=b)->clsF x i=b:=λb h=>h;by_cases hl:x.cls.length=0
 ·have hr:rawC x i=i:=by simp[rawC,hl]
  rw[hr]at hp3 hp2 hwd;rw[ZiH (by omega)]at hp2 hwd;simp[p53,hl];refine Z0 hp3 (by simp) ?_;by_cases h2:pick (i:Int) 3=2
  ·cases cycle
   ·simp[h2,hwd];refine Z0 hp2 (by simp) ?_;simp[clsK,clsF,hr,h2]
   ·simp[h2,hwd];refine Z0 hp2 (by simp) ?_;simp[clsK,clsF,hr,h2]
  ·simp[h2,hwd];refine Z0 hp2 (by simp) ?_;simp[clsK,clsF,hr,h2]
 ·have hlt:i%x.cls.length<x.cls.length:=Zkc _ (by omega);have hg:x.cls[i%x.cls.length]?=some x.cls[i%x.cls.length]:=Zh8 hlt;have hr:rawC x i=x.cls[i%x.cls.length]:=by simp[rawC,hl,hg]
  have hm:(i:Int).tmod (x.cls.length:Int)=((i%x.cls.length:Nat):Int):=by
   rw[ZhW (by omega)];rfl
  rw[hr]at hp3 hp2 hwd;have h0:0<x.cls.length:=by omega
  have hne:x.cls≠[]:=λe=>by simp_all
  have hm':((i:Int) % (x.cls.length:Int))=((i%x.cls.length:Nat):Int):=rfl;generalize hcc:x.cls[i%x.cls.length]=c at*;generalize hii:i%x.cls.length=j at*;simp[p53,h0,hne,hm,hlt,hcc];refine Z0 hp3 (by simp) ?_;by_cases h2:pick c 3=2
  ·cases cycle
   ·simp[h2,hwd];refine Z0 hp2 (by simp) ?_;simp[clsK,clsF,hr,h2]
   ·simp[h2,hwd];refine Z0 hp2 (by simp) ?_;simp[clsK,clsF,hr,h2]
  ·simp[h2,hwd];refine Z0 hp2 (by simp) ?_;simp[clsK,clsF,hr,h2]
def sizN(n:Nd):Nat:=1+n.ptrs.length+n.data.length
structure St8 where
 n1:Nat
 n2:Nat
 n3:Nat
 n4:Nat
 wt:Nat
 here:List Pl
 old:List Pl
def Yh(x:Rw)(cycle:Bool)(sz:Nat)(i:Nat)(s:St8):St8:=
 let k:=clsK x i cycle
 let far:=clsF x i
 let o:Bool:=decide (0<k)&&cycle
 {n1:=if k=1 then s.n1+sz else s.n1
  n2:=if k=0 then s.n2+sz else s.n2
  n3:=if o&& !far then s.n3+sz else s.n3
  n4:=if o&&far then s.n4+sz else s.n4
  wt:=if k=2 then s.wt+sz else s.wt
  here:=s.here++[if k=0 then⟨2,s.n2⟩else if k=1 then⟨1,s.n1⟩else⟨0,0⟩]
  old:=s.old++[if o then(if far then⟨4,s.n4⟩else⟨3,s.n3⟩)else⟨0,0⟩]}
def stN(x:Rw)(cycle:Bool)(g:Gr):Nat->St8
 |0=>⟨0,0,0,0,0,[],[]⟩
 |i+1=>Yh x cycle (sizN ((g.nodes[i]?).getD default)) i (stN x cycle g i)
def jC{x:Rw}{cycle:Bool}{sz i:Nat}(hs:sz<=9)(s:St8)(h1:s.n1+s.n2+s.wt<=9*i)(h2:s.n3+s.n4<=9*i)(h3:s.here.length=i)(h4:s.old.length=i):
  (Yh x cycle sz i s).n1+(Yh x cycle sz i s).n2+(Yh x cycle sz i s).wt<=9*(i+1)/\(Yh x cycle sz i s).n3+(Yh x cycle sz i s).n4<=9*(i+1)/\(Yh x cycle sz i s).here.length=i+1/\(Yh x cycle sz i s).old.length=i+1:=by
 obtain hk|hk|⟨hk,rfl⟩:=SD x i cycle
 ·grind [Yh]
 ·grind [clsF,Yh]
 grind [clsF,Yh]
def Sr{x:Rw}{cycle:Bool}{g:Gr}(hg:∀n∈g.nodes,sizN n<=9):∀i,i<=g.nodes.length->(stN x cycle g i).n1+(stN x cycle g i).n2+(stN x cycle g i).wt<=9*i/\(stN x cycle g i).n3+(stN x cycle g i).n4<=9*i/\(stN x cycle g i).here.length=i/\(stN x cycle g i).old.length=i
 |0,_=>by simp[stN]
 |i+1,hi=>by
  obtain⟨h1,h2,h3,h4⟩:=Sr (x:=x) (cycle:=cycle) hg i (by omega);have hn:=hg _ (Zhi (show i<g.nodes.length by omega));simp only[stN,Zh8 (show i<g.nodes.length by omega),ZhL];simp_all[jC]
structure Bt where
 h:Hp
 g:Gr
 here:List Pl
 old:List Pl
def btC(b:Bt):List V:=[vu b.h.base,vi b.h.cap,vi b.h.to,.bool b.h.cycle,vi b.h.scan,.sl (b.h.low.map vu),.sl (b.h.high.map vu),.sl (b.h.old.map vu),.sl (b.h.far.map vu),.sl (b.h.roots.map vu),.sl (b.g.nodes.map ndV),.sl (b.g.roots.map vi),.sl (b.here.map plV),.sl (b.old.map plV)]
def btV(b:Bt):V:=.agg [vu b.h.base,vi b.h.cap,vi b.h.to,.bool b.h.cycle,vi b.h.scan,.sl (b.h.low.map vu),.sl (b.h.high.map vu),.sl (b.h.old.map vu),.sl (b.h.far.map vu),.sl (b.h.roots.map vu),.sl (b.g.nodes.map ndV),.sl (b.g.roots.map vi),.sl (b.here.map plV),.sl (b.old.map plV)]
def WX(x:Rw)(cycle:Bool):Bt:=
 let g:=mkG x.nodes x.roots
 let s:=stN x cycle g g.nodes.length
 let cap:Int:=max ((s.n1:Int)+s.n2+s.wt) ((s.n3:Int)+s.n4)+pick x.slack 12
 ⟨⟨1+x.base% (9223372036854775808-2*cap),cap,pick x.to 2,cycle,if cycle=true/\0<s.n1 then pick x.scan s.n1 else s.n1,List.replicate s.n1 0,List.replicate s.n2 0,List.replicate s.n3 0,List.replicate s.n4 0,[]⟩,g,s.here,s.old⟩
def Z2N{x:Rw}(hx:x.ok){cycle:Bool}:VC Sol.prog 23 false [rwV x,.bool cycle] (btV (WX x cycle)):=by
 refine Z5 Sol.func23 follows (by kernel_rfl) c23 rfl ?_;simp[p23];refine Z0 (Z7B hx.ptrs hx.roots) (by simp) ?_;obtain⟨hb1,hb2,hb3⟩:=Lf x.nodes x.roots;have hb5:=S5 x.nodes x.roots;unfold WX;generalize mkG x.nodes x.roots=g at*;have hsz:∀n∈g.nodes,sizN n<=9:=λn hn=>by have:=hb3 n hn;unfold sizN;omega
 simp
 refine Y2 7 g.nodes.length (λi=>[(4,.m [.int .u64 0,.int .i64 0,.int .i64 0,.bool false,.int .i64 0,.sl [],.sl [],.sl [],.sl [],.sl [],.sl (g.nodes.map ndV),.sl (g.roots.map vi),.sl ((stN x cycle g i).here.map plV),.sl ((stN x cycle g i).old.map plV)]),
  (5,.m [vi 0,vi (stN x cycle g i).n1,vi (stN x cycle g i).n2,vi (stN x cycle g i).n3,vi (stN x cycle g i).n4]),(6,.v (vi (stN x cycle g i).wt)),(7,.v (vi i))]) (λ_=>True) (by simp[stN]) (λi=>by simp) trivial ?_
 rintro i hi-;have hw:=Z4 ((i:Int)+1) (by omega) (by omega);obtain⟨s1,s2,s3,s4⟩:=Sr (x:=x) (cycle:=cycle) hsz i hi;by_cases h:i<g.nodes.length
 ·have hn:g.nodes[i]?=some g.nodes[i]:=Zh8 h;have hz:=hsz _ (Zhi h);simp only[stN,hn,ZhL];generalize stN x cycle g i=s at*;generalize g.nodes[i]=n at*;have hc:=Z7R hx (i:=i) (by omega) (cycle:=cycle);have hkr:=SD x i cycle;have w1:=Z4 (1+(n.ptrs.length:Int)) (by unfold sizN at hz;omega) (by unfold sizN at hz;omega);have w2:=Z4 (1+(n.ptrs.length:Int)+n.data.length) (by unfold sizN at hz;omega) (by unfold sizN at hz;omega);have e2:(1+(n.ptrs.length:Int)+n.data.length)=(sizN n:Nat):=by unfold sizN;omega
  rw[e2]at w2;simp[h];refine Z0 hc (by simp) ?_;generalize hsz':sizN n=sz at*;unfold Yh;generalize clsF x i=fr at*;generalize clsK x i cycle=k at*;have u1:=Z4 ((s.n1:Int)+sz) (by omega) (by omega);have u2:=Z4 ((s.n2:Int)+sz) (by omega) (by omega);have u3:=Z4 ((s.n3:Int)+sz) (by omega) (by omega);have u4:=Z4 ((s.n4:Int)+sz) (by omega) (by omega);have u5:=Z4 ((s.wt:Int)+sz) (by omega) (by omega);have l1:s.here.length+1<=lim:=by simp[lim];omega
  have l2:s.old.length+1<=lim:=by simp[lim];omega
  obtain rfl|rfl|⟨rfl,rfl⟩:=hkr
  ·cases cycle<;>simp[hn,Zt hn,w1,e2,w2,aiV,QH,ZC,Z4,u1,u2,u3,u4,u5,l1,l2,plV,hw]
  ·cases cycle
   ·simp[hn,Zt hn,w1,e2,w2,aiV,QH,ZC,Z4,u1,u2,u3,u4,u5,l1,l2,plV,hw]
   ·cases fr<;>simp[hn,Zt hn,w1,e2,w2,aiV,QH,ZC,Z4,u1,u2,u3,u4,u5,l1,l2,plV,hw]
  ·cases fr<;>simp[hn,Zt hn,w1,e2,w2,aiV,QH,ZC,Z4,u1,u2,u3,u4,u5,l1,l2,plV,hw]
 ·have:i=g.nodes.length:=by omega
  subst this;generalize hs8:stN x cycle g g.nodes.length=s at*;have hpt:=X6 (c:=x.to) (n:=2) hx.to (by omega);have hps:=X6 (c:=x.slack) (n:=12) hx.slack (by omega);have hsl:=W8 (c:=x.slack) (n:=12) (by omega);simp;refine Z0 hpt (by simp) ?_;have q1:s.n1<=lim:=by simp[lim];omega
  have q2:s.n2<=lim:=by simp[lim];omega
  have q3:s.n3<=lim:=by simp[lim];omega
  have q4:s.n4<=lim:=by simp[lim];omega
  simp[aiV,q1,q2,q3,q4];refine Z0 hps (by simp) ?_;have w1:=Z4 ((s.n1:Int)+s.n2) (by omega) (by omega);have w2:=Z4 ((s.n1:Int)+s.n2+s.wt) (by omega) (by omega);have w3:=Z4 ((s.n3:Int)+s.n4) (by omega) (by omega);have hmax:(if(s.n1:Int)+s.n2+s.wt< (s.n3:Int)+s.n4 then(s.n3:Int)+s.n4 else(s.n1:Int)+s.n2+s.wt)=max ((s.n1:Int)+s.n2+s.wt) ((s.n3:Int)+s.n4):=by split<;>omega
  obtain⟨cap,hcap⟩:∃cap:Int,max ((s.n1:Int)+s.n2+s.wt) ((s.n3:Int)+s.n4)+pick x.slack 12=cap:=⟨_,rfl⟩;have hc0:0<=cap/\cap<=200:=by omega
  have w4:=Z4 cap (by omega) (by omega);have w5:=Zs cap (by omega) (by omega);have w6:=Zs (2*cap) (by omega) (by omega);have w7:=Zs (9223372036854775808-2*cap) (by omega) (by omega);obtain⟨b1,b2⟩:=hx.base;have w8:x.base.tmod (9223372036854775808-2*cap)=x.base% (9223372036854775808-2*cap):=ZhW b1;have h1:=ZkX x.base (show(9223372036854775808-2*cap)≠0 by omega);have h2:=Zku x.base (show 0< (9223372036854775808-2*cap)by omega);have w9:=Zs (1+x.base% (9223372036854775808-2*cap)) (by omega) (by omega);have hne:¬((9223372036854775808-2*cap)=0):=by omega
  simp[aiV,w1,w2,w3,hmax,hcap,w4,w5,w6,w7,w8,w9,hne];cases cycle
  ·simp[btV,hcap]
  ·by_cases h0:0<s.n1
   ·have hp:=X6 (c:=x.scan) (n:=(s.n1:Int)) hx.scan (by omega);simp[h0];refine Z0 hp (by simp) ?_;simp[btV,hcap,h0,aiV]
   ·simp[btV,hcap,h0]
end Vm
namespace Vm
open Go Go.Proofs
@[simp]def ZfZ(b:Bt):szV (btV b) 14=some (btV b):=rfl
@[simp]def ZbN(b:Bt):(btV b).cells=btC b:=rfl
@[simp]def ZeJ(b:Bt)(i:Nat):fldV (btV b) i=(btC b)[i]?.bind oneV:=rfl
def Z0Y(s p:Int):0<=(Jy s p).1/\(Jy s p).1<100000000:=by
 grind [Jy,Zb]
def jW(l:Ly)(hl:l.fits)(p a:Int):0<=(ZI l p a).1/\(ZI l p a).1<=9223372036854775807:=by
 unfold ZI;split
 ·simp
 ·rename_i hr;have hr':Zl l=true:=by simpa using hr
  split
  ·simp
  ·split
   ·simp
   ·have:=Yq hr' p;omega
def Z18{a:Int}:0<=(zR a).1/\(zR a).1<18446744073709551616:=by
 unfold zR;split
 ·simp
 ·omega
def refB(h:Hp)(p:Pl):Int:=if p.part=0 then 0 else(zR (ZI (layH h) p.part p.at_).1).1
theorem R9(h:Hp)(p:Pl):U64 (refB h p):=by
 unfold refB;split
 ·exact⟨by omega,by omega⟩
 ·exact Z18
def JH{b:Bt}(hb:(layH b.h).fits){p:Pl}:VC Sol.prog 55 false [btV b,plV p] (vu (refB b.h p)):=by
 refine Z5 Sol.func55 follows (by kernel_rfl) c55 rfl ?_;by_cases h0:p.part=0
 ·simp[p55,btC,refB,h0]
 ·have hr:=jW (layH b.h) hb p.part p.at_;simp[p55,btC,h0];refine Z0 (Wo (h:=b.h)) (by simp[hpV]) ?_;simp;refine Z0 (Tq hb (part:=p.part) (at_:=p.at_)) (by simp) ?_;simp;refine Z0 (Z1f (a:=(ZI (layH b.h) p.part p.at_).1) ⟨hr.1,by omega⟩) (by simp) ?_;simp[refB,h0]
def JW(b:Bt)(p:Pl)(to tw:Int):Int:=
 if to<0 then 0 else if 2<p.part then refB b.h ((b.old[to.toNat]?).getD ⟨0,0⟩)
 else if p.part=1/\b.h.scan<=p.at_/\(((b.here[to.toNat]?).getD ⟨0,0⟩).part=0\/0< ((b.old[to.toNat]?).getD ⟨0,0⟩).part/\tw%2=0)then refB b.h ((b.old[to.toNat]?).getD ⟨0,0⟩)
 else refB b.h ((b.here[to.toNat]?).getD ⟨0,0⟩)
theorem Z1t(b:Bt)(p:Pl)(to tw:Int):U64 (JW b p to tw):=by
 unfold JW;split
 ·exact⟨by omega,by omega⟩
 grind [R9]
def Zeg(t:Int):t.tmod 2=0↔t%2=0:=by
 grind
def Z90{b:Bt}(hb:(layH b.h).fits){p:Pl}{to tw:Int}(h1:to<b.here.length)(h2:to<b.old.length):VC Sol.prog 83 false [btV b,plV p,vi to,vi tw] (vu (JW b p to tw)):=by
 refine Z5 Sol.func83 follows (by kernel_rfl) c83 rfl ?_;by_cases h0:to<0
 ·simp[p83,btC,JW,h0]
 obtain⟨t,rfl⟩:=Zhl (show 0<=to by omega);have g1:b.here[t]?=some (b.here[t]'(by omega)):=Zh8 (by omega);have g2:b.old[t]?=some (b.old[t]'(by omega)):=Zh8 (by omega);generalize b.here[t]'(by omega)=x at*;generalize b.old[t]'(by omega)=y at*;unfold JW;simp only[ZhV,g1,g2,ZhL,if_neg h0];by_cases q1:2<p.part
 ·simp[p83,btC,q1,g2];refine Z0 (JH hb (p:=y)) (by simp[btV]) ?_;simp
 have k1:=JH hb (p:=x);have k2:=JH hb (p:=y);by_cases q2:p.part=1
 ·by_cases q3:b.h.scan<=p.at_
  ·by_cases q4:x.part=0
   ·simp[p83,btC,q1,q2,q3,q4,g1,g2];refine Z0 k2 (by simp[btV]) ?_;simp
   ·by_cases q5:0<y.part
    ·by_cases q6:tw%2=0
     ·have q6':=(Zeg tw).2 q6;simp[p83,btC,q1,q2,q3,q4,q5,q6,q6',g1,g2];refine Z0 k2 (by simp[btV]) ?_;simp
     ·have q6':=mt (Zeg tw).1 q6;simp[p83,btC,q1,q2,q3,q4,q5,q6,q6',g1,g2];refine Z0 k1 (by simp[btV]) ?_;simp
    ·simp[p83,btC,q1,q2,q3,q4,q5,g1,g2];refine Z0 k1 (by simp[btV]) ?_;simp
  ·simp[p83,btC,q1,q2,q3,g1,g2];refine Z0 k1 (by simp[btV]) ?_;simp
 ·simp[p83,btC,q1,q2,g1,g2];refine Z0 k1 (by simp[btV]) ?_;simp
@[simp]def ZdO(x y:Int):V.put (vu x) 0 [vu y]=vu y:=rfl
def zY{l pre:List Int}{m:Nat}(h:pre.length=m)(hm:m<l.length)(z:Int):(pre++l.drop m).set m z=pre++[z]++l.drop (m+1):=by
 subst h;rw[Zl1 _ _ (Zhe _),Zjz,ZhZ hm,List.set_cons_zero,Ziy];rfl
def Xj(b:Bt)(p:Pl)(a:Nat)(ps:List Int)(tw:Int):List Int:=(List.range ps.length).map λi=>JW b ⟨p.part,((a+1+i:Nat):Int)⟩ ((ps[i]?).getD 0) (IntKind.i64.wrap (tw+i))
def layL(b:Bt)(p:Pl)(a:Nat)(n:Nd)(tw:Int):List Int:=
 let l:=Zh b.h p.part
 l.take a++[(Jy ((n.ptrs.length:Int)+n.data.length) n.ptrs.length).1]++Xj b p a n.ptrs tw++n.data++l.drop (a+sizN n)
def layB(b:Bt)(p:Pl)(n:Nd)(tw:Int):Bt:= {b with h:=Xg b.h p.part (layL b p p.at_.toNat n tw)}
def Z9u{b:Bt}(hb:(layH b.h).fits){p:Pl}{n:Nd}{tw:Int}{a:Nat}(ha:p.at_=a)(hlen:(Zh b.h p.part).length<=1000000)(hfit:a+sizN n<=(Zh b.h p.part).length)
  (h1:∀q∈n.ptrs,q<b.here.length/\q<b.old.length):VC Sol.prog 54 false [btV b,plV p,ndV n,vi tw] (btV (layB b p n tw)):=by
 refine Z5 Sol.func54 follows (by kernel_rfl) c54 rfl ?_;have hlim:(Zh b.h p.part).length<=lim:=by simp[lim];omega
 have w1:=Z4 ((n.ptrs.length:Int)+n.data.length) (by unfold sizN at hfit;omega) (by unfold sizN at hfit;omega);unfold layB;rw[show p.at_.toNat=a by omega];simp[p54,btC];refine Z0 (Sx (h:=b.h) (n:=p.part)) (by simp[hpV]) ?_;simp[hlim,w1];refine Z0 (Lp (s:=(n.ptrs.length:Int)+n.data.length) (p:=n.ptrs.length)) (by simp) ?_;have hpl:a< (Zh b.h p.part).length:=by unfold sizN at hfit;omega
 simp[ha,hpl];generalize hl0:Zh b.h p.part=l at*;generalize hhd:(Jy ((n.ptrs.length:Int)+n.data.length) n.ptrs.length).1=hd at*
 have hset0:(l.map vu).set a (vu hd)=((l.take a++[hd])++l.drop (a+1)).map vu:=by
  rw[<-Zk4];congr 1;have:=zY (l:=l) (pre:=l.take a) (m:=a) (by simp;omega) hpl hd;rw[ZiP]at this;exact this
 simp only[ZdO,hset0];have hw1:=Z4 ((a:Int)+1) (by omega) (by omega);have hnp:n.ptrs.length<=l.length:=by unfold sizN at hfit;omega
 have hsl:(Xj b p a n.ptrs tw).length=n.ptrs.length:=by simp[Xj]
 refine Y2 11 n.ptrs.length (λk=>[(8,.v (.sl (((l.take a++[hd]++(Xj b p a n.ptrs tw).take k)++l.drop (a+1+k)).map vu))),(11,.v (vi k))]) (λ_=>True) (by simp) (λi=>by simp) trivial ?_;rintro k hk-;have hwk:=Z4 ((k:Int)+1) (by omega) (by omega);have hw2:=Z4 ((a:Int)+1+k) (by omega) (by omega);by_cases hkl:k<n.ptrs.length
 ·have hq:n.ptrs[k]?=some n.ptrs[k]:=Zh8 hkl;obtain⟨q1,q2⟩:=h1 _ (Zhi hkl);have hslot:=Z90 hb (p:=⟨p.part,((a+1+k:Nat):Int)⟩) (to:=n.ptrs[k]) (tw:=IntKind.i64.wrap (tw+k)) q1 q2
  have hsk:(Xj b p a n.ptrs tw)[k]?=some (JW b ⟨p.part,((a+1+k:Nat):Int)⟩ n.ptrs[k] (IntKind.i64.wrap (tw+k))):=by
   simp[Xj,hkl]
  generalize n.ptrs[k]=q at*;generalize JW b ⟨p.part,((a+1+k:Nat):Int)⟩ q (IntKind.i64.wrap (tw+k))=z at*;have htk:(Xj b p a n.ptrs tw).take (k+1)=(Xj b p a n.ptrs tw).take k++[z]:=by rw[ZhM,hsk];rfl
  have hpre:(l.take a++[hd]++(Xj b p a n.ptrs tw).take k).length=a+1+k:=by simp[hsl];omega
  have hm:a+1+k<l.length:=by unfold sizN at hfit;omega
  have hst:=zY (l:=l) hpre hm z;generalize hpp:l.take a++[hd]++(Xj b p a n.ptrs tw).take k=pre at*
  have hall:∃x,((pre++l.drop (a+1+k)).map vu)[a+1+k]?=some (vu x):=by
   refine⟨l[a+1+k],?_⟩;rw[Zhr,ZhH (by omega),hpre,Zjz,ZhZ hm];rfl
  have hset:((pre++l.drop (a+1+k)).map vu).set (a+1+k) (vu z)=(pre++[z]++l.drop (a+1+(k+1))).map vu:=by
   rw[<-Zk4,hst];rfl
  obtain⟨m,hmn⟩:∃m:Nat,a+1+k=m:=⟨_,rfl⟩;have hmi:(a:Int)+1+k=m:=by omega
  have hwm:=Z4 (m:Int) (by omega) (by omega);rw[show a+1+(k+1)=a+1+k+1 by omega]at hset⊢;rw[hmn]at hall hset hslot⊢;generalize hLL:(pre++l.drop m).map vu=LL at hall hset⊢;rw[htk];obtain⟨y,hy⟩:=hall;simp[hkl,hq,Zt hq,hw1,hw2,hmi,hwm];refine Z0 hslot (by simp[btV]) ?_;simp[hy,hset,hwk,hkl,hw1,hmi,hwm];rw[<-hpp];simp
 ·have:k=n.ptrs.length:=by omega
  subst this;rw[show(Xj b p a n.ptrs tw).take n.ptrs.length=Xj b p a n.ptrs tw from ZhI (by omega)];have hw3:=Z4 ((a:Int)+1+n.ptrs.length) (by omega) (by omega);have hw4:∀j:Nat,j<=1000+n.data.length->IntKind.i64.wrap ((a:Int)+1+n.ptrs.length+j)=(a:Int)+1+n.ptrs.length+j:=λj hj=>Z4 _ (by omega) (by unfold sizN at hfit;omega);generalize hsp:l.take a++[hd]++Xj b p a n.ptrs tw=sp at*;have hspl:sp.length=a+1+n.ptrs.length:=by rw[<-hsp];simp[hsl];omega
  simp;refine Y2 13 n.data.length (λk=>[(8,.v (.sl (((sp++n.data.take k)++l.drop (a+1+n.ptrs.length+k)).map vu))),(13,.v (vi k))]) (λ_=>True) (by simp) (λi=>by simp) trivial ?_;rintro k hk-;have hwk:=Z4 ((k:Int)+1) (by omega) (by unfold sizN at hfit;omega);by_cases hkl:k<n.data.length
  ·have hq:n.data[k]?=some n.data[k]:=Zh8 hkl;generalize n.data[k]=z at*;have htk:n.data.take (k+1)=n.data.take k++[z]:=by rw[ZhM,hq];rfl
   have hpre:(sp++n.data.take k).length=a+1+n.ptrs.length+k:=by simp[hspl];omega
   have hm:a+1+n.ptrs.length+k<l.length:=by unfold sizN at hfit;omega
   have hst:=zY (l:=l) hpre hm z;generalize hpp:sp++n.data.take k=pre at*
   have hall:∃x,((pre++l.drop (a+1+n.ptrs.length+k)).map vu)[a+1+n.ptrs.length+k]?=some (vu x):=by
    refine⟨l[a+1+n.ptrs.length+k],?_⟩;rw[Zhr,ZhH (by omega),hpre,Zjz,ZhZ hm];rfl
   have hset:((pre++l.drop (a+1+n.ptrs.length+k)).map vu).set (a+1+n.ptrs.length+k) (vu z)=(pre++[z]++l.drop (a+1+n.ptrs.length+k+1)).map vu:=by
    rw[<-Zk4,hst]
   rw[show a+1+n.ptrs.length+(k+1)=a+1+n.ptrs.length+k+1 by omega];have hw5:=hw4 k (by omega);obtain⟨m,hmn⟩:∃m:Nat,a+1+n.ptrs.length+k=m:=⟨_,rfl⟩;have hmi:(a:Int)+1+n.ptrs.length+k=m:=by omega
   have hwm:=Z4 (m:Int) (by omega) (by omega);rw[hmn]at hall hset⊢;generalize hLL:(pre++l.drop m).map vu=LL at hall hset⊢;rw[htk];obtain⟨y,hy⟩:=hall;simp[hkl,hq,Zt hq,hw1,hw3,hw5,hmi,hwm,hy,hset,hwk];rw[<-hpp];simp
  ·have:k=n.data.length:=by omega
   subst this;rw[show n.data.take n.data.length=n.data from ZhS];have hwith:=LH (h:=b.h) (n:=p.part) (l:=sp++n.data++l.drop (a+1+n.ptrs.length+n.data.length))
   have hlay:layL b p a n tw=sp++n.data++l.drop (a+1+n.ptrs.length+n.data.length):=by
    unfold layL;rw[hl0,hhd];dsimp only;rw[hsp,show a+sizN n=a+1+n.ptrs.length+n.data.length by unfold sizN;omega]
   rw[hlay];generalize sp++n.data++l.drop (a+1+n.ptrs.length+n.data.length)=fin at*;simp;refine Z0 hwith (by simp[hpV]) ?_;simp[btV]
end Vm
namespace Vm
open Go Go.Proofs
def wOk(h:Hp):Prop:=(∀k,∀w∈Zh h k,U64 w)/\∀w∈h.roots,U64 w
structure BOk (b:Bt):Prop where
 lay:(layH b.h).fits
 hl:b.here.length=b.g.nodes.length
 ol:b.old.length=b.g.nodes.length
 nn:b.g.nodes.length<=10
 ptr:∀n∈b.g.nodes,∀q∈n.ptrs,q< (b.g.nodes.length:Int)
 dat:∀n∈b.g.nodes,∀q∈n.data,U64 q
 rts:∀q∈b.g.roots,q< (b.g.nodes.length:Int)
 rl:b.g.roots.length<=5
 here:∀(i:Nat) (p:Pl) (n:Nd),b.here[i]?=some p->b.g.nodes[i]?=some n->p=⟨0,0⟩\/∃a:Nat,p.at_=a/\(p.part=1\/p.part=2)/\a+sizN n<=(Zh b.h p.part).length
 old:∀(i:Nat) (p:Pl) (n:Nd),b.old[i]?=some p->b.g.nodes[i]?=some n->p=⟨0,0⟩\/∃a:Nat,p.at_=a/\(p.part=3\/p.part=4)/\a+sizN n<=(Zh b.h p.part).length
 len:∀k,(Zh b.h k).length<=1000
 words:wOk b.h
theorem Sa{h h':Hp}(hl:layH h'=layH h)(k:Int):(Zh h' k).length=(Zh h k).length:=by
 grind [layH,Ly.mk.injEq,Zh]
def BOk.keep{b:Bt}(hb:BOk b){h':Hp}(hl:layH h'=layH b.h)(hw:wOk h'):BOk {b with h:=h'} where
 lay:=by show(layH h').fits;rw[hl];exact hb.lay
 hl:=hb.hl
 ol:=hb.ol
 nn:=hb.nn
 ptr:=hb.ptr
 dat:=hb.dat
 rts:=hb.rts
 rl:=hb.rl
 here:=λi p n hp hn=>by
  obtain h|⟨a,h1,h2,h3⟩:=hb.here i p n hp hn
  ·grind
  grind [Zh,Sa,hl]
 old:=λi p n hp hn=>by
  obtain h|⟨a,h1,h2,h3⟩:=hb.old i p n hp hn
  ·grind
  grind [Zh,Sa,hl]
 len:=λk=>by show(Zh h' k).length<=1000;rw[Sa hl];exact hb.len k
 words:=hw
def jO{h:Hp}{p:Int}{l:List Int}(hl:l.length=(Zh h p).length):layH (Xg h p l)=layH h:=by
 unfold Xg Zh at*;split
 ·simp_all[if_pos,layH]
 rename_i e1;rw[if_neg e1]at hl;split
 ·simp_all[if_pos,layH]
 rename_i e2;rw[if_neg e2]at hl;split
 ·simp_all[if_pos,layH]
 simp_all[if_neg,layH]
def Z1C{h:Hp}{p:Int}{l:List Int}(hh:wOk h)(hl:∀w∈l,U64 w):wOk (Xg h p l):=by
 have h1:=hh.1 1;have h2:=hh.1 2;have h3:=hh.1 3;have h4:=hh.1 4
 grind [Z9A,Z9B,Z9C,Z9D,U64,wOk,Zh,Xg]
def Z0I{b:Bt}{p:Pl}{a:Nat}{n:Nd}{tw:Int}(hf:a+sizN n<=(Zh b.h p.part).length):(layL b p a n tw).length=(Zh b.h p.part).length:=by
 grind [layL,sizN,Xj]
def Z3L{b:Bt}{p:Pl}{a:Nat}{n:Nd}{tw:Int}(hw:wOk b.h)(hn:∀q∈n.data,U64 q):∀w∈layL b p a n tw,U64 w:=by
 intro w hm;unfold layL at hm;simp only[Zhx,Zia]at hm;obtain(((hm|hm)|hm)|hm)|hm:=hm
 ·exact hw.1 _ w (Zhz hm)
 ·subst hm;have:=Z0Y ((n.ptrs.length:Int)+n.data.length) n.ptrs.length;exact⟨this.1,by omega⟩
 ·simp only[Xj,Zhq]at hm;obtain⟨i,_,rfl⟩:=hm
  grind [Z1t]
 ·grind
 ·exact hw.1 _ w (Zis hm)
def RZ(x:Rw)(b:Bt)(i:Nat)(n:Nd)(p:Pl):Bt:=if 0<p.part then layB b p n (IntKind.i64.wrap (x.slack+i))else b
def Q0(b:Bt)(n:Nd)(p o:Pl):Bt:=if 0<o.part/\p.part=0 then layB b o n 0 else b
def SI(b:Bt)(p o:Pl):Bt:=if 0<o.part/\0<p.part then {b with h:=Xg b.h o.part ((Zh b.h o.part).set o.at_.toNat (refB b.h p))}else b
def Z3v(x:Rw)(b:Bt)(i:Nat):Bt:=
 let n:=(b.g.nodes[i]?).getD default
 let p:=(b.here[i]?).getD ⟨0,0⟩
 let o:=(b.old[i]?).getD ⟨0,0⟩
 SI (Q0 (RZ x b i n p) n p o) p o
structure Like (b b':Bt):Prop where
 g:b'.g=b.g
 here:b'.here=b.here
 old:b'.old=b.old
 lay:layH b'.h=layH b.h
 words:wOk b'.h
 scan:b'.h.scan=b.h.scan
 cycle:b'.h.cycle=b.h.cycle
def Like.ok{b b':Bt}(hl:Like b b')(hb:BOk b):BOk b':=by
 obtain⟨h',g',here',old'⟩:=b';obtain⟨h1,h2,h3,h4,h5,_⟩:=hl;simp only at h1 h2 h3 h4 h5;subst h1 h2 h3;exact hb.keep h4 h5
def Like.trans{a b c:Bt}(h:Like a b)(k:Like b c):Like a c:=⟨k.g.trans h.g,k.here.trans h.here,k.old.trans h.old,k.lay.trans h.lay,k.words,k.scan.trans h.scan,k.cycle.trans h.cycle⟩
def LE(h:Hp)(p:Int)(l:List Int):(Xg h p l).scan=h.scan/\(Xg h p l).cycle=h.cycle:=by
 unfold Xg
 grind
def qD{b:Bt}(hb:BOk b){p:Int}{l:List Int}(hl:l.length=(Zh b.h p).length)(hw:∀w∈l,U64 w):Like b {b with h:=Xg b.h p l}:=
 ⟨rfl,rfl,rfl,jO hl,Z1C hb.words hw,(LE _ _ _).1,(LE _ _ _).2⟩
def TZ{b:Bt}(hb:BOk b):Like b b:=⟨rfl,rfl,rfl,rfl,hb.words,rfl,rfl⟩
def Z2e{b:Bt}(hb:BOk b){p:Pl}{n:Nd}{tw:Int}{a:Nat}(ha:p.at_=a)(hf:a+sizN n<=(Zh b.h p.part).length)(hn:∀q∈n.data,U64 q):Like b (layB b p n tw):=by
 unfold layB;rw[ha,ZhV];exact qD hb (Z0I hf) (Z3L hb.words hn)
def Z5U{x:Rw}{b:Bt}(hb:BOk b){i:Nat}{n:Nd}{p:Pl}(hn:b.g.nodes[i]?=some n)(hp:b.here[i]?=some p):Like b (RZ x b i n p):=by
 unfold RZ;split
 ·rename_i h0;obtain rfl|⟨a,h1,h2,h3⟩:=hb.here i p n hp hn
  ·simp at h0
  ·exact Z2e hb h1 h3 (hb.dat n (Zhg hn))
 ·exact TZ hb
def Z5V{b:Bt}(hb:BOk b){i:Nat}{n:Nd}{p o:Pl}(hn:b.g.nodes[i]?=some n)(ho:b.old[i]?=some o):Like b (Q0 b n p o):=by
 unfold Q0;split
 ·rename_i h0;obtain rfl|⟨a,h1,h2,h3⟩:=hb.old i o n ho hn
  ·simp at h0
  ·exact Z2e hb h1 h3 (hb.dat n (Zhg hn))
 ·exact TZ hb
def Zd7{b:Bt}(hb:BOk b){p o:Pl}:Like b (SI b p o):=by
 unfold SI;split
 ·refine qD hb (by simp) λw hw=> ?_;obtain h|rfl:=Zjc hw
  ·exact hb.words.1 _ w h
  ·exact R9 _ _
 ·exact TZ hb
def Zd8{x:Rw}{b:Bt}(hb:BOk b){i:Nat}(hi:i<b.g.nodes.length):Like b (Z3v x b i):=by
 have hn:b.g.nodes[i]?=some b.g.nodes[i]:=Zh8 hi;have hp:b.here[i]?=some (b.here[i]'(by rw[hb.hl];exact hi)):=Zh8 _;have ho:b.old[i]?=some (b.old[i]'(by rw[hb.ol];exact hi)):=Zh8 _;unfold Z3v;simp only[hn,hp,ho,ZhL];have h1:=Z5U (x:=x) hb hn hp;have h2:=Z5V (p:=b.here[i]'(by rw[hb.hl];exact hi)) (h1.ok hb) (by rw[h1.g];exact hn) (by rw[h1.old];exact ho);exact(h1.trans h2).trans (Zd7 (h2.ok (h1.ok hb)))
def SJ(x:Rw)(b:Bt):Nat->Bt
 |0=>b
 |i+1=>Z3v x (SJ x b i) i
def Z2d{x:Rw}{b:Bt}(hb:BOk b):∀i,i<=b.g.nodes.length->Like b (SJ x b i)
 |0,_=>TZ hb
 |i+1,hi=>by
  have h:=Z2d (x:=x) hb i (by omega);exact h.trans (Zd8 (h.ok hb) (by rw[h.g];omega))
def Tb(x:Rw)(b:Bt):Hp:=
 let b':=SJ x b b.g.nodes.length
 {b'.h with roots:=b.g.roots.map λr=>if 0<=r then refB b'.h ((b.here[r.toNat]?).getD ⟨0,0⟩)else 0}
def Z5d{x:Rw}(hx:x.ok){b:Bt}(hb:BOk b):VC Sol.prog 25 false [btV b,rwV x] (hpV (Tb x b)):=by
 refine Z5 Sol.func25 follows (by kernel_rfl) c25 rfl ?_;simp[p25,btC];refine Y2 5 b.g.nodes.length (λi=>[(2,.m (btC (SJ x b i))),(5,.v (vi i))]) (λ_=>True) (by simp[SJ,btC]) (λi=>by simp) trivial ?_;rintro i hi-;have hlk:=Z2d (x:=x) hb i hi;have hw:=Z4 ((i:Int)+1) (by have:=hb.nn;omega) (by have:=hb.nn;omega);by_cases h:i<b.g.nodes.length
 ·have hb':=hlk.ok hb;simp only[SJ];have hi':i< (SJ x b i).g.nodes.length:=by rw[hlk.g];exact h
  generalize hbb:SJ x b i=c at*;have hn:c.g.nodes[i]?=some c.g.nodes[i]:=Zh8 hi';have hp:c.here[i]?=some (c.here[i]'(by rw[hb'.hl];exact hi')):=Zh8 _;have ho:c.old[i]?=some (c.old[i]'(by rw[hb'.ol];exact hi')):=Zh8 _;unfold Z3v;simp only[hn,hp,ho,ZhL];generalize c.g.nodes[i]=n at*;generalize c.here[i]'(by rw[hb'.hl];exact hi')=p at*;generalize c.old[i]'(by rw[hb'.ol];exact hi')=o at*
  have hpn:∀q∈n.ptrs,q< (c.here.length:Int)/\q< (c.old.length:Int):=λq hq=>by
   have:=hb'.ptr n (Zhg hn) q hq;rw[hb'.hl,hb'.ol];exact⟨this,this⟩
  have kA:=Z5U (x:=x) hb' hn hp;have bA:=kA.ok hb';have kO:=Z5V (p:=p) bA (by rw[kA.g];exact hn) (by rw[kA.old];exact ho);have bO:=kO.ok bA;have hgl:c.g.nodes.length=b.g.nodes.length:=by rw[hlk.g]
  have hge:c.g=b.g:=hlk.g
  have hlay:0<p.part->VC Sol.prog 54 false [btV c,plV p,ndV n,vi (IntKind.i64.wrap (x.slack+i))] (btV (layB c p n (IntKind.i64.wrap (x.slack+i)))):=λh0=>by
   obtain rfl|⟨a,h1,h2,h3⟩:=hb'.here i p n hp hn
   ·simp at h0
   ·exact Z9u hb'.lay h1 (by have:=hb'.len p.part;omega) h3 hpn
  have hlayO:0<o.part->VC Sol.prog 54 false [btV c,plV o,ndV n,vi 0] (btV (layB c o n 0)):=λh0=>by
   obtain rfl|⟨a,h1,h2,h3⟩:=hb'.old i o n ho hn
   ·simp at h0
   ·exact Z9u hb'.lay h1 (by have:=hb'.len o.part;omega) h3 hpn
  have hpp:p.part=0\/0<p.part:=by
   obtain rfl|⟨a,h1,h2,h3⟩:=hb'.here i p n hp hn
   ·exact .inl rfl
   ·exact .inr (by omega)
  have hoo:o.part=0\/0<o.part:=by
   obtain rfl|⟨a,h1,h2,h3⟩:=hb'.old i o n ho hn
   ·exact .inl rfl
   ·exact .inr (by omega)
  obtain hp0|hp0:=hpp
  ·obtain ho0|ho0:=hoo
   ·simp[btC,h,hi',hgl,hn,hp,ho,Zt hn,Zt hp,Zt ho,RZ,Q0,SI,hp0,ho0,hw]
   ·have hne:¬0<p.part:=by omega
    have hlk2:Like c (layB c o n 0):=by
     have:=Z5V (p:=p) hb' hn ho;unfold Q0 at this;rwa[if_pos ⟨ho0,hp0⟩]at this
    have hlO:=hlayO ho0;simp[btC,h,hi',hgl,hn,hp,ho,Zt hn,Zt hp,Zt ho,RZ,Q0,SI,hp0,ho0,hw];generalize layB c o n 0=d at*;obtain⟨d1,d2,d3,d4,d5,_,_⟩:=hlk2;refine Z0 hlO (by simp[btV]) ?_;simp[btC,d1,d2,d3,hn,hp,ho,Zt hn,Zt hp,Zt ho,hp0,ho0,hw,h]
  ·have hne0:¬p.part=0:=by omega
   have hlk2:Like c (layB c p n (IntKind.i64.wrap (x.slack+i))):=by
    have:=Z5U (x:=x) hb' hn hp;unfold RZ at this;rwa[if_pos hp0]at this
   have hlA:=hlay hp0;have bd:=hlk2.ok hb';obtain ho0|ho0:=hoo
   ·simp[btC,h,hi',hgl,hn,hp,ho,Zt hn,Zt hp,Zt ho,RZ,Q0,SI,hp0,ho0,hne0,hw];generalize layB c p n (IntKind.i64.wrap (x.slack+i))=d at*;obtain⟨d1,d2,d3,d4,d5,_,_⟩:=hlk2;refine Z0 hlA (by simp[btV]) ?_;simp[btC,d1,d2,d3,hn,hp,ho,Zt hn,Zt hp,Zt ho,hp0,ho0,hne0,hw,h]
   ·simp[btC,h,hi',hgl,hn,hp,ho,Zt hn,Zt hp,Zt ho,RZ,Q0,SI,hp0,ho0,hne0,hw];generalize layB c p n (IntKind.i64.wrap (x.slack+i))=d at*;obtain⟨d1,d2,d3,d4,d5,_,_⟩:=hlk2;refine Z0 hlA (by simp[btV]) ?_;simp[btC,d1,d2,d3,hn,hp,ho,Zt hn,Zt hp,Zt ho,hp0,ho0,hne0,hw,h];obtain rfl|⟨a,h1,h2,h3⟩:=hb'.old i o n ho hn
    ·simp at ho0
    have hdl:=bd.len o.part;have hlim:(Zh d.h o.part).length<=lim:=by simp[lim];omega
    have hal:a< (Zh d.h o.part).length:=by
     have:=Sa d4 o.part;unfold sizN at h3;omega
    refine Z0 (Sx (h:=d.h) (n:=o.part)) (by simp[hpV]) ?_;simp[hlim,hp];refine Z0 (JH (b:=⟨d.h,c.g,c.here,c.old⟩) bd.lay (p:=p)) (by simp) ?_;simp[h1,hal,ho,Zt ho];have hwith:=LH (h:=d.h) (n:=o.part) (l:=(Zh d.h o.part).set a (refB d.h p));rw[Zk4]at hwith;refine Z0 hwith (by simp[hpV]) ?_;simp[hw,h,d1,d2,d3]
 ·have:i=b.g.nodes.length:=by omega
  subst this;have bd:=hlk.ok hb;unfold Tb;generalize SJ x b b.g.nodes.length=d at*;obtain⟨d1,d2,d3,d4,d5,_,_⟩:=hlk;simp[btC,d1,d2,d3];refine Y2 13 b.g.roots.length (λk=>[(12,.v (.sl ((b.g.roots.take k).map λr=>vu (if 0<=r then refB d.h ((b.here[r.toNat]?).getD ⟨0,0⟩)else 0)))),(13,.v (vi k))]) (λ_=>True) (by simp) (λi=>by simp) trivial ?_;rintro k hk-;have hrl:=hb.rl;have hwk:=Z4 ((k:Int)+1) (by omega) (by omega);by_cases hkl:k<b.g.roots.length
  ·have hr:b.g.roots[k]?=some b.g.roots[k]:=Zh8 hkl;have hrn:=hb.rts _ (Zhi hkl);generalize b.g.roots[k]=r at*;have htk:b.g.roots.take (k+1)=b.g.roots.take k++[r]:=by rw[ZhM,hr];rfl
   have hlim:min k b.g.roots.length+1<=lim:=by simp[lim];omega
   by_cases h0:0<=r
   ·obtain⟨q,rfl⟩:=Zhl h0;have hq:b.here[q]?=some (b.here[q]'(by rw[hb.hl];omega)):=Zh8 _;generalize b.here[q]'(by rw[hb.hl];omega)=p at*;simp[hkl,hr,Zt hr,hq,Zt hq];refine Z0 (JH (b:=⟨d.h,b.g,b.here,b.old⟩) bd.lay (p:=p)) (by simp) ?_;simp[hwk,hlim,hkl];rw[ZhM,Zhr,hr];simp[hq]
   ·simp[hkl,hr,Zt hr,h0,hwk,hlim,htk,hkl]
  ·have:k=b.g.roots.length:=by omega
   subst this;simp[hpV]
end Vm
namespace Vm
open Go Go.Proofs
def PIn(s:St8)(p:Pl)(sz:Nat):Prop:=p=⟨0,0⟩\/∃a:Nat,p.at_=a/\((p.part=1/\a+sz<=s.n1)\/(p.part=2/\a+sz<=s.n2))
def POl(s:St8)(p:Pl)(sz:Nat):Prop:=p=⟨0,0⟩\/∃a:Nat,p.at_=a/\((p.part=3/\a+sz<=s.n3)\/(p.part=4/\a+sz<=s.n4))
def Z7e{x:Rw}{cycle:Bool}{sz i:Nat}{s:St8}:s.n1<=(Yh x cycle sz i s).n1/\s.n2<=(Yh x cycle sz i s).n2/\s.n3<=(Yh x cycle sz i s).n3/\s.n4<=(Yh x cycle sz i s).n4:=by
 grind [Yh]
def PIn.mono{s t:St8}{p:Pl}{sz:Nat}(h:PIn s p sz)(h1:s.n1<=t.n1)(h2:s.n2<=t.n2):PIn t p sz:=by
 obtain h|⟨a,ha,⟨hp,h⟩|⟨hp,h⟩⟩:=h
 ·exact .inl h
 ·exact .inr ⟨a,ha,.inl ⟨hp,by omega⟩⟩
 ·exact .inr ⟨a,ha,.inr ⟨hp,by omega⟩⟩
def POl.mono{s t:St8}{p:Pl}{sz:Nat}(h:POl s p sz)(h1:s.n3<=t.n3)(h2:s.n4<=t.n4):POl t p sz:=by
 obtain h|⟨a,ha,⟨hp,h⟩|⟨hp,h⟩⟩:=h
 ·exact .inl h
 ·exact .inr ⟨a,ha,.inl ⟨hp,by omega⟩⟩
 ·exact .inr ⟨a,ha,.inr ⟨hp,by omega⟩⟩
def jD{x:Rw}{cycle:Bool}{g:Gr}(hg:∀n∈g.nodes,sizN n<=9):∀i,i<=g.nodes.length->∀(j:Nat) (n:Nd),g.nodes[j]?=some n->
  (∀p,(stN x cycle g i).here[j]?=some p->PIn (stN x cycle g i) p (sizN n))/\(∀p,(stN x cycle g i).old[j]?=some p->POl (stN x cycle g i) p (sizN n))
 |0,_,j,n,hn=>⟨λp hp=>by simp[stN]at hp,λp hp=>by simp[stN]at hp⟩
 |i+1,hi,j,n,hn=>by
  obtain⟨h1,h2⟩:=jD (x:=x) (cycle:=cycle) hg i (by omega) j n hn;obtain⟨_,_,l1,l2⟩:=Sr (x:=x) (cycle:=cycle) hg i (by omega);have hgi:g.nodes[i]?=some g.nodes[i]:=Zh8 (by omega);simp only[stN,hgi,ZhL];generalize stN x cycle g i=s at*;obtain⟨q1,q2,q3,q4⟩:=Z7e (x:=x) (cycle:=cycle) (sz:=sizN g.nodes[i]) (i:=i) (s:=s);have hjl:j<g.nodes.length:=(Zh9.1 hn).1;constructor
  ·intro p hp;by_cases hj:j<i
   ·have:s.here[j]?=some p:=by
     simp only[Yh]at hp;rwa[Zi0 (by omega)]at hp
    exact(h1 p this).mono q1 q2
   ·by_cases hji:j=i
    ·subst hji;rw[hgi]at hn;cases hn;simp only[Yh]at hp;rw[ZhH (by omega),l1,Zjz]at hp;simp only[ZiT,Zh6]at hp;subst hp;unfold PIn;obtain hk|hk|⟨hk,rfl⟩:=SD x j cycle
     ·grind [Yh]
     ·grind [Yh]
     simp_all
    grind [Yh,List.getElem?_eq_some_iff]
  ·intro p hp;by_cases hj:j<i
   ·have:s.old[j]?=some p:=by
     simp only[Yh]at hp;rwa[Zi0 (by omega)]at hp
    exact(h2 p this).mono q3 q4
   ·by_cases hji:j=i
    ·subst hji;rw[hgi]at hn;cases hn;simp only[Yh]at hp;rw[ZhH (by omega),l2,Zjz]at hp
     grind [List.getElem?_cons_zero,Option.some.injEq,POl,decide,clsK,clsF,Yh]
    grind [Yh,List.getElem?_eq_some_iff]
def ZaK(l:List Nd)(roots:List Int):∀n∈(mkG l roots).nodes,∀q∈n.ptrs,-1<=q/\q< ((mkG l roots).nodes.length:Int):=by
 intro n hn q hq;rw[S5];simp only[mkG,Zhq]at hn;obtain⟨y,_,rfl⟩:=hn;simp only[mkNd,Zhq]at hq;obtain⟨p,_,rfl⟩:=hq;exact ZdZ
def ZaL(l:List Nd)(roots:List Int):∀q∈(mkG l roots).roots,-1<=q/\q< ((mkG l roots).nodes.length:Int):=by
 intro q hq;rw[S5];simp only[mkG]at hq;split at hq
 ·grind
 ·simp only[Zhq]at hq;obtain⟨p,_,rfl⟩:=hq;exact ZdZ
def ZaJ(l:List Nd)(roots:List Int)(hl:∀n∈l,∀q∈n.data,U64 q):∀n∈(mkG l roots).nodes,∀q∈n.data,U64 q:=by
 intro n hn q hq;simp only[mkG,Zhq]at hn;obtain⟨y,hy,rfl⟩:=hn
 grind [mkNd,List.mem_of_mem_take]
def y5{x:Rw}(hx:x.ok)(cycle:Bool):BOk (WX x cycle)/\Fit (WX x cycle).h.scan/\Zl (layH (WX x cycle).h)=true:=by
 obtain⟨hb1,hb2,hb3⟩:=Lf x.nodes x.roots;have hb5:=S5 x.nodes x.roots;have hp:=ZaK x.nodes x.roots;have hr:=ZaL x.nodes x.roots;have hd:=ZaJ x.nodes x.roots hx.data;unfold WX;generalize mkG x.nodes x.roots=g at*;have hsz:∀n∈g.nodes,sizN n<=9:=λn hn=>by grind [sizN]
 obtain⟨s1,s2,s3,s4⟩:=Sr (x:=x) (cycle:=cycle) hsz g.nodes.length (Zhe _);have hpl:=jD (x:=x) (cycle:=cycle) hsz g.nodes.length (Zhe _);dsimp only;generalize stN x cycle g g.nodes.length=s at*;have hsl:=W8 (c:=x.slack) (n:=12) (by omega);have hto:=W8 (c:=x.to) (n:=2) (by omega);obtain⟨cap,hcap⟩:∃cap:Int,max ((s.n1:Int)+s.n2+s.wt) ((s.n3:Int)+s.n4)+pick x.slack 12=cap:=⟨_,rfl⟩;rw[hcap];have hc0:0<=cap/\cap<=200:=by omega
 have h1:=ZkX x.base (show(9223372036854775808-2*cap)≠0 by omega);have h2:=Zku x.base (show 0< (9223372036854775808-2*cap)by omega);generalize x.base% (9223372036854775808-2*cap)=base at*
 have hscan:Fit (if cycle=true/\0<s.n1 then pick x.scan s.n1 else s.n1):=by
  split
  ·rename_i h;have:=W8 (c:=x.scan) (n:=s.n1) (by omega);exact⟨by omega,by omega⟩
  ·exact⟨by omega,by omega⟩
 refine⟨⟨?_,?_,?_,?_,?_,?_,?_,?_,?_,?_,?_,?_⟩,hscan,?_⟩
 ·refine⟨⟨?_,?_⟩,⟨?_,?_⟩,⟨?_,?_⟩,⟨?_,?_⟩,⟨?_,?_⟩,⟨?_,?_⟩,⟨?_,?_⟩⟩<;>simp[layH]<;>omega
 ·exact s3
 ·exact s4
 ·simp_all
 ·grind
 ·exact hd
 ·simp_all
 ·exact hb2
 ·intro i p n hpi hni;rcases(hpl i n hni).1 p hpi with h|⟨a,ha,⟨hpp,h⟩|⟨hpp,h⟩⟩
  ·grind
  ·exact .inr ⟨a,ha,.inl hpp,by simp_all⟩
  ·exact .inr ⟨a,ha,.inr hpp,by simp_all⟩
 ·intro i p n hpi hni;rcases(hpl i n hni).2 p hpi with h|⟨a,ha,⟨hpp,h⟩|⟨hpp,h⟩⟩
  ·grind
  ·exact .inr ⟨a,ha,.inl hpp,by simp_all⟩
  ·exact .inr ⟨a,ha,.inr hpp,by simp_all⟩
 ·grind [Zh]
 ·refine⟨λk=> ?_,by simp⟩
  grind [List.replicate,U64,Zh]
 ·refine Yr.2 ?_;simp only[layH,ZkZ];omega
def Z7i(x:Rw):Hp:=Tb x (WX x false)
def qg(x:Rw):Hp:=if(WX x true).h.low.length=0 then Z7i x else Tb x (WX x true)
def Z7F{x:Rw}(hx:x.ok):VC Sol.prog 24 false [rwV x] (hpV (Z7i x)):=by
 refine Z5 Sol.func24 follows (by kernel_rfl) c24 rfl ?_;simp[p24];refine Z0 (Z2N hx (cycle:=false)) (by simp[rwV]) ?_;simp;refine Z0 (Z5d hx (y5 hx false).1) (by simp) ?_;simp;rfl
def Z9W{x:Rw}(hx:x.ok):VC Sol.prog 8 false [rwV x] (hpV (qg x)):=by
 refine Z5 Sol.func8 follows (by kernel_rfl) c8 rfl ?_;simp[p8];refine Z0 (Z2N hx (cycle:=true)) (by simp[rwV]) ?_;unfold qg;by_cases h0:(WX x true).h.low.length=0
 ·simp[btC,h0];refine Z0 (Z7F hx) (by simp) ?_;simp;rfl
 ·simp[btC,h0];refine Z0 (Z5d hx (y5 hx true).1) (by simp) ?_;simp;rfl
def Z7X{x:Rw}{b:Bt}(hb:BOk b)(hs:Fit b.h.scan):(Tb x b).ok/\layH (Tb x b)=layH b.h/\(Tb x b).scan=b.h.scan/\(Tb x b).cycle=b.h.cycle:=by
 have hl:=Z2d (x:=x) hb b.g.nodes.length (Zhe _);have bd:=hl.ok hb;unfold Tb;generalize SJ x b b.g.nodes.length=d at*;obtain⟨h1,h2,h3,h4,h5,h6,h7,h8,h9,h10,h11,h12⟩:=bd;have l1:=h11 1;have l2:=h11 2;have l3:=h11 3;have l4:=h11 4;have w1:=h12.1 1;have w2:=h12.1 2;have w3:=h12.1 3;have w4:=h12.1 4;simp only[Z9A,Z9B,Z9C,Z9D]at l1 l2 l3 l4 w1 w2 w3 w4;have hrl:=hb.rl;refine⟨⟨h1.1,h1.2.1,h1.2.2.1,by rw[hl.scan];exact hs,?_,?_,?_,?_,?_,w1,w2,w3,w4,?_⟩,hl.lay,hl.scan,hl.cycle⟩
 ·grind
 ·grind
 ·grind
 ·grind
 ·simp;omega
 ·intro w hw;simp only[Zhq]at hw;obtain⟨r,_,rfl⟩:=hw;split
  ·exact R9 _ _
  ·exact⟨by omega,by omega⟩
end Vm
end
section
namespace Vm
open Go
open Go.Proofs
def p61:Fn:=⟨18,[0,1,2,3,4,5,6,7,33,8,9,10,11,12,13,14,15,77],
pQ [pR [(1,pS 0 10),pV 2 pN,pV 3 pF],pC [pK 18 88 [.m 1 5]] [pV 4 (.ext (.s 18) 0),pV 5 (.ext (.s 18) 1)],pC [pK 19 88 [.m 1 6]] [pV 6 (.ext (.s 19) 0),pV 7 (.ext (.s 19) 1)],pQ [.reg ⟨[.lt 20 [] (.bin .neq (.s 5) (pI 0))],[([(20,false)],.bin .neq (.s 7) (pI 0))],[pV 8 (.ite (.s 20) pT (.bin .neq (.s 7) (pI 0)))]⟩] (.cond (.s 8) (pQ [pR [pV 3 pF]] .ret) .skip),pC [pK 21 89 [.mm 1 0 10,.m 1 7,.s 4]] [pV 9 (.ext (.s 21) 0),pV 10 (.ext (.s 21) 1)],pC [pK 22 89 [.mm 1 0 10,.m 1 8,.s 4]] [pV 11 (.ext (.s 22) 0),pV 12 (.ext (.s 22) 1)],pC [pK 23 90 [.m 1 7,.s 9]] [pV 13 (.ext (.s 23) 0),pV 14 (.ext (.s 23) 1)],pC [pK 24 90 [.m 1 8,.s 11]] [pV 15 (.ext (.s 24) 0),pV 16 (.ext (.s 24) 1)],pQ [.reg ⟨[.lt 25 [] (.un .not (.s 10)),.lt 26 [] (.ite (.s 25) pT (.un .not (.s 12))),.lt 27 [] (.ite (.s 26) pT (.bin .neq (.s 14) (pI 0)))],[([(25,false)],.un .not (.s 12)),([(26,false)],.bin .neq (.s 14) (pI 0)),([(27,false)],.bin .neq (.s 16) (pI 0))],[pV 17 (.ite (.s 27) pT (.bin .neq (.s 16) (pI 0)))]⟩] (.cond (.s 17) (pQ [pR [pV 3 pF]] .ret) .skip),pR [pV 2 (.lit [pN,.one (.s 4),.one (.s 6),.one (.s 13),.one (.s 15)]),pV 3 pT]] .ret,[(2,.v),(3,.v)]⟩
def c61:Za Sol.prog fresh sig [.fz] [] Tryz.f61=some p61:=by kernel_rfl
def p63:Fn:=⟨7,[0,1,2,3,6,7,8],
pQ [pR [(3,pS 0 10),pV 4 (pU 0)],pC [pK 7 41 [.mm 3 0 10],pK 8 40 [.s 7,.ag [.one (.s 1),.one (.s 2)]]] [pV 5 (.ext (.s 8) 0),pV 6 (.ext (.s 8) 1)],pR [pV 4 (.s 5)]] .ret,[(4,.v)]⟩
def c63:Za Sol.prog fresh sig [.fz,.fz,.fz] [] Tryz.f63=some p63:=by kernel_rfl
def p88:Fn:=⟨3,[0,2,3],
pQ [pR [pV 1 pN,pV 2 (pI 0)],pC [pK 3 106 [.s 0,pN,pF]] [pV 1 (.ext (.s 3) 0),pV 2 (.ext (.s 3) 1)]] .ret,[(1,.v),(2,.v)]⟩
def c88:Za Sol.prog fresh sig [.fz] [] Tryz.f88=some p88:=by kernel_rfl
def p89:Fn:=⟨18,[0,1,2,3,6,7,8,9,19,10,11,12,13,37,14,15,46,54],
pQ [pR [(3,pS 0 10),pV 4 pN,pV 5 pF],pR [pV 6 pN],pQ [pR [pV 7 (pI 0)]] (.block 0 (.loop [0,1,2,3,4,5,6,7] (pQ [pQ [pR [pV 8 (.bin .lss (.s 7) (.len (.s 1)))]] (.cond (.s 8) .skip (.exit 0))] (.block 1 (pQ [pC [pK 18 107 [.fld (.idx (.s 1) (.s 7) 1) 0]] [(9,pM (.sz (.ext (.s 18) 0) 2) 2),pV 10 (.ext (.s 18) 1)],pC [pK 19 68 [.fld (.idx (.s 1) (.s 7) 1) 0]] [pV 11 (.ext (.s 19) 0),pV 12 (.ext (.s 19) 1)],pQ [pR [pV 13 (.bin .eql (.s 12) (pI 0))]] (.cond (.s 13) (pQ [pC [pK 20 91 [.mm 3 0 10,pI 1,.s 2,.s 11]] [(14,pM (.sz (.ext (.s 20) 0) 5) 5),pV 15 (.ext (.s 20) 1)],pQ [pR [pV 16 (.un .not (.s 15))]] (.cond (.s 16) (pQ [pR [pV 5 pF]] .ret) .skip),pR [(9,pM (.mm 14 1 2) 2)],pR [pV 10 (pI 0)]] (pR [pV 6 (.app (.s 6) (.lit [.mm 9 0 2]) 2)])) .skip),pQ [pR [pV 17 (.bin .neq (.s 10) (pI 0))]] (.cond (.s 17) (pQ [pR [pV 5 pF]] .ret) .skip)] (pR [pV 7 (.bin .add (.bin .add (.s 7) (pI 1)) (.m 9 0))])))))),pR [pV 4 (.s 6),pV 5 pT,(6,.no)]] .ret,[(4,.v),(5,.v)]⟩
def c89:Za Sol.prog fresh sig [.fz,.fz,.fz] [] Tryz.f89=some p89:=by kernel_rfl
def p90:Fn:=⟨4,[0,1,4,5],
pQ [pR [pV 2 pN,pV 3 (pI 0)],pC [pK 4 106 [.s 0,.s 1,pT]] [pV 2 (.ext (.s 4) 0),pV 3 (.ext (.s 4) 1)]] .ret,[(2,.v),(3,.v)]⟩
def c90:Za Sol.prog fresh sig [.fz,.fz] [] Tryz.f90=some p90:=by kernel_rfl
def p91:Fn:=⟨10,[0,1,2,3,4,8,9,10,14,26],
pQ [pR [(4,pS 0 10),(5,.m [pI 0,pI 0,pI 0,pF,pU 0]),pV 6 pF],pQ [pR [pV 7 (pI 0)]] (.block 0 (.loop [0,1,2,3,4,5,6,7] (pQ [pQ [pR [pV 8 (.bin .lss (.s 7) (.len (.s 2)))]] (.cond (.s 8) .skip (.exit 0)),.block 1 (pQ [pC [pK 10 63 [.mm 4 0 10,.s 1,.fld (.idx (.s 2) (.s 7) 5) 0]] [pV 9 (.bin .eql (.s 10) (.s 3))]] (.cond (.s 9) (pQ [pR [(5,pM (.flds (.idx (.s 2) (.s 7) 5) 0 5) 5),pV 6 pT]] .ret) .skip))] (pR [pV 7 (.bin .add (.s 7) (pI 1))])))),pR [(5,pM (.ag [pI 0,pI 0,pI 0,pF,pU 0]) 5),pV 6 pF]] .ret,[(5,(.ag 5)),(6,.v)]⟩
def c91:Za Sol.prog fresh sig [.fz,.fz,.fz,.fz] [] Tryz.f91=some p91:=by kernel_rfl
def p106:Fn:=⟨21,[0,1,2,6,7,8,9,10,20,11,12,13,35,47,14,15,67,79,16,93,108],
pQ [pR [pV 3 pN,pV 4 (pI 0)],pR [pV 5 pN],pR [pV 6 (pI 0)],pQ [pR [pV 7 (pI 0)]] (.block 0 (.loop [0,1,2,3,4,5,6,7] (pQ [pQ [pR [pV 8 (.bin .lss (.s 7) (.len (.s 0)))]] (.cond (.s 8) .skip (.exit 0))] (.block 1 (pQ [pR [(9,pM (.ag [.one (.s 7),pI 0,pI 0,pF,pU 0]) 5)],pC [pK 21 68 [.fld (.idx (.s 0) (.s 7) 1) 0]] [pV 10 (.ext (.s 21) 0),pV 11 (.ext (.s 21) 1)],pQ [.reg ⟨[.lt 22 [] (.s 2)],[([(22,true)],.bin .eql (.s 11) (pI 0))],[pV 12 (.ite (.s 22) (.bin .eql (.s 11) (pI 0)) pF)]⟩] (.cond (.s 12) (pQ [pQ [.reg ⟨[.lt 23 [] (.bin .eql (.s 6) (.len (.s 1))),.call 24 [(23,false)] (.id 104) false false [.flds (.idx (.s 1) (.s 6) 2) 0 2]],[([(23,false)],.un .not (.s 24))],[pV 13 (.ite (.s 23) pT (.un .not (.s 24)))]⟩] (.cond (.s 13) (pQ [pR [pV 4 (pI 3)]] .ret) .skip),pR [(9,.m [.m 9 0,.m 9 1,.m 9 2,pT,.m 9 4])],pR [(9,.m [.m 9 0,.m 9 1,.m 9 2,.m 9 3,.one (.s 10)])],pR [(9,.m [.m 9 0,.fld (.flds (.idx (.s 1) (.s 6) 2) 0 2) 0,.fld (.flds (.idx (.s 1) (.s 6) 2) 0 2) 1,.m 9 3,.m 9 4])]] (pR [pV 6 (.bin .add (.s 6) (pI 1))])) (pQ [pC [pK 25 107 [.fld (.idx (.s 0) (.s 7) 1) 0]] [(14,pM (.sz (.ext (.s 25) 0) 2) 2),pV 15 (.ext (.s 25) 1)],pQ [pR [pV 16 (.bin .neq (.s 15) (pI 0))]] (.cond (.s 16) (pQ [pR [pV 4 (.s 15)]] .ret) .skip)] (pR [(9,.m [.m 9 0,.fld (.mm 14 0 2) 0,.fld (.mm 14 0 2) 1,.m 9 3,.m 9 4])]))),pQ [pR [pV 17 (.bin .gtr (.bin .add (.bin .add (.s 7) (pI 1)) (.m 9 1)) (.len (.s 0)))]] (.cond (.s 17) (pQ [pR [pV 4 (pI 2)]] .ret) .skip),pC [pK 26 119 [.slc (.s 0) (.bin .add (.s 7) (pI 1)) (.bin .add (.bin .add (.s 7) (pI 1)) (.m 9 1)) 1,.mm 9 0 5]] [pV 18 (.s 26)],pQ [pR [pV 19 (.bin .neq (.s 18) (pI 0))]] (.cond (.s 19) (pQ [pR [pV 4 (.s 18)]] .ret) .skip),pR [pV 5 (.app (.s 5) (.lit [.mm 9 0 5]) 5)]] (pR [pV 7 (.bin .add (.bin .add (.s 7) (pI 1)) (.m 9 1))])))))),pQ [pR [pV 20 (.bin .lss (.s 6) (.len (.s 1)))]] (.cond (.s 20) (pQ [pR [pV 4 (pI 3)]] .ret) .skip),pR [pV 3 (.s 5),pV 4 (pI 0),(5,.no)]] .ret,[(3,.v),(4,.v)]⟩
def c106:Za Sol.prog fresh sig [.fz,.fz,.fz] [] Tryz.f106=some p106:=by kernel_rfl
def p119:Fn:=⟨8,[0,1,3,4,5,9,20,33],
pQ [pR [(2,pS 1 5),pV 3 (pI 0)],pQ [pR [pV 4 (pI 0)]] (.block 0 (.loop [0,1,2,3,4] (pQ [pQ [pR [pV 5 (.bin .lss (.s 4) (.len (.s 0)))]] (.cond (.s 5) .skip (.exit 0)),.block 1 (pQ [pQ [.reg ⟨[.lt 8 [] (.m 2 3)],[([(8,true)],.bin .neq (.fld (.idx (.s 0) (.s 4) 1) 0) (pU 0))],[pV 6 (.ite (.s 8) (.bin .neq (.fld (.idx (.s 0) (.s 4) 1) 0) (pU 0)) pF)]⟩] (.cond (.s 6) (pQ [pR [pV 3 (pI 3)]] .ret) .skip),.reg ⟨[.lt 9 [] (.bin .lss (.s 4) (.m 2 2)),.call 10 [(9,true)] (.id 122) false false [.fld (.idx (.s 0) (.s 4) 1) 0]],[([(9,true)],.un .not (.s 10))],[pV 7 (.ite (.s 9) (.un .not (.s 10)) pF)]⟩] (.cond (.s 7) (pQ [pR [pV 3 (pI 3)]] .ret) .skip))] (pR [pV 4 (.bin .add (.s 4) (pI 1))])))),pR [pV 3 (pI 0)]] .ret,[(3,.v)]⟩
def c119:Za Sol.prog fresh sig [.fz,.fz] [] Tryz.f119=some p119:=by kernel_rfl
def p122:Fn:=⟨4,[0,2,3,4],
pQ [pR [pV 1 pF],pC [pK 4 68 [.s 0]] [pV 2 (.ext (.s 4) 0),pV 3 (.ext (.s 4) 1)],.reg ⟨[.lt 5 [] (.bin .eql (.s 0) (pU 0))],[([(5,false)],.bin .eql (.s 3) (pI 0))],[pV 1 (.ite (.s 5) pT (.bin .eql (.s 3) (pI 0)))]⟩] .ret,[(1,.v)]⟩
def c122:Za Sol.prog fresh sig [.fz] [] Tryz.f122=some p122:=by kernel_rfl
end Vm
end
section
namespace Vm
open Go Go.Proofs
structure Ob where
 at_:Int
 size:Int
 ptrs:Int
 gone:Bool
 target:Int
 deriving DecidableEq,Inhabited
def obV(o:Ob):V:=.agg [vi o.at_,vi o.size,vi o.ptrs,.bool o.gone,vu o.target]
@[simp]def Zg5(o:Ob):szV (obV o) 5=some (obV o):=rfl
@[simp]def ZcU(o:Ob):Q1 (obV o) 0 5=some (obV o):=rfl
@[simp]def Zdo(o:Ob):(obV o).cells=[vi o.at_,vi o.size,vi o.ptrs,.bool o.gone,vu o.target]:=rfl
@[simp]def Zcw(o:Ob):fldV (obV o) 0=some (vi o.at_):=rfl
@[simp]def Zcx(o:Ob):fldV (obV o) 1=some (vi o.size):=rfl
@[simp]def Zcy(o:Ob):fldV (obV o) 2=some (vi o.ptrs):=rfl
@[simp]def Zcz(o:Ob):fldV (obV o) 3=some (.bool o.gone):=rfl
@[simp]def ZcA(o:Ob):fldV (obV o) 4=some (vu o.target):=rfl
@[simp]def Zaj(o:Ob):Q1 (obV o) 1 2=some (shV o.size o.ptrs):=rfl
def shP(s:Int×Int):V:=shV s.1 s.2
@[simp]def Ze2(s:Int×Int):(shP s).cells=[vi s.1,vi s.2]:=rfl
@[simp]def Zg9(s:Int×Int):szV (shP s) 2=some (shP s):=rfl
@[simp]def ZcW(s:Int×Int):Q1 (shP s) 0 2=some (shP s):=rfl
@[simp]def ZcN(s:Int×Int):fldV (shP s) 0=some (vi s.1):=rfl
@[simp]def ZcO(s:Int×Int):fldV (shP s) 1=some (vi s.2):=rfl
def Jg(w:Int):Bool:=decide (w=0)||decide ((adr w).2=0)
def zT{w:Int}(hw:U64 w):VC Sol.prog 122 false [vu w] (.bool (Jg w)):=by
 refine Z5 Sol.func122 follows (by kernel_rfl) c122 rfl ?_;simp[p122];refine Z0 (U9 hw) (by simp) ?_;by_cases h:w=0<;>simp[Jg,h]
def ZN(l:List Int)(gone:Bool)(ptrs:Int)(i:Nat):Bool:=
 match l with
 | []=>true
 |w::l=>(!gone||decide (w=0))&&(!decide ((i:Int)<ptrs)||Jg w)&&ZN l gone ptrs (i+1)
def RU{l:List Int}{gone:Bool}{ptrs:Int}{i:Nat}{w:Int}(h:l[i]?=some w):ZN (l.drop i) gone ptrs i=((!gone||decide (w=0))&&(!decide ((i:Int)<ptrs)||Jg w)&&ZN (l.drop (i+1)) gone ptrs (i+1)):=by
 obtain⟨h1,h2⟩:=Zh9.1 h;rw[ZhZ h1,h2];rfl
def JI{l:List Int}{o:Ob}(hl:l.length<=1000000)(hw:∀w∈l,U64 w):VC Sol.prog 119 false [.sl (l.map vu),obV o] (vi (if ZN l o.gone o.ptrs 0 then 0 else 3)):=by
 refine Z5 Sol.func119 follows (by kernel_rfl) c119 rfl ?_;simp[p119];refine Xe 4 l.length (λi=>ZN l o.gone o.ptrs 0=ZN (l.drop i) o.gone o.ptrs i) (by simp) (by simp) (by simp) ?_;intro i hi hinv;have hwi:=Z4 ((i:Int)+1) (by omega) (by omega);by_cases h:i<l.length
 ·have hx:l[i]?=some l[i]:=Zh8 h;have hu:=hw _ (Zhi h);rw[RU hx]at hinv;generalize l[i]=w at*;rw[hinv];by_cases g1:o.gone=true/\w≠0
  ·simp[h,hx,Zt hx,g1.1,g1.2]
  ·have g1':(!o.gone||decide (w=0))=true:=by
    cases hg:o.gone
    ·rfl
    ·simp[hg]at g1;simp[g1]
   have hp:=zT hu;by_cases g2:(i:Int)<o.ptrs
   ·cases hg:o.gone
    ·cases hip:Jg w
     all_goals
      rw[hip]at hp;simp[h,hx,Zt hx,hg,g2];refine Z0 hp (by simp) ?_;simp[hwi,hg,h]
    ·rw[hg]at g1';simp at g1';subst g1';have hp0:Jg 0=true:=rfl;rw[hp0]at hp;simp[h,hx,Zt hx,hg,g2];refine Z0 hp (by simp) ?_;simp[hwi,hg,h,hp0]
   ·cases hg:o.gone
    all_goals
     rw[hg]at g1';simp at g1';simp[h,hx,Zt hx,hg,g1',g2,hwi]
 ·have:i=l.length:=by omega
  subst this;rw[hinv];simp[ZN]
def objR(shs:List (Int×Int))(old:Bool)(at_ tk:Nat)(w:Int):Option (Ob×Nat):=
 if old=true/\(adr w).2=0 then
  match shs[tk]? with
  |none=>none
  |some s=>if Zm s.1 s.2 then some (⟨at_,s.1,s.2,true,(adr w).1⟩,tk+1)else none
 else if(unpk w).2.2=0 then some (⟨at_,(unpk w).1,(unpk w).2.1,false,0⟩,tk)else none
def yc{w:Int}(h:(unpk w).2.2=0):Zm (unpk w).1 (unpk w).2.1=true:=by
 unfold unpk at*;split
 ·rename_i h1;exact h1.2
 ·rename_i h1;rw[if_neg h1]at h;simp at h
def Us{shs:List (Int×Int)}{old:Bool}{at_ tk:Nat}{w:Int}{o:Ob}{t:Nat}(h:objR shs old at_ tk w=some (o,t)):Zm o.size o.ptrs=true/\o.at_=at_:=by
 unfold objR at h;split at h
 ·split at h
  ·cases h
  ·split at h
   ·rename_i s _ hs;cases h;exact⟨hs,rfl⟩
   ·cases h
 ·split at h
  ·rename_i h1;cases h;exact⟨yc h1,rfl⟩
  ·cases h
def YQ(ws:List Int)(shs:List (Int×Int))(old:Bool):Nat->Nat->Nat->List Ob->List Ob×Int
 |0,_,_,_=>([],3)
 |f+1,at_,tk,acc=>
  match ws[at_]? with
  |none=>if tk<shs.length then([],3)else(acc,0)
  |some w=>match objR shs old at_ tk w with
   |none=>([],3)
   |some (o,t)=>
    if(ws.length:Int)<at_+1+o.size then([],2)
    else if ZN ((ws.drop (at_+1)).take o.size.toNat) o.gone o.ptrs 0=false then([],3)
    else YQ ws shs old f (at_+1+o.size.toNat) t (acc++[o])
def Zp(ws:List Int)(shs:List (Int×Int))(old:Bool):List Ob×Int:=YQ ws shs old (ws.length+1) 0 0 []
def Ls{ws:List Int}{shs:List (Int×Int)}{old:Bool}(hl:ws.length<=1000000)(hs:shs.length<=1000000)(hw:∀w∈ws,U64 w):
  VC Sol.prog 106 false [.sl (ws.map vu),.sl (shs.map shP),.bool old] (.tup [.sl ((Zp ws shs old).1.map obV),vi (Zp ws shs old).2]):=by
 refine Z5 Sol.func106 follows (by kernel_rfl) c106 rfl ?_;simp[p106]
 refine ZO (λ(p:Nat×Nat×List Ob)=>[(5,.v (.sl (p.2.2.map obV))),(6,.v (vi p.2.1)),(7,.v (vi p.1))])
  (λp=>p.1<=ws.length/\p.2.1<=shs.length/\p.2.2.length<=p.1/\∃f,ws.length<f+p.1/\Zp ws shs old=YQ ws shs old f p.1 p.2.1 p.2.2)
  (cnt 7 ws.length) (0,0,[]) (by simp) ⟨by simp,by simp,by simp,ws.length+1,by simp,rfl⟩ ?_
 rintro⟨at_,tk,acc⟩ ⟨ha,ht,hacc,f,hf,hR⟩;simp only at ha ht hacc hf hR;cases f with
 |zero=>omega
 |succ f=>
 have hw1:=Z4 ((at_:Int)+1) (by omega) (by omega);by_cases h:at_<ws.length
 ·have hx:ws[at_]?=some ws[at_]:=Zh8 h;have hu:=hw _ (Zhi h);generalize ws[at_]=w at*;simp only[YQ,hx]at hR;have hadr:=U9 hu;have hunp:=Lq hu;simp[h,hx,Zt hx];refine Z0 hadr (by simp) ?_;unfold objR at hR;by_cases hA:old=true/\(adr w).2=0
  ·rw[if_pos hA]at hR;obtain⟨hA1,hA2⟩:=hA;subst hA1;simp[hA2];by_cases htk:tk<shs.length
   ·have hs0:shs[tk]?=some shs[tk]:=Zh8 htk;generalize shs[tk]=s at*;have htn:¬((tk:Int)=(shs.length:Int)):=by omega
    simp only[hs0]at hR;have hr5:=RQ (s:=s.1) (p:=s.2);simp[htn,hs0];refine Z0 hr5 (by simp[shP]) ?_;cases hshape:Zm s.1 s.2
    ·rw[hshape]at hR;simp at hR;rw[hR];simp
    ·rw[hshape]at hR;simp at hR;have hwt:=Z4 ((tk:Int)+1) (by omega) (by omega);have hsh:=Zb.1 hshape;obtain⟨z,hz⟩:=Zhl hsh.1;have hz2:=hsh.2.1;have w2:=Z4 ((at_:Int)+1+z) (by omega) (by omega);obtain⟨m1,hm1⟩:∃m:Nat,at_+1=m:=⟨_,rfl⟩;obtain⟨m2,hm2⟩:∃m:Nat,at_+1+z=m:=⟨_,rfl⟩;have hi1:(at_:Int)+1=m1:=by omega
     have hi2:(m1:Int)+z=m2:=by omega
     rw[hi1]at hw1;rw[hi1,hi2]at w2;rw[hi1,hz,hi2,ZhV,hm1,show m1+z=m2 by omega]at hR;by_cases hbig:(ws.length:Int)<m2
     ·rw[if_pos hbig]at hR;rw[hR];simp[hs0,hz,hi1,hw1,hi2,w2,hbig]
     ·rw[if_neg hbig]at hR
      have hsl:((ws.map vu).take m2).drop m1=((ws.drop m1).take z).map vu:=by
       rw[<-Zjb,<-ZjU,Zk2,show m2-m1=z by omega]
      have hslots:=JI (l:=(ws.drop m1).take z) (o:=⟨at_,z,s.2,true,(adr w).1⟩) (by simp;omega) (λq hq=>hw q (Zis (Zhz hq)));have hle:m1<=m2:=by omega
      have hle2:m2<=ws.length:=by omega
      have hso:YN 1 (ws.map vu)=true:=Uh _;have hlim:acc.length+1<=lim:=by simp[lim];omega
      simp[hs0,hz,hi1,hw1,hi2,w2,hbig,hle,hle2,hso,hsl];rw[<-ZjU,<-Zjb];refine Z0 hslots (by simp) ?_;cases hok:ZN ((ws.drop m1).take z) true s.2 0
      ·rw[hok]at hR;simp at hR;rw[hR];simp
      ·rw[hok]at hR;simp at hR;simp[hwt,hlim,hi1,hw1,hi2,w2,hz];exact⟨m2,tk+1,acc++[⟨at_,z,s.2,true,(adr w).1⟩],⟨by omega,by omega,by simp;omega,f,by omega,hR⟩,by simp[obV],by simp[cnt];omega⟩
   ·have htn:tk=shs.length:=by omega
    have hs0:shs[tk]?=none:=Zih (by omega);simp only[hs0]at hR;rw[hR];simp[htn]
  ·rw[if_neg hA]at hR;by_cases hun:(unpk w).2.2=0
   ·rw[if_pos hun]at hR;have hshape:=yc hun;simp only at hR;by_cases g1:old=true
    case' pos=>
     have g2:¬(adr w).2=0:=λg2=>hA ⟨g1,g2⟩;subst g1;simp[g2,hx]
    case' neg=>
     have g1':old=false:=by simpa using g1
     subst g1';simp[hx]
    all_goals
     refine Z0 hunp (by simp) ?_;have hsh:=Zb.1 hshape;obtain⟨z,hz⟩:=Zhl hsh.1;have hz2:=hsh.2.1;have w2:=Z4 ((at_:Int)+1+z) (by omega) (by omega);obtain⟨m1,hm1⟩:∃m:Nat,at_+1=m:=⟨_,rfl⟩;obtain⟨m2,hm2⟩:∃m:Nat,at_+1+z=m:=⟨_,rfl⟩;have hi1:(at_:Int)+1=m1:=by omega
     have hi2:(m1:Int)+z=m2:=by omega
     rw[hi1]at hw1;rw[hi1,hi2]at w2;rw[hi1,hz,hi2,ZhV,hm1,show m1+z=m2 by omega]at hR;by_cases hbig:(ws.length:Int)<m2
     ·rw[if_pos hbig]at hR;rw[hR];simp[hun,hz,hi1,hw1,hi2,w2,hbig]
     ·rw[if_neg hbig]at hR
      have hsl:((ws.map vu).take m2).drop m1=((ws.drop m1).take z).map vu:=by
       rw[<-Zjb,<-ZjU,Zk2,show m2-m1=z by omega]
      have hslots:=JI (l:=(ws.drop m1).take z) (o:=⟨at_,z,(unpk w).2.1,false,0⟩) (by simp;omega) (λq hq=>hw q (Zis (Zhz hq)));have hle:m1<=m2:=by omega
      have hle2:m2<=ws.length:=by omega
      have hso:YN 1 (ws.map vu)=true:=Uh _;have hlim:acc.length+1<=lim:=by simp[lim];omega
      simp[hun,hz,hi1,hw1,hi2,w2,hbig,hle,hle2,hso,hsl];rw[<-ZjU,<-Zjb];refine Z0 hslots (by simp) ?_;cases hok:ZN ((ws.drop m1).take z) false (unpk w).2.1 0
      ·rw[hok]at hR;simp at hR;rw[hR];simp
      ·rw[hok]at hR;simp at hR;simp[hlim,hi1,hw1,hi2,w2,hz];exact⟨m2,tk,acc++[⟨at_,z,(unpk w).2.1,false,0⟩],⟨by omega,by omega,by simp;omega,f,by omega,hR⟩,by simp[obV],by simp[cnt];omega⟩
   ·rw[if_neg hun]at hR;simp only at hR
    have hu3:(unpk w).2.2=3:=by
     unfold unpk at*;split
     ·rename_i h1;rw[if_pos h1]at hun;simp at hun
     ·rfl
    rw[hR];by_cases g1:old=true
    ·have g2:¬(adr w).2=0:=λg2=>hA ⟨g1,g2⟩;subst g1;simp[g2,hx];refine Z0 hunp (by simp) ?_;simp[hu3]
    ·have g1':old=false:=by simpa using g1
     subst g1';simp[hx];refine Z0 hunp (by simp) ?_;simp[hu3]
 ·have hx:ws[at_]?=none:=Zih (by omega);simp only[YQ,hx]at hR;rw[hR];simp[h];by_cases h2:tk<shs.length
  ·simp[h2]
  ·simp[h2]
def ObIn(n:Nat)(o:Ob):Prop:=(∃a:Nat,o.at_=a/\(a:Int)+1+o.size<=n)/\Zm o.size o.ptrs=true
def Z0W{shs:List (Int×Int)}{old:Bool}{at_ tk:Nat}{w:Int}{o:Ob}{t:Nat}(hw:U64 w)(h:objR shs old at_ tk w=some (o,t)):U64 o.target:=by
 unfold objR at h;split at h
 ·split at h
  ·cases h
  ·split at h
   ·cases h;obtain⟨h1,h2⟩:=hw;show 0<=(adr w).1/\(adr w).1<18446744073709551616;unfold adr;split
    ·simp
    split
    ·simp
    ·simp only;omega
   ·cases h
 ·split at h
  ·cases h;show(0:Int)<=0/\(0:Int)<18446744073709551616;omega
  ·cases h
def Z2R{ws:List Int}{shs:List (Int×Int)}{old:Bool}(hw:∀w∈ws,U64 w):∀(f at_ tk:Nat) (acc:List Ob),(∀o∈acc,ObIn ws.length o/\U64 o.target)->∀o∈(YQ ws shs old f at_ tk acc).1,ObIn ws.length o/\U64 o.target
 |0,_,_,_,_=>by simp[YQ]
 |f+1,at_,tk,acc,hacc=>by
  simp only[YQ];split
  ·split
   ·simp
   ·exact hacc
  ·rename_i w hx;split
   ·simp
   ·rename_i o t ho;split
    ·simp
    ·rename_i hb;split
     ·simp
     ·refine Z2R hw f _ _ _ λo' ho'=> ?_;obtain h|h:=Zhx.1 ho'
      ·exact hacc o' h
      ·simp only[Zia]at h;subst h;obtain⟨h1,h2⟩:=Us ho;exact⟨⟨⟨at_,h2,by omega⟩,h1⟩,Z0W (hw w (Zhg hx)) ho⟩
def VB{ws:List Int}{shs:List (Int×Int)}{old:Bool}(hw:∀w∈ws,U64 w):∀o∈(Zp ws shs old).1,ObIn ws.length o/\U64 o.target:=Z2R hw _ _ _ _ (by simp)
def jK{ws:List Int}{shs:List (Int×Int)}{old:Bool}:∀(f at_ tk:Nat) (acc:List Ob),at_<=ws.length->acc.length<=at_->(YQ ws shs old f at_ tk acc).1.length<=ws.length
 |0,_,_,_,_,_=>by simp[YQ]
 |f+1,at_,tk,acc,ha,hacc=>by
  simp only[YQ];split
  ·split
   ·simp
   ·simp only;omega
  ·split
   ·simp
   ·rename_i o t ho;split
    ·simp
    ·rename_i hb;split
     ·simp
     ·have hsh:=Zb.1 (Us ho).1;refine jK f _ _ _ (by omega) (by simp;omega)
def We{ws:List Int}{shs:List (Int×Int)}{old:Bool}:(Zp ws shs old).1.length<=ws.length:=jK _ _ _ _ (by omega) (by simp)
def Lr{ws:List Int}(hl:ws.length<=1000000)(hw:∀w∈ws,U64 w):VC Sol.prog 88 false [.sl (ws.map vu)] (.tup [.sl ((Zp ws [] false).1.map obV),vi (Zp ws [] false).2]):=by
 refine Z5 Sol.func88 follows (by kernel_rfl) c88 rfl ?_;simp[p88];refine Z0 (Ls (shs:=[]) (old:=false) hl (by simp) hw) (by simp) ?_;simp
def Sh{ws:List Int}{shs:List (Int×Int)}(hl:ws.length<=1000000)(hs:shs.length<=1000000)(hw:∀w∈ws,U64 w):VC Sol.prog 90 false [.sl (ws.map vu),.sl (shs.map shP)] (.tup [.sl ((Zp ws shs true).1.map obV),vi (Zp ws shs true).2]):=by
 refine Z5 Sol.func90 follows (by kernel_rfl) c90 rfl ?_;simp[p90];refine Z0 (Ls (old:=true) hl hs hw) (by simp) ?_;simp
end Vm
end
section
namespace Vm
open Go
open Go.Proofs
def p31:Fn:=⟨16,[0,1,2,10,3,4,17,5,27,41,6,46,57,7,59,66],
pQ [pR [(1,pS 0 10),pV 2 pF],pQ [pC [pK 16 60 [.mm 1 0 10]] [pV 3 (.un .not (.s 16))]] (.cond (.s 3) (pQ [pR [pV 2 pF]] .ret) .skip),pC [pK 17 61 [.mm 1 0 10]] [pV 4 (.ext (.s 17) 0),pV 5 (.ext (.s 17) 1)],pQ [pR [pV 6 (.un .not (.s 5))]] (.cond (.s 6) (pQ [pR [pV 2 pF]] .ret) .skip),pQ [pR [pV 7 (pI 0)]] (.block 0 (.loop [0,1,2,3,4,5,6,7] (pQ [pQ [.reg ⟨[.lt 18 [] (.bin .lss (.s 7) (.len (.fld (.idx (.s 4) (pI 1) 1) 0)))],[([(18,true)],.m 1 3)],[pV 8 (.ite (.s 18) (.m 1 3) pF)]⟩] (.cond (.s 8) .skip (.exit 0)),.block 1 (pQ [pC [pK 19 63 [.mm 1 0 10,pI 1,.fld (.idx (.fld (.idx (.s 4) (pI 1) 1) 0) (.s 7) 5) 0],pK 20 62 [.s 4,.s 19]] [pV 9 (.bin .neq (.s 20) (pI 1))]] (.cond (.s 9) (pQ [pR [pV 2 pF]] .ret) .skip))] (pR [pV 7 (.bin .add (.s 7) (pI 1))])))),pQ [pR [pV 10 (pI 0)]] (.block 2 (.loop [0,1,2,3,4,5,6,7,8,10] (pQ [pQ [pR [pV 11 (.bin .lss (.s 10) (.len (.m 1 9)))]] (.cond (.s 11) .skip (.exit 2)),.block 3 (pQ [pC [pK 21 64 [.mm 1 0 10,.s 4,.fld (.idx (.m 1 9) (.s 10) 1) 0,pI 1,pI 2]] [pV 12 (.un .not (.s 21))]] (.cond (.s 12) (pQ [pR [pV 2 pF]] .ret) .skip))] (pR [pV 10 (.bin .add (.s 10) (pI 1))])))),pQ [pR [pV 13 (pI 1)]] (.block 4 (.loop [0,1,2,3,4,5,6,7,8,10,11,13] (pQ [pQ [pR [pV 14 (.bin .leq (.s 13) (pI 4))]] (.cond (.s 14) .skip (.exit 4)),.block 5 (pQ [pC [pK 22 65 [.mm 1 0 10,.s 4,.s 13]] [pV 15 (.un .not (.s 22))]] (.cond (.s 15) (pQ [pR [pV 2 pF]] .ret) .skip))] (pR [pV 13 (.bin .add (.s 13) (pI 1))])))),pC [pK 23 66 [.s 4]] [pV 2 (.bin .leq (.bin .add (.bin .add (.len (.m 1 5)) (.len (.m 1 6))) (.s 23)) (.m 1 1))]] .ret,[(2,.v)]⟩
def c31:Za Sol.prog fresh sig [.fz] [] Tryz.f31=some p31:=by kernel_rfl
def p60:Fn:=⟨6,[0,1,2,3,27,29],
pQ [pR [(1,pS 0 10),pV 2 pF],pC [pK 6 41 [.mm 1 0 10],pK 7 73 [.s 6]] [pV 3 (.s 7)],pQ [.reg ⟨[.lt 8 [] (.un .not (.s 3)),.lt 9 [] (.ite (.s 8) pT (.bin .gtr (.len (.m 1 9)) (pI 16))),.lt 10 [] (.ite (.s 9) pT (.bin .lss (.m 1 4) (pI 0)))],[([(8,false)],.bin .gtr (.len (.m 1 9)) (pI 16)),([(9,false)],.bin .lss (.m 1 4) (pI 0)),([(10,false)],.bin .gtr (.m 1 4) (.len (.m 1 5)))],[pV 4 (.ite (.s 10) pT (.bin .gtr (.m 1 4) (.len (.m 1 5))))]⟩] (.cond (.s 4) (pQ [pR [pV 2 pF]] .ret) .skip),pQ [pR [pV 5 (.m 1 3)]] (.cond (.s 5) (pQ [pR [pV 2 (.bin .lss (.m 1 4) (.len (.m 1 5)))]] .ret) .skip),.reg ⟨[.lt 11 [] (.bin .eql (.m 1 4) (.len (.m 1 5))),.lt 12 [] (.ite (.s 11) (.bin .eql (.len (.m 1 7)) (pI 0)) pF)],[([(11,true)],.bin .eql (.len (.m 1 7)) (pI 0)),([(12,true)],.bin .eql (.len (.m 1 8)) (pI 0))],[pV 2 (.ite (.s 12) (.bin .eql (.len (.m 1 8)) (pI 0)) pF)]⟩] .ret,[(2,.v)]⟩
def c60:Za Sol.prog fresh sig [.fz] [] Tryz.f60=some p60:=by kernel_rfl
def p62:Fn:=⟨9,[0,1,4,5,6,9,7,18,40],
pQ [pR [pV 2 (pI 0)],pR [pV 3 (pI 0)],pQ [pR [pV 4 (pI 3)]] (.block 0 (.loop [0,1,2,3,4] (pQ [pQ [pR [pV 5 (.bin .leq (.s 4) (pI 4))]] (.cond (.s 5) .skip (.exit 0)),.block 1 (pQ [pR [pV 6 (pI 0)]] (.block 2 (.loop [0,1,2,3,4,5,6] (pQ [pQ [pR [pV 7 (.bin .lss (.s 6) (.len (.fld (.idx (.s 0) (.s 4) 1) 0)))]] (.cond (.s 7) .skip (.exit 2)),.block 3 (pQ [.reg ⟨[.lt 9 [] (.fld (.idx (.fld (.idx (.s 0) (.s 4) 1) 0) (.s 6) 5) 3)],[([(9,true)],.bin .eql (.fld (.idx (.fld (.idx (.s 0) (.s 4) 1) 0) (.s 6) 5) 4) (.s 1))],[pV 8 (.ite (.s 9) (.bin .eql (.fld (.idx (.fld (.idx (.s 0) (.s 4) 1) 0) (.s 6) 5) 4) (.s 1)) pF)]⟩] (.cond (.s 8) (pR [pV 3 (.bin .add (.s 3) (pI 1))]) .skip))] (pR [pV 6 (.bin .add (.s 6) (pI 1))])))))] (pR [pV 4 (.bin .add (.s 4) (pI 1))])))),pR [pV 2 (.s 3)]] .ret,[(2,.v)]⟩
def c62:Za Sol.prog fresh sig [.fz,.fz] [] Tryz.f62=some p62:=by kernel_rfl
def p64:Fn:=⟨15,[0,1,2,3,4,5,10,18,11,12,25,13,14,15,16],
pQ [pR [(5,pS 0 10),pV 6 pF],pQ [pR [pV 7 (.bin .eql (.s 2) (pU 0))]] (.cond (.s 7) (pQ [pR [pV 6 pT]] .ret) .skip),pC [pK 15 68 [.s 2]] [pV 8 (.ext (.s 15) 0),pV 9 (.ext (.s 15) 1)],pQ [pR [pV 10 (.bin .neq (.s 9) (pI 0))]] (.cond (.s 10) (pQ [pR [pV 6 pF]] .ret) .skip),pC [pK 16 91 [.mm 5 0 10,.s 3,.fld (.idx (.s 1) (.s 3) 1) 0,.s 8]] [(11,pM (.sz (.ext (.s 16) 0) 5) 5),pV 12 (.ext (.s 16) 1)],pC [pK 17 91 [.mm 5 0 10,.s 4,.fld (.idx (.s 1) (.s 4) 1) 0,.s 8]] [(13,pM (.sz (.ext (.s 17) 0) 5) 5),pV 14 (.ext (.s 17) 1)],pC [.lt 18 [] (.s 12)] [pV 6 (.ite (.s 18) pT (.s 14))]] .ret,[(6,.v)]⟩
def c64:Za Sol.prog fresh sig [.fz,.fz,.fz,.fz,.fz] [] Tryz.f64=some p64:=by kernel_rfl
def p65:Fn:=⟨17,[0,1,2,3,6,7,8,23,9,10,44,11,12,13,63,72,78],
pQ [pR [(3,pS 0 10),pV 4 pF],pC [pK 17 7 [.mm 3 0 10,.s 2]] [pV 5 (.s 17)],pQ [pR [pV 6 (pI 0)]] (.block 0 (.loop [0,1,2,3,4,5,6] (pQ [pQ [pR [pV 7 (.bin .lss (.s 6) (.len (.fld (.idx (.s 1) (.s 2) 1) 0)))]] (.cond (.s 7) .skip (.exit 0)),.block 1 (pQ [pR [(8,pM (.flds (.idx (.fld (.idx (.s 1) (.s 2) 1) 0) (.s 6) 5) 0 5) 5)],pR [pV 9 (.bin .add (.m 8 0) (pI 1))]] (.block 2 (.loop [0,1,2,3,4,5,6,7,8,9] (pQ [pQ [pR [pV 10 (.bin .lss (.s 9) (.bin .add (.bin .add (.m 8 0) (pI 1)) (.m 8 2)))]] (.cond (.s 10) .skip (.exit 2)),.block 3 (pQ [pC [pK 18 64 [.mm 3 0 10,.s 1,.fld (.idx (.s 5) (.s 9) 1) 0,pI 1,pI 2]] [pV 11 (.s 18)],pC [pK 19 64 [.mm 3 0 10,.s 1,.fld (.idx (.s 5) (.s 9) 1) 0,pI 3,pI 4]] [pV 12 (.s 19)],pR [pV 13 (.s 11)],pQ [pR [pV 14 (.bin .gtr (.s 2) (pI 2))]] (.cond (.s 14) (pR [pV 13 (.s 12)]) (pQ [.reg ⟨[.lt 20 [] (.bin .eql (.s 2) (pI 1))],[([(20,true)],.bin .geq (.s 9) (.m 3 4))],[pV 15 (.ite (.s 20) (.bin .geq (.s 9) (.m 3 4)) pF)]⟩] (.cond (.s 15) (pC [.lt 21 [] (.s 11)] [pV 13 (.ite (.s 21) pT (.s 12))]) .skip))),pR [pV 16 (.un .not (.s 13))]] (.cond (.s 16) (pQ [pR [pV 4 pF]] .ret) .skip))] (pR [pV 9 (.bin .add (.s 9) (pI 1))])))))] (pR [pV 6 (.bin .add (.s 6) (pI 1))])))),pR [pV 4 pT]] .ret,[(4,.v)]⟩
def c65:Za Sol.prog fresh sig [.fz,.fz,.fz] [] Tryz.f65=some p65:=by kernel_rfl
def p66:Fn:=⟨8,[0,2,3,4,7,5,16,27],
pQ [pR [pV 1 (pI 0)],pR [pV 2 (pI 0)],pQ [pR [pV 3 (pI 3)]] (.block 0 (.loop [0,1,2,3] (pQ [pQ [pR [pV 4 (.bin .leq (.s 3) (pI 4))]] (.cond (.s 4) .skip (.exit 0)),.block 1 (pQ [pR [pV 5 (pI 0)]] (.block 2 (.loop [0,1,2,3,4,5] (pQ [pQ [pR [pV 6 (.bin .lss (.s 5) (.len (.fld (.idx (.s 0) (.s 3) 1) 0)))]] (.cond (.s 6) .skip (.exit 2)),.block 3 (pQ [pR [pV 7 (.un .not (.fld (.idx (.fld (.idx (.s 0) (.s 3) 1) 0) (.s 5) 5) 3))]] (.cond (.s 7) (pR [pV 2 (.bin .add (.bin .add (.s 2) (pI 1)) (.fld (.idx (.fld (.idx (.s 0) (.s 3) 1) 0) (.s 5) 5) 1))]) .skip))] (pR [pV 5 (.bin .add (.s 5) (pI 1))])))))] (pR [pV 3 (.bin .add (.s 3) (pI 1))])))),pR [pV 1 (.s 2)]] .ret,[(1,.v)]⟩
def c66:Za Sol.prog fresh sig [.fz] [] Tryz.f66=some p66:=by kernel_rfl
end Vm
end
section
namespace Vm
open Go Go.Proofs
def ZA(h:Hp)(part at_:Int):Int:=(ZI (layH h) part at_).1
def Z2O{h:Hp}(hh:h.ok){part at_:Int}:VC Sol.prog 63 false [hpV h,vi part,vi at_] (vu (ZA h part at_)):=by
 refine Z5 Sol.func63 follows (by kernel_rfl) c63 rfl ?_;simp[p63];refine Z0 (Wo (h:=h)) (by simp) ?_;simp;refine Z0 (Tq hh.lay (part:=part) (at_:=at_)) (by simp) ?_;simp[ZA]
def atR(h:Hp)(part:Int)(l:List Ob)(a:Int):Option Ob:=l.find? λo=>ZA h part o.at_==a
def obO:Option Ob->V
 |some o=>.tup [obV o,.bool true]
 |none=>.tup [obV ⟨0,0,0,false,0⟩,.bool false]
def yY{l:List Ob}{p:Ob->Bool}{i:Nat}{o:Ob}(h:l[i]?=some o)(hp:(l.take i).find? p=none):(l.take (i+1)).find? p=(if p o then some o else none)/\(p o=true->l.find? p=some o):=by
 have h1:l.take (i+1)=l.take i++[o]:=by rw[ZhM,h];rfl
 have h2:l=l.take (i+1)++l.drop (i+1):=(ZiP _ _).symm;constructor
 ·rw[h1,ZkE,hp];cases hpo:p o<;>simp[hpo]
 ·intro hpo;rw[h2,h1,ZkE,ZkE,hp];simp[hpo]
def Za5{h:Hp}(hh:h.ok){part a:Int}{l:List Ob}(hl:l.length<=1000000):VC Sol.prog 91 false [hpV h,vi part,.sl (l.map obV),vu a] (obO (atR h part l a)):=by
 refine Z5 Sol.func91 follows (by kernel_rfl) c91 rfl ?_;simp[p91];refine Xe 7 l.length (λi=>(l.take i).find? (λo=>ZA h part o.at_==a)=none) (by simp) (by simp) (by simp) ?_;intro i hi hinv;have hw:=Z4 ((i:Int)+1) (by omega) (by omega);by_cases hlt:i<l.length
 ·have hx:l[i]?=some l[i]:=Zh8 hlt;generalize l[i]=o at*;obtain⟨f1,f2⟩:=yY hx hinv;simp[hlt,hx,Zt hx];refine Z0 (Z2O hh (part:=part) (at_:=o.at_)) (by simp[hpV]) ?_;by_cases he:ZA h part o.at_=a
  ·have:=f2 (by simpa using he);simp[he,atR,this,obO,hx,Zt hx];simp[obV]
  ·have:(ZA h part o.at_==a)=false:=by simpa using he
   rw[this]at f1;simp at f1;simp[he,hw,hlt];simpa using f1
 ·have:i=l.length:=by omega
  subst this;rw[ZhS]at hinv;simp[atR,hinv,obO];simp[obV]
theorem Z4N{h:Hp}{part a:Int}{l:List Ob}{o:Ob}(ho:atR h part l a=some o):o∈l:=ZiK ho
def ZW(h:Hp)(ws:List Int)(low:List Ob):Nat->Nat->List (Int×Int)->Option (List (Int×Int))
 |0,_,_=>none
 |f+1,i,acc=>
  match ws[i]? with
  |none=>some acc
  |some w=>if(adr w).2=0 then(match atR h 1 low (adr w).1 with|none=>none|some o=>ZW h ws low f (i+1+o.size.toNat) (acc++[(o.size,o.ptrs)]))
   else if(unpk w).2.2=0 then ZW h ws low f (i+1+(unpk w).1.toNat) acc else none
def ZX(h:Hp)(ws:List Int)(low:List Ob):Option (List (Int×Int)):=ZW h ws low (ws.length+1) 0 []
def shO:Option (List (Int×Int))->V
 |some l=>.tup [.sl (l.map shP),.bool true]
 |none=>.tup [.sl [],.bool false]
def jz{h:Hp}(hh:h.ok){ws:List Int}{low:List Ob}(hl:ws.length<=1000000)(hw:∀w∈ws,U64 w)(hll:low.length<=1000000)(hls:∀o∈low,Zm o.size o.ptrs=true):
  VC Sol.prog 89 false [hpV h,.sl (ws.map vu),.sl (low.map obV)] (shO (ZX h ws low)):=by
 refine Z5 Sol.func89 follows (by kernel_rfl) c89 rfl ?_;simp[p89]
 refine ZO (λ(p:Nat×List (Int×Int))=>[(6,.v (.sl (p.2.map shP))),(7,.v (vi p.1))])
  (λp=>p.1<=ws.length+256/\p.2.length<=p.1/\∃f,ws.length<f+p.1/\0<f/\ZX h ws low=ZW h ws low f p.1 p.2) (cnt 7 ws.length) (0,[]) (by simp) ⟨by simp,by simp,ws.length+1,by simp,by omega,rfl⟩ ?_
 rintro⟨i,acc⟩ ⟨hi,hacc,f,hf,hf0,hR⟩;simp only at hi hacc hf hR;cases f with
 |zero=>omega
 |succ f=>
 by_cases hlt:i<ws.length
 ·have hx:ws[i]?=some ws[i]:=Zh8 hlt;have hu:=hw _ (Zhi hlt);generalize ws[i]=w at*;simp only[ZW,hx]at hR;have hw1:=Z4 ((i:Int)+1) (by omega) (by omega);have hlim:acc.length+1<=lim:=by simp[lim];omega
  simp[hlt,hx,Zt hx];refine Z0 (Lq hu) (by simp) ?_;simp[hx,Zt hx];refine Z0 (U9 hu) (by simp) ?_;by_cases ha:(adr w).2=0
  ·rw[if_pos ha]at hR;simp[ha];refine Z0 (Za5 hh (part:=1) (a:=(adr w).1) hll) (by simp[hpV]) ?_;cases hat:atR h 1 low (adr w).1 with
   |none=>
    rw[hat]at hR;simp only at hR;rw[hR];simp[obO,shO]
   |some o=>
    rw[hat]at hR;simp only at hR;have hsh:=Zb.1 (hls o (Z4N hat));obtain⟨z,hz⟩:=Zhl hsh.1;have hw2:=Z4 ((i:Int)+1+z) (by omega) (by omega);rw[hz,ZhV]at hR;simp[obO,hlim,hz,hw1,hw2];refine⟨i+1+z,acc++[((z:Int),o.ptrs)],⟨by omega,by simp;omega,f,by omega,?_,hR⟩,⟨by simp[shP],by omega⟩,by simp[cnt];omega⟩;omega
  ·rw[if_neg ha]at hR;by_cases hun:(unpk w).2.2=0
   ·rw[if_pos hun]at hR;have hsh:=Zb.1 (yc hun);obtain⟨z,hz⟩:=Zhl hsh.1;have hw2:=Z4 ((i:Int)+1+z) (by omega) (by omega);rw[hz,ZhV]at hR;simp[ha,hun,hz,hw1,hw2];refine⟨i+1+z,acc,⟨by omega,by omega,f,by omega,?_,hR⟩,⟨rfl,by omega⟩,by simp[cnt];omega⟩;omega
   ·rw[if_neg hun]at hR;rw[hR];simp[ha,hun,shO]
 ·have hx:ws[i]?=none:=Zih (by omega);simp only[ZW,hx]at hR;rw[hR];simp[hlt,shO]
structure Pts where
 low:List Ob
 high:List Ob
 old:List Ob
 far:List Ob
 deriving Inhabited
def ptsV(p:Pts):V:=.sl [.sl [],.sl (p.low.map obV),.sl (p.high.map obV),.sl (p.old.map obV),.sl (p.far.map obV)]
def Pts.at(p:Pts)(k:Int):List Ob:=if k=1 then p.low else if k=2 then p.high else if k=3 then p.old else p.far
@[simp]def Pts.at1(p:Pts):p.at 1=p.low:=rfl
@[simp]def Pts.at2(p:Pts):p.at 2=p.high:=rfl
@[simp]def Pts.at3(p:Pts):p.at 3=p.old:=rfl
@[simp]def Pts.at4(p:Pts):p.at 4=p.far:=rfl
structure Pts.ok (p:Pts) (h:Hp):Prop where
 ob:∀k,∀o∈p.at k,ObIn (Zh h k).length o/\U64 o.target
 len:∀k,(p.at k).length<=1000000
def Vy{h:Hp}{ws:List Int}{low:List Ob}:∀(f i:Nat) (acc l:List (Int×Int)),acc.length<=i->acc.length<=ws.length->ZW h ws low f i acc=some l->l.length<=ws.length
 |0,_,_,_,_,_,he=>by simp[ZW]at he
 |f+1,i,acc,l,h1,h2,he=>by
  simp only[ZW]at he;split at he
  ·cases he;exact h2
  ·rename_i w hx;have hlt:=(Zh9.1 hx).1;split at he
   ·split at he
    ·cases he
    ·exact Vy f _ _ _ (by simp;omega) (by simp;omega) he
   ·split at he
    ·exact Vy f _ _ _ (by omega) h2 he
    ·cases he
def ZT(h:Hp):Option Pts:=
 let low:=Zp h.low [] false
 let high:=Zp h.high [] false
 if low.2≠0\/high.2≠0 then none else
 let p:=ZX h h.old low.1
 let q:=ZX h h.far low.1
 let old:=Zp h.old (p.getD []) true
 let far:=Zp h.far (q.getD []) true
 if p=none\/q=none\/old.2≠0\/far.2≠0 then none else some ⟨low.1,high.1,old.1,far.1⟩
def ptO:Option Pts->V
 |some p=>.tup [ptsV p,.bool true]
 |none=>.tup [.sl [],.bool false]
def zJ{h:Hp}(hh:h.ok){p:Pts}(hp:ZT h=some p):p.ok h:=by
 unfold ZT at hp;dsimp only at hp;split at hp
 ·cases hp
 split at hp
 ·cases hp
 ·cases hp;refine⟨λk o ho=> ?_,λk=> ?_⟩
  ·unfold Pts.at at ho;unfold Zh;split at ho
   ·rename_i e;rw[if_pos e];exact VB hh.lowW o ho
   rename_i e1;rw[if_neg e1];split at ho
   ·rename_i e;rw[if_pos e];exact VB hh.highW o ho
   rename_i e2;rw[if_neg e2];split at ho
   ·rename_i e;rw[if_pos e];exact VB hh.oldW o ho
   ·rename_i e;rw[if_neg e];exact VB hh.farW o ho
  ·unfold Pts.at;split
   ·exact Zht We hh.low
   split
   ·exact Zht We hh.high
   split
   ·exact Zht We hh.old
   ·exact Zht We hh.far
def zK{h:Hp}(hh:h.ok):VC Sol.prog 61 false [hpV h] (ptO (ZT h)):=by
 refine Z5 Sol.func61 follows (by kernel_rfl) c61 rfl ?_;simp[p61];refine Z0 (Lr hh.low hh.lowW) (by simp) ?_;simp;refine Z0 (Lr hh.high hh.highW) (by simp) ?_;simp;unfold ZT;dsimp only;have hls:∀o∈(Zp h.low [] false).1,Zm o.size o.ptrs=true:=λo ho=>(VB hh.lowW o ho).1.2;have hll:(Zp h.low [] false).1.length<=1000000:=Zht We hh.low;generalize Zp h.low [] false=low at*;generalize Zp h.high [] false=high at*;by_cases e1:low.2=0
 case neg=>simp[e1,ptO]
 by_cases e2:high.2=0
 case neg=>simp[e1,e2,ptO]
 have k1:=jz hh (ws:=h.old) (low:=low.1) hh.old hh.oldW hll hls;have k2:=jz hh (ws:=h.far) (low:=low.1) hh.far hh.farW hll hls
 have hp:((ZX h h.old low.1).getD []).length<=1000000:=by
  cases hq:ZX h h.old low.1 with
  |none=>simp
  |some l=>exact Zht (Vy _ _ _ _ (by simp) (by simp) hq) hh.old
 have hq:((ZX h h.far low.1).getD []).length<=1000000:=by
  cases hq:ZX h h.far low.1 with
  |none=>simp
  |some l=>exact Zht (Vy _ _ _ _ (by simp) (by simp) hq) hh.far
 generalize ZX h h.old low.1=p at*;generalize ZX h h.far low.1=q at*;have k3:=Sh hh.old hp hh.oldW;have k4:=Sh hh.far hq hh.farW;generalize Zp h.old (p.getD []) true=old at*;generalize Zp h.far (q.getD []) true=far at*
 have hpV:∃b,shO p=.tup [.sl ((p.getD []).map shP),.bool b]/\(b=true↔p≠none):=by
  cases p with
  |none=>exact⟨false,rfl,by simp⟩
  |some l=>exact⟨true,rfl,by simp⟩
 have hqV:∃b,shO q=.tup [.sl ((q.getD []).map shP),.bool b]/\(b=true↔q≠none):=by
  cases q with
  |none=>exact⟨false,rfl,by simp⟩
  |some l=>exact⟨true,rfl,by simp⟩
 obtain⟨bp,hpe,hbp⟩:=hpV;obtain⟨bq,hqe,hbq⟩:=hqV;rw[hpe]at k1;rw[hqe]at k2;simp[e1,e2];refine Z0 k1 (by simp[hpV]) ?_;simp;refine Z0 k2 (by simp[hpV]) ?_;simp;refine Z0 k3 (by simp) ?_;simp;refine Z0 k4 (by simp) ?_;cases hpn:p with
 |none=>
  have:bp=false:=by cases bp<;>simp_all
  simp[this,ptO]
 |some pl=>
  have h1:bp=true:=hbp.2 (by rw[hpn];simp);cases hqn:q with
  |none=>
   have:bq=false:=by cases bq<;>simp_all
   simp[h1,this,ptO]
  |some ql=>
   have h2:bq=true:=hbq.2 (by rw[hqn];simp);by_cases e3:old.2=0
   case neg=>simp[h1,h2,e3,ptO]
   by_cases e4:far.2=0
   case neg=>simp[h1,h2,e3,e4,ptO]
   simp[h1,h2,e3,e4,ptO,ptsV]
def YG(h:Hp)(p:Pts)(w one two:Int):Bool:=decide (w=0)||(decide ((adr w).2=0)&&((atR h one (p.at one) (adr w).1).isSome||(atR h two (p.at two) (adr w).1).isSome))
def Z9y(x:Option Ob):∃o:Ob,obO x=.tup [obV o,.bool x.isSome]:=by
 cases x with
 |none=>exact⟨_,rfl⟩
 |some o=>exact⟨_,rfl⟩
def Z0p{h:Hp}(hh:h.ok){p:Pts}(hp:p.ok h){w one two:Int}(hw:U64 w)(ho:(one=1/\two=2)\/(one=3/\two=4)):VC Sol.prog 64 false [hpV h,ptsV p,vu w,vi one,vi two] (.bool (YG h p w one two)):=by
 refine Z5 Sol.func64 follows (by kernel_rfl) c64 rfl ?_;by_cases h0:w=0
 ·simp[p64,h0,YG]
 simp[p64,h0];refine Z0 (U9 hw) (by simp) ?_;by_cases ha:(adr w).2=0
 case neg=>simp[ha,YG,h0]
 have k1:=Za5 hh (part:=one) (a:=(adr w).1) (l:=p.at one) (hp.len one);have k2:=Za5 hh (part:=two) (a:=(adr w).1) (l:=p.at two) (hp.len two);unfold YG;obtain⟨o1,e1⟩:=Z9y (atR h one (p.at one) (adr w).1);obtain⟨o2,e2⟩:=Z9y (atR h two (p.at two) (adr w).1);rw[e1]at k1;rw[e2]at k2;generalize (atR h one (p.at one) (adr w).1).isSome=b1 at*;generalize (atR h two (p.at two) (adr w).1).isSome=b2 at*;obtain⟨rfl,rfl⟩|⟨rfl,rfl⟩:=ho
 ·simp[ha,h0,ptsV,idxV];refine Z0 k1 (by simp[hpV]) ?_;simp[ptsV,idxV];refine Z0 k2 (by simp[hpV]) ?_;cases b1<;>simp
 ·simp[ha,h0,ptsV,idxV];refine Z0 k1 (by simp[hpV]) ?_;simp[ptsV,idxV];refine Z0 k2 (by simp[hpV]) ?_;cases b1<;>simp
def wtO(o:Ob):Nat:=if o.gone then 0 else 1+o.size.toNat
def wtL(l:List Ob):Nat:=(l.map wtO).sum
def Qv{l:List Ob}{i:Nat}{o:Ob}(h:l[i]?=some o):wtL (l.take (i+1))=wtL (l.take i)+wtO o:=by
 unfold wtL;rw[ZhM,h,Zic,List.sum_append];simp
def VF{l:List Ob}(h:∀o∈l,Zm o.size o.ptrs=true):wtL l<=256*l.length:=by
 induction l with
 |nil=>simp[wtL]
 |cons o l ih=>
  have h1:=ih λx hx=>h x (by simp[hx]);have h2:=Zb.1 (h o (by simp));have h3:wtO o<=256:=by unfold wtO;split<;>omega
  have h4:wtL (o::l)=wtO o+wtL l:=by simp[wtL]
  simp only[Zib];omega
def yf(p:Pts):Nat:=wtL p.old+wtL p.far
def Z4z{h:Hp}{p:Pts}(hp:p.ok h):VC Sol.prog 66 false [ptsV p] (vi (yf p)):=by
 refine Z5 Sol.func66 follows (by kernel_rfl) c66 rfl ?_;simp[p66];have hs:∀k,∀o∈p.at k,Zm o.size o.ptrs=true:=λk o ho=>(hp.ob k o ho).1.2;have hl:=hp.len;refine ZO (λ(i:Nat)=>[(2,.v (vi ((if 0<i then wtL p.old else 0)+(if 1<i then wtL p.far else 0):Nat))),(3,.v (vi ((i+3:Nat):Int)))]) (λi=>i<=2) (cnt 3 5) 0 (by simp) (by simp) ?_;rintro i hi;have hb3:=VF (hs 3);have hb4:=VF (hs 4);have hl3:=hl 3;have hl4:=hl 4;simp only[Pts.at3,Pts.at4]at hb3 hb4 hl3 hl4;have hi':i=0\/i=1\/i=2:=by omega
 obtain rfl|rfl|rfl:=hi'
 ·simp;refine Y2 5 p.old.length (λj=>[(2,.v (vi (wtL (p.old.take j)))),(5,.v (vi j))]) (λ_=>True) (by simp[wtL]) (λi=>by simp) trivial ?_;rintro j hj-;have hwj:=Z4 ((j:Int)+1) (by omega) (by omega);by_cases h1:j<p.old.length
  ·have hx:p.old[j]?=some p.old[j]:=Zh8 h1;have hsx:=hs 3 _ (Zhi h1);have hsc:=Qv hx;generalize p.old[j]=o at*
   have hle:wtL (p.old.take j)<=256*p.old.length:=by
    refine Zht (VF λo ho=>hs 3 o (Zhz ho)) ?_;simp;omega
   obtain⟨g1,g2,g3,g4⟩:=Zb.1 hsx;obtain⟨z,hz⟩:=Zhl g1;have w1:=Z4 ((wtL (p.old.take j):Int)+1) (by omega) (by omega);have w2:=Z4 ((wtL (p.old.take j):Int)+1+z) (by omega) (by omega);cases hg:o.gone
   ·have hwo:wtO o=1+z:=by simp[wtO,hg,hz]
    simp[ptsV,idxV,h1,hx,Zt hx,hg,hz,w1,w2,hwj,hsc,hwo];omega
   ·have hwo:wtO o=0:=by simp[wtO,hg]
    simp[ptsV,idxV,h1,hx,Zt hx,hg,hwj,hsc,hwo]
  ·have:j=p.old.length:=by omega
   subst this;rw[ZhS];simp[ptsV,idxV,Z4];exact⟨1,by omega,by simp,by simp[cnt]⟩
 ·simp;refine Y2 5 p.far.length (λj=>[(2,.v (vi (wtL p.old+wtL (p.far.take j):Nat))),(5,.v (vi j))]) (λ_=>True) (by simp[wtL]) (λi=>by simp) trivial ?_;rintro j hj-;have hwj:=Z4 ((j:Int)+1) (by omega) (by omega);by_cases h1:j<p.far.length
  ·have hx:p.far[j]?=some p.far[j]:=Zh8 h1;have hsx:=hs 4 _ (Zhi h1);have hsc:=Qv hx;generalize p.far[j]=o at*
   have hle:wtL (p.far.take j)<=256*p.far.length:=by
    refine Zht (VF λo ho=>hs 4 o (Zhz ho)) ?_;simp;omega
   obtain⟨g1,g2,g3,g4⟩:=Zb.1 hsx;obtain⟨z,hz⟩:=Zhl g1;have w1:=Z4 ((wtL p.old:Int)+wtL (p.far.take j)+1) (by omega) (by omega);have w2:=Z4 ((wtL p.old:Int)+wtL (p.far.take j)+1+z) (by omega) (by omega);cases hg:o.gone
   ·have hwo:wtO o=1+z:=by simp[wtO,hg,hz]
    simp[ptsV,idxV,h1,hx,Zt hx,hg,hz,w1,w2,hwj,hsc,hwo];omega
   ·have hwo:wtO o=0:=by simp[wtO,hg]
    simp[ptsV,idxV,h1,hx,Zt hx,hg,hwj,hsc,hwo]
  ·have:j=p.far.length:=by omega
   subst this;rw[ZhS];simp[ptsV,idxV,Z4];exact⟨2,by omega,by simp,by simp[cnt]⟩
 ·simp[yf]
def tgL(l:List Ob)(a:Int):Nat:=(l.filter λo=>o.gone&&decide (o.target=a)).length
def Z2Q{l:List Ob}{i:Nat}{o:Ob}{a:Int}(h:l[i]?=some o):tgL (l.take (i+1)) a=tgL (l.take i) a+if(o.gone&&decide (o.target=a))=true then 1 else 0:=by
 unfold tgL;rw[ZhM,h,Zkv,Zin];simp[List.filter];split<;>simp_all
def jF(p:Pts)(a:Int):Nat:=tgL p.old a+tgL p.far a
def Z7k{l:List Ob}{a:Int}:tgL l a<=l.length:=Zjw _ _
def Z4t{h:Hp}{p:Pts}(hp:p.ok h){a:Int}:VC Sol.prog 62 false [ptsV p,vu a] (vi (jF p a)):=by
 refine Z5 Sol.func62 follows (by kernel_rfl) c62 rfl ?_;simp[p62];have hl:=hp.len;refine ZO (λ(i:Nat)=>[(3,.v (vi ((if 0<i then tgL p.old a else 0)+(if 1<i then tgL p.far a else 0):Nat))),(4,.v (vi ((i+3:Nat):Int)))]) (λi=>i<=2) (cnt 4 5) 0 (by simp) (by simp) ?_;rintro i hi;have hl3:=hl 3;have hl4:=hl 4;simp only[Pts.at3,Pts.at4]at hl3 hl4;have ho:=Z7k (l:=p.old) (a:=a);have hi':i=0\/i=1\/i=2:=by omega
 obtain rfl|rfl|rfl:=hi'
 ·simp;refine Y2 6 p.old.length (λj=>[(3,.v (vi (tgL (p.old.take j) a))),(6,.v (vi j))]) (λ_=>True) (by simp[tgL]) (λi=>by simp) trivial ?_;rintro j hj-;have hwj:=Z4 ((j:Int)+1) (by omega) (by omega);by_cases h1:j<p.old.length
  ·have hx:p.old[j]?=some p.old[j]:=Zh8 h1;have hsc:=Z2Q (a:=a) hx;generalize p.old[j]=o at*
   have hle:tgL (p.old.take j) a<=j:=by
    have:=Z7k (l:=p.old.take j) (a:=a);simp at this;omega
   have w1:=Z4 ((tgL (p.old.take j) a:Int)+1) (by omega) (by omega);cases hg:o.gone
   ·simp[ptsV,idxV,h1,hx,Zt hx,hg,hwj,hsc]
   ·by_cases ht:o.target=a
    ·simp[ptsV,idxV,h1,hx,Zt hx,hg,ht,w1,hwj,hsc]
    ·simp[ptsV,idxV,h1,hx,Zt hx,hg,ht,hwj,hsc]
  ·have:j=p.old.length:=by omega
   subst this;rw[ZhS];simp[ptsV,idxV,Z4];exact⟨1,by omega,by simp,by simp[cnt]⟩
 ·simp;refine Y2 6 p.far.length (λj=>[(3,.v (vi (tgL p.old a+tgL (p.far.take j) a:Nat))),(6,.v (vi j))]) (λ_=>True) (by simp[tgL]) (λi=>by simp) trivial ?_;rintro j hj-;have hwj:=Z4 ((j:Int)+1) (by omega) (by omega);by_cases h1:j<p.far.length
  ·have hx:p.far[j]?=some p.far[j]:=Zh8 h1;have hsc:=Z2Q (a:=a) hx;generalize p.far[j]=o at*
   have hle:tgL (p.far.take j) a<=j:=by
    have:=Z7k (l:=p.far.take j) (a:=a);simp at this;omega
   have w1:=Z4 ((tgL p.old a:Int)+tgL (p.far.take j) a+1) (by omega) (by omega);cases hg:o.gone
   ·simp[ptsV,idxV,h1,hx,Zt hx,hg,hwj,hsc]
   ·by_cases ht:o.target=a
    ·simp[ptsV,idxV,h1,hx,Zt hx,hg,ht,w1,hwj,hsc];omega
    ·simp[ptsV,idxV,h1,hx,Zt hx,hg,ht,hwj,hsc]
  ·have:j=p.far.length:=by omega
   subst this;rw[ZhS];simp[ptsV,idxV,Z4];exact⟨2,by omega,by simp,by simp[cnt]⟩
 ·simp[jF]
def numR(h:Hp):Bool:=
 Zl (layH h)&&decide (h.roots.length<=16)&&decide (0<=h.scan)&&decide (h.scan<=h.low.length)&&
  (if h.cycle then decide (h.scan<h.low.length)else decide (h.scan=h.low.length)&&decide (h.old.length=0)&&decide (h.far.length=0))
def Z3U{h:Hp}(hh:h.ok):VC Sol.prog 60 false [hpV h] (.bool (numR h)):=by
 refine Z5 Sol.func60 follows (by kernel_rfl) c60 rfl ?_;simp[p60];refine Z0 (Wo (h:=h)) (by simp[hpV]) ?_;simp;refine Z0 (RR hh.lay) (by simp) ?_;cases hr:Zl (layH h)
 case false=>simp[numR,hr]
 by_cases h1:h.roots.length<=16
 case neg=>simp[numR,hr,h1,show 16< (h.roots.length:Int)by omega]
 by_cases h2:0<=h.scan
 case neg=>simp[numR,hr,h1,h2,show ¬16< (h.roots.length:Int)by omega,show h.scan<0 by omega]
 by_cases h3:h.scan<=h.low.length
 case neg=>simp[numR,hr,h1,h2,h3,show ¬16< (h.roots.length:Int)by omega,show ¬h.scan<0 by omega,show(h.low.length:Int)<h.scan by omega]
 have g1:¬16< (h.roots.length:Int):=by omega
 have g2:¬h.scan<0:=by omega
 have g3:¬(h.low.length:Int)<h.scan:=by omega
 cases hc:h.cycle
 ·by_cases h4:h.scan=h.low.length
  ·by_cases h5:h.old.length=0
   ·by_cases h6:h.far.length=0
    ·simp[numR,hr,h1,h2,h3,g1,g2,g3,hc,h4,h5,h6]
    ·simp[numR,hr,h1,h2,h3,g1,g2,g3,hc,h4,h5,h6]
   ·simp[numR,hr,h1,h2,h3,g1,g2,g3,hc,h4,h5]
  ·simp[numR,hr,h1,h2,h3,g1,g2,g3,hc,h4]
 ·simp[numR,hr,h1,h2,h3,g1,g2,g3,hc]
def Wg(h:Hp)(p:Pts)(part:Int)(k:Nat):Bool:=
 let w:=((Zh h part)[k]?).getD 0
 let to:=YG h p w 1 2
 let from_:=YG h p w 3 4
 if 2<part then from_ else if part=1/\h.scan<=k then to||from_ else to
def S9(h:Hp)(p:Pts)(part:Int)(o:Ob):Bool:=(List.range o.ptrs.toNat).all λj=>Wg h p part (o.at_.toNat+1+j)
def Xf(h:Hp)(p:Pts)(part:Int):Bool:=(p.at part).all (S9 h p part)
def TB{α:Type}{q:α->Bool}{l:List α}{i:Nat}{x:α}(h:l[i]?=some x):(l.take (i+1)).all q=((l.take i).all q&&q x):=by
 rw[ZhM,h,Zkj];simp
def Kz{α:Type}{q:α->Bool}{l:List α}{i:Nat}{x:α}(h:l[i]?=some x)(hq:q x=false):l.all q=false:=by
 rw[List.all_eq_false];exact⟨x,Zhg h,by simp[hq]⟩
def Vo{h:Hp}(hh:h.ok){p:Pts}(hp:p.ok h){part:Nat}(hk:1<=part/\part<=4)(hw:∀w∈Zh h part,U64 w)(hpl:(Zh h part).length<=1000000):VC Sol.prog 65 false [hpV h,ptsV p,vi part] (.bool (Xf h p part)):=by
 refine Z5 Sol.func65 follows (by kernel_rfl) c65 rfl ?_;simp[-List.all_eq_true,-List.all_eq_false,p65];refine Z0 (Sx (h:=h) (n:=part)) (by simp[hpV]) ?_
 have hpt:([V.sl [],.sl (p.low.map obV),.sl (p.high.map obV),.sl (p.old.map obV),.sl (p.far.map obV)]:List V)[part]?=some (.sl ((p.at part).map obV)):=by
  have:part=1\/part=2\/part=3\/part=4:=by omega
  obtain rfl|rfl|rfl|rfl:=this<;>rfl
 have hlen:=hp.len part;have hob:=hp.ob part;unfold Xf;generalize hL:p.at part=L at*;simp[-List.all_eq_true,-List.all_eq_false];refine Xe 6 L.length (λi=>(L.take i).all (S9 h p part)=true) (by simp) (by simp) (by simp) ?_;intro i hi hall;have hwi:=Z4 ((i:Int)+1) (by omega) (by omega);by_cases hlt:i<L.length
 ·have hx:L[i]?=some L[i]:=Zh8 hlt;obtain⟨⟨⟨a,ha,hfit⟩,hsh⟩,_⟩:=hob _ (Zhi hlt);generalize L[i]=o at*;obtain⟨s1,s2,s3,s4⟩:=Zb.1 hsh;obtain⟨q,hq⟩:=Zhl s3;have hwa:=Z4 ((a:Int)+1) (by omega) (by omega);have hwq:=Z4 ((a:Int)+1+q) (by omega) (by omega)
  have hobp:S9 h p part o=(List.range q).all λj=>Wg h p part (a+1+j):=by
   unfold S9;rw[hq,ha];rfl
  simp[-List.all_eq_true,-List.all_eq_false,ptsV,hpt,hlt,hx,Zt hx,ha,hwa];refine ZO (λ(j:Nat)=>[(9,.v (vi ((a+1+j:Nat):Int)))]) (λj=>j<=q/\((List.range j).all λj=>Wg h p part (a+1+j))=true) (cnt 9 (a+1+q)) 0 (by simp) (by simp) ?_;rintro j ⟨hj,hal⟩;by_cases hjq:j<q
  ·have hwm:=Z4 (((a+1+j:Nat):Int)+1) (by omega) (by omega);have hlt2:((a+1+j:Nat):Int)< (a:Int)+1+q:=by omega
   obtain⟨w,hmw,hu⟩:∃w,(Zh h part)[a+1+j]?=some w/\U64 w:=⟨_,Zh8 (by omega),hw _ (Zhi _)⟩
   have hsucc:((List.range (j+1)).all λj=>Wg h p part (a+1+j))=(((List.range j).all λj=>Wg h p part (a+1+j))&&Wg h p part (a+1+j)):=by
    rw[Zjx,Zkj];simp
   have hex:Wg h p part (a+1+j)=false->L.all (S9 h p part)=false:=λhno=>Kz hx (by
    rw[hobp];exact Kz (Zkl hjq) hno)
   have hcnt:((j+1:Nat):Int)=(j:Int)+1:=by omega
   obtain⟨m,hm⟩:∃m,a+1+j=m:=⟨_,rfl⟩;rw[hm]at hwm hlt2 hmw hsucc hex⊢;have k1:=Z0p hh hp (w:=w) (one:=1) (two:=2) hu (.inl ⟨rfl,rfl⟩);have k2:=Z0p hh hp (w:=w) (one:=3) (two:=4) hu (.inr ⟨rfl,rfl⟩)
   have hpo:Wg h p part m=(if 2< (part:Int)then YG h p w 3 4 else if(part:Int)=1/\h.scan<=m then YG h p w 1 2||YG h p w 3 4 else YG h p w 1 2):=by
    unfold Wg;rw[hmw];rfl
   generalize YG h p w 1 2=b1 at*;generalize YG h p w 3 4=b2 at*;have hfin:∀(P:Prop),Wg h p part m=true->∃j',(j'<=q/\((List.range j').all λj=>Wg h p part (a+1+j))=true)/\(m:Int)+1=((a+1+j':Nat):Int):=λP hok=>⟨j+1,⟨by omega,by rw[hsucc,hal,hok];rfl⟩,by omega⟩;simp[-List.all_eq_true,-List.all_eq_false,hq,hwa,hwq,hlt2,hmw,Zt hmw];refine Z0 k1 (by simp[hpV,ptsV]) ?_;simp[-List.all_eq_true,-List.all_eq_false,hmw,Zt hmw];refine Z0 k2 (by simp[hpV,ptsV]) ?_;clear hsucc hal hobp;generalize L.all (S9 h p part)=R at hex⊢;generalize (λj=>Wg h p part (a+1+j))=F at hfin⊢;generalize Wg h p part m=v at hpo hex hfin;by_cases g1:2<part
   ·have g1':(2:Int)<part:=by omega
    have hv:v=(b2):=by rw[hpo];try simp[g1,g1']
    cases b1
    ·cases b2
     ·try simp at hv
      simp[-List.all_eq_true,-List.all_eq_false,g1,g1',hwm]
      first
      |exact hex hv
      | (obtain⟨j',h1,h2⟩:=hfin True hv
         exact⟨j',h1,by omega,by simp[cnt];omega⟩)
     ·try simp at hv
      simp[-List.all_eq_true,-List.all_eq_false,g1,g1',hwm]
      first
      |exact hex hv
      | (obtain⟨j',h1,h2⟩:=hfin True hv
         exact⟨j',h1,by omega,by simp[cnt];omega⟩)
    ·cases b2
     ·try simp at hv
      simp[-List.all_eq_true,-List.all_eq_false,g1,g1',hwm]
      first
      |exact hex hv
      | (obtain⟨j',h1,h2⟩:=hfin True hv
         exact⟨j',h1,by omega,by simp[cnt];omega⟩)
     ·try simp at hv
      simp[-List.all_eq_true,-List.all_eq_false,g1,g1',hwm]
      first
      |exact hex hv
      | (obtain⟨j',h1,h2⟩:=hfin True hv
         exact⟨j',h1,by omega,by simp[cnt];omega⟩)
   ·have g1':¬(2:Int)<part:=by omega
    by_cases g2:part=1
    ·by_cases g3:h.scan<=m
     ·subst g2;have hv:v=(b1||b2):=by rw[hpo];try simp[g3]
      cases b1
      ·cases b2
       ·try simp at hv
        simp[-List.all_eq_true,-List.all_eq_false,g3,hwm]
        first
        |exact hex hv
        | (obtain⟨j',h1,h2⟩:=hfin True hv
           exact⟨j',h1,by omega,by simp[cnt];omega⟩)
       ·try simp at hv
        simp[-List.all_eq_true,-List.all_eq_false,g3,hwm]
        first
        |exact hex hv
        | (obtain⟨j',h1,h2⟩:=hfin True hv
           exact⟨j',h1,by omega,by simp[cnt];omega⟩)
      ·cases b2
       ·try simp at hv
        simp[-List.all_eq_true,-List.all_eq_false,g3,hwm]
        first
        |exact hex hv
        | (obtain⟨j',h1,h2⟩:=hfin True hv
           exact⟨j',h1,by omega,by simp[cnt];omega⟩)
       ·try simp at hv
        simp[-List.all_eq_true,-List.all_eq_false,g3,hwm]
        first
        |exact hex hv
        | (obtain⟨j',h1,h2⟩:=hfin True hv
           exact⟨j',h1,by omega,by simp[cnt];omega⟩)
     ·subst g2;have hv:v=(b1):=by rw[hpo];try simp[g3]
      cases b1
      ·cases b2
       ·try simp at hv
        simp[-List.all_eq_true,-List.all_eq_false,g3,hwm]
        first
        |exact hex hv
        | (obtain⟨j',h1,h2⟩:=hfin True hv
           exact⟨j',h1,by omega,by simp[cnt];omega⟩)
       ·try simp at hv
        simp[-List.all_eq_true,-List.all_eq_false,g3,hwm]
        first
        |exact hex hv
        | (obtain⟨j',h1,h2⟩:=hfin True hv
           exact⟨j',h1,by omega,by simp[cnt];omega⟩)
      ·cases b2
       ·try simp at hv
        simp[-List.all_eq_true,-List.all_eq_false,g3,hwm]
        first
        |exact hex hv
        | (obtain⟨j',h1,h2⟩:=hfin True hv
           exact⟨j',h1,by omega,by simp[cnt];omega⟩)
       ·try simp at hv
        simp[-List.all_eq_true,-List.all_eq_false,g3,hwm]
        first
        |exact hex hv
        | (obtain⟨j',h1,h2⟩:=hfin True hv
           exact⟨j',h1,by omega,by simp[cnt];omega⟩)
    ·have g2':¬(part:Int)=1:=by omega
     have hv:v=(b1):=by rw[hpo];try simp[g1,g1',g2,g2']
     cases b1
     ·cases b2
      ·try simp at hv
       simp[-List.all_eq_true,-List.all_eq_false,g1,g1',g2,g2',hwm]
       first
       |exact hex hv
       | (obtain⟨j',h1,h2⟩:=hfin True hv
          exact⟨j',h1,by omega,by simp[cnt];omega⟩)
      ·try simp at hv
       simp[-List.all_eq_true,-List.all_eq_false,g1,g1',g2,g2',hwm]
       first
       |exact hex hv
       | (obtain⟨j',h1,h2⟩:=hfin True hv
          exact⟨j',h1,by omega,by simp[cnt];omega⟩)
     ·cases b2
      ·try simp at hv
       simp[-List.all_eq_true,-List.all_eq_false,g1,g1',g2,g2',hwm]
       first
       |exact hex hv
       | (obtain⟨j',h1,h2⟩:=hfin True hv
          exact⟨j',h1,by omega,by simp[cnt];omega⟩)
      ·try simp at hv
       simp[-List.all_eq_true,-List.all_eq_false,g1,g1',g2,g2',hwm]
       first
       |exact hex hv
       | (obtain⟨j',h1,h2⟩:=hfin True hv
          exact⟨j',h1,by omega,by simp[cnt];omega⟩)
  ·have:j=q:=by omega
   subst this;have hnl:¬(((a+1+j:Nat):Int)< (a:Int)+1+j):=by omega
   have hnext:(L.take (i+1)).all (S9 h p part)=true:=by rw[TB hx,hall,hobp,hal];rfl
   obtain⟨m,hm⟩:∃m,a+1+j=m:=⟨_,rfl⟩;rw[hm]at hnl⊢;simp[-List.all_eq_true,-List.all_eq_false,hq,hwa,hwq,hnl,hwi,hnext,hlt]
 ·have:i=L.length:=by omega
  subst this;rw[ZhS]at hall;simp[-List.all_eq_true,-List.all_eq_false,ptsV,hpt,hall]
def tgOk(h:Hp)(p:Pts)(o:Ob):Bool:=decide (jF p (ZA h 1 o.at_)=1)
def Sj(h:Hp)(p:Pts):Bool:=
 (!h.cycle||p.low.all (tgOk h p))&&h.roots.all (λw=>YG h p w 1 2)&&Xf h p 1&&Xf h p 2&&Xf h p 3&&Xf h p 4&&decide ((h.low.length:Int)+h.high.length+yf p<=h.cap)
def Yp(h:Hp):Bool:=numR h&&match ZT h with
 |none=>false
 |some p=>Sj h p
def Zu{h:Hp}(hh:h.ok)(k:Int):(∀w∈Zh h k,U64 w)/\(Zh h k).length<=1000000:=by
 unfold Zh;split
 ·exact⟨hh.lowW,hh.low⟩
 split
 ·exact⟨hh.highW,hh.high⟩
 split
 ·exact⟨hh.oldW,hh.old⟩
 ·exact⟨hh.farW,hh.far⟩
def Z9c{h:Hp}{p:Pts}(hp:p.ok h):yf p<=512*1000000:=by
 have h3:=VF (l:=p.at 3) λo ho=>(hp.ob 3 o ho).1.2;have h4:=VF (l:=p.at 4) λo ho=>(hp.ob 4 o ho).1.2;have l3:=hp.len 3;have l4:=hp.len 4;simp only[Pts.at3,Pts.at4]at h3 h4 l3 l4;unfold yf;omega
def Z1g{h:Hp}(hh:h.ok):VC Sol.prog 31 false [hpV h] (.bool (Yp h)):=by
 refine Z5 Sol.func31 follows (by kernel_rfl) c31 rfl ?_;simp[-List.all_eq_true,-List.all_eq_false,p31];refine Z0 (Z3U hh) (by simp[hpV]) ?_;cases hn:numR h
 ·simp[-List.all_eq_true,-List.all_eq_false,Yp,hn]
 simp[-List.all_eq_true,-List.all_eq_false];refine Z0 (zK hh) (by simp[hpV]) ?_;unfold Yp;rw[hn];cases hp:ZT h with
 |none=>simp[-List.all_eq_true,-List.all_eq_false,ptO]
 |some p=>
 have hpo:=zJ hh hp;have hl1:=hpo.len 1;simp only[Pts.at1]at hl1;simp only[Zk9];simp[-List.all_eq_true,-List.all_eq_false,ptO];unfold Sj;have hlow:=hh.low;have hroots:=hh.roots;refine Xe 7 p.low.length (λi=>0<i->h.cycle=true/\(p.low.take i).all (tgOk h p)=true) (by simp) (by simp) (by simp) ?_;intro i hi hinv;have hwi:=Z4 ((i:Int)+1) (by omega) (by omega);by_cases hgo:i<p.low.length/\h.cycle=true
 ·obtain⟨hlt,hc⟩:=hgo;have hx:p.low[i]?=some p.low[i]:=Zh8 hlt
  have hall:(p.low.take i).all (tgOk h p)=true:=by
   by_cases h0:0<i
   ·exact(hinv h0).2
   ·have:i=0:=by omega
    subst this;simp
  generalize p.low[i]=o at*;have k1:=Z2O hh (part:=1) (at_:=o.at_);have k2:=Z4t hpo (a:=ZA h 1 o.at_);simp[-List.all_eq_true,-List.all_eq_false,ptsV,idxV,hlt,hx,Zt hx,hc];unfold hpV at k1;rw[hc]at k1;refine Z0 k1 (by simp) ?_;simp[-List.all_eq_true,-List.all_eq_false];refine Z0 k2 (by simp) ?_;by_cases ht:jF p (ZA h 1 o.at_)=1
  ·have hok:tgOk h p o=true:=by simp[tgOk,ht]
   simp[-List.all_eq_true,-List.all_eq_false,ht,hwi,hlt];rw[TB hx,hall,hok];rfl
  ·have hno:tgOk h p o=false:=by simp[tgOk,ht]
   have ht':¬((jF p (ZA h 1 o.at_):Int)=1):=by omega
   have hno2:=Kz (q:=tgOk h p) hx hno;simp[-List.all_eq_true,-List.all_eq_false,ht',hno2,hc]
 ·have hcyc:(!h.cycle||p.low.all (tgOk h p))=true:=by
   cases hc:h.cycle
   ·rfl
   ·have hil:i=p.low.length:=by
     have:¬i<p.low.length:=λh1=>hgo ⟨h1,hc⟩;omega
    subst hil;by_cases h0:0<p.low.length
    ·have:=(hinv h0).2;rw[ZhS]at this;simpa using this
    ·have:p.low=[]:=by
      cases hpl:p.low with
      |nil=>rfl
      |cons a t=>rw[hpl]at h0;simp at h0
     rw[this];rfl
  rw[hcyc];by_cases hlt:i<p.low.length
  case' pos=>
   have hc:h.cycle=false:=by
    cases hc:h.cycle
    ·rfl
    ·exact(hgo ⟨hlt,hc⟩).elim
   simp[-List.all_eq_true,-List.all_eq_false,ptsV,idxV,hlt,hc]
  case' neg=>simp[-List.all_eq_true,-List.all_eq_false,ptsV,idxV,hlt]
  all_goals
   refine Xe 10 h.roots.length (λj=>(h.roots.take j).all (λw=>YG h p w 1 2)=true) (by simp) (by simp) (by simp) ?_;intro j hj hall;have hwj:=Z4 ((j:Int)+1) (by omega) (by omega);by_cases hjl:j<h.roots.length
   ·have hx:h.roots[j]?=some h.roots[j]:=Zh8 hjl;have hu:=hh.rootsW _ (Zhi hjl);generalize h.roots[j]=w at*;have k1:=Z0p hh hpo (w:=w) (one:=1) (two:=2) hu (.inl ⟨rfl,rfl⟩);unfold hpV ptsV at k1
    try rw[hc]at k1
    simp[-List.all_eq_true,-List.all_eq_false,hjl,hx,Zt hx];refine Z0 k1 (by simp) ?_;have hsucc:=TB (q:=λw=>YG h p w 1 2) hx;cases hg:YG h p w 1 2
    ·have:=Kz (q:=λw=>YG h p w 1 2) hx hg;simp[-List.all_eq_true,-List.all_eq_false,this]
    ·simp[-List.all_eq_true,-List.all_eq_false,hwj,hjl];rw[hsucc,hall,hg];rfl
   ·have:j=h.roots.length:=by omega
    subst this;rw[ZhS]at hall;rw[hall];simp[-List.all_eq_true,-List.all_eq_false];refine ZO (λ(k:Nat)=>[(13,.v (vi ((k+1:Nat):Int)))]) (λk=>k<=4/\(0<k->Xf h p 1=true)/\(1<k->Xf h p 2=true)/\(2<k->Xf h p 3=true)/\(3<k->Xf h p 4=true)) (cnt 13 5) 0 (by simp) (by simp) ?_;rintro k ⟨hk,i1,i2,i3,i4⟩;have hk':k=0\/k=1\/k=2\/k=3\/k=4:=by omega
    obtain rfl|rfl|rfl|rfl|rfl:=hk'
    ·have k2:=Vo hh hpo (part:=1) (by omega) (Zu hh _).1 (Zu hh _).2;unfold hpV ptsV at k2
     try rw[hc]at k2
     simp[-List.all_eq_true,-List.all_eq_false];refine Z0 k2 (by simp) ?_;cases hg:Xf h p 1
     ·simp[-List.all_eq_true,-List.all_eq_false,hg]
     ·simp[-List.all_eq_true,-List.all_eq_false,hg,Z4];exact⟨1,by simp[hg],by simp,by simp[cnt]⟩
    ·have k2:=Vo hh hpo (part:=2) (by omega) (Zu hh _).1 (Zu hh _).2;unfold hpV ptsV at k2
     try rw[hc]at k2
     simp[-List.all_eq_true,-List.all_eq_false];refine Z0 k2 (by simp) ?_;cases hg:Xf h p 2
     ·simp[-List.all_eq_true,-List.all_eq_false,hg,i1 (by omega)]
     ·simp[-List.all_eq_true,-List.all_eq_false,hg,Z4];exact⟨2,by simp[hg,i1 (by omega)],by simp,by simp[cnt]⟩
    ·have k2:=Vo hh hpo (part:=3) (by omega) (Zu hh _).1 (Zu hh _).2;unfold hpV ptsV at k2
     try rw[hc]at k2
     simp[-List.all_eq_true,-List.all_eq_false];refine Z0 k2 (by simp) ?_;cases hg:Xf h p 3
     ·simp[-List.all_eq_true,-List.all_eq_false,hg,i1 (by omega),i2 (by omega)]
     ·simp[-List.all_eq_true,-List.all_eq_false,hg,Z4];exact⟨3,by simp[hg,i1 (by omega),i2 (by omega)],by simp,by simp[cnt]⟩
    ·have k2:=Vo hh hpo (part:=4) (by omega) (Zu hh _).1 (Zu hh _).2;unfold hpV ptsV at k2
     try rw[hc]at k2
     simp[-List.all_eq_true,-List.all_eq_false];refine Z0 k2 (by simp) ?_;cases hg:Xf h p 4
     ·simp[-List.all_eq_true,-List.all_eq_false,hg,i1 (by omega),i2 (by omega),i3 (by omega)]
     ·simp[-List.all_eq_true,-List.all_eq_false,hg,Z4];exact⟨4,by simp[hg,i1 (by omega),i2 (by omega),i3 (by omega)],by simp,by simp[cnt]⟩
    ·have k3:=Z4z hpo;have hwl:=Z9c hpo;unfold ptsV at k3;simp[-List.all_eq_true,-List.all_eq_false,i1 (by omega),i2 (by omega),i3 (by omega),i4 (by omega)];refine Z0 k3 (by simp) ?_;have hhl:=hh.high;have w1:=Z4 ((h.low.length:Int)+h.high.length) (by omega) (by omega);have w2:=Z4 ((h.low.length:Int)+h.high.length+yf p) (by omega) (by omega);simp[-List.all_eq_true,-List.all_eq_false,w1,w2]
def Z1l{h:Hp}(hr:Yp h=true):∃p,ZT h=some p/\Sj h p=true/\numR h=true:=by
 unfold Yp at hr;simp only[Zhb]at hr;cases hp:ZT h with
 |none=>rw[hp]at hr;simp at hr
 |some p=>rw[hp]at hr;exact⟨p,rfl,hr.2,hr.1⟩
def Q3(h:Hp)(part:Int):List Ob×Int:=if Yp h=true/\1<=part/\part<=4 then(((ZT h).getD default).at part,0)else([],1)
end Vm
end
section
namespace Vm
open Go
open Go.Proofs
def p9:Fn:=⟨17,[0,1,2,3,4,8,9,10,35,20,41,45,49,53,62,71,23],
pQ [pR [(4,pS 0 10),(5,pZ)],pC [pK 17 26 [.s 1,pI 4]] [pV 6 (.bin .add (pI 1) (.s 17))],pC [pK 18 7 [.mm 4 0 10,.s 6]] [pV 7 (.app pN (.s 18) 1)],pQ [pC [pK 9 26 [.bin .quo (.s 1) (pI 4),pI 11]] []] (.block 0 (pQ [pR [pV 8 (.bin .eql (.s 9) (pI 0))]] (.cond (.s 8) (pR [(4,.m [.m 4 0,.m 4 1,.m 4 2,.un .not (.m 4 3),.m 4 4,.m 4 5,.m 4 6,.m 4 7,.m 4 8,.m 4 9])]) (pQ [pR [pV 10 (.bin .eql (.s 9) (pI 1))]] (.cond (.s 10) (pR [(4,.m [.m 4 0,.m 4 1,.m 4 2,.m 4 3,.one (.s 2),.m 4 5,.m 4 6,.m 4 7,.m 4 8,.m 4 9])]) (pQ [pR [pV 11 (.bin .eql (.s 9) (pI 2))]] (.cond (.s 11) (pR [(4,.m [.m 4 0,.one (.s 2),.m 4 2,.m 4 3,.m 4 4,.m 4 5,.m 4 6,.m 4 7,.m 4 8,.m 4 9])]) (pQ [pR [pV 12 (.bin .eql (.s 9) (pI 3))]] (.cond (.s 12) (pR [(4,.m [.m 4 0,.m 4 1,.one (.s 2),.m 4 3,.m 4 4,.m 4 5,.m 4 6,.m 4 7,.m 4 8,.m 4 9])]) (pQ [pR [pV 13 (.bin .eql (.s 9) (pI 4))]] (.cond (.s 13) (pR [(4,.m [.m 4 0,.m 4 1,.m 4 2,.m 4 3,.m 4 4,.m 4 5,.m 4 6,.m 4 7,.m 4 8,.app (.app pN (.m 4 9) 1) (.lit [.one (.s 3)]) 1])]) (pQ [pR [pV 14 (.bin .eql (.s 9) (pI 5))]] (.cond (.s 14) (pC [pK 19 6 [.mm 4 0 10,.s 6,.app (.s 7) (.lit [.one (.s 3)]) 1]] [(4,pS 19 10),(7,.no)]) (pQ [pR [pV 15 (.bin .eql (.s 9) (pI 6))]] (.cond (.s 15) (pC [pK 20 26 [.s 2,.bin .add (.len (.s 7)) (pI 1)],pK 21 6 [.mm 4 0 10,.s 6,.slc (.s 7) (pI 0) (.s 20) 1]] [(4,pS 21 10)]) (pQ [pR [pV 16 (.bin .gtr (.len (.s 7)) (pI 0))]] (.cond (.s 16) (pQ [.reg ⟨[pK 22 26 [.s 2,.len (.s 7)]],[([],.idx (.s 7) (.s 22) 1)],[pV 7 (.upd (.s 7) (.s 22) 0 (.one (.s 3)))]⟩] (pC [pK 23 6 [.mm 4 0 10,.s 6,.s 7]] [(4,pS 23 10)])) .skip))))))))))))))))),pR [(5,pM (.mm 4 0 10) 10)]] .ret,[(5,(.ag 10))]⟩
def c9:Za Sol.prog fresh sig [.fz,.fz,.fz,.fz] [] Tryz.f9=some p9:=by kernel_rfl
end Vm
end
section
namespace Vm
open Go Go.Proofs
theorem WV{h:Hp}{k:Int}(hk:1<=k/\k<=4):sizL (layH h) k=(Zh h k).length:=by
 have:k=1\/k=2\/k=3\/k=4:=by omega
 obtain rfl|rfl|rfl|rfl:=this<;>rfl
def Hp.zero:Hp:=⟨0,0,0,false,0,[],[],[],[],[]⟩
end Vm
namespace Vm
open Go Go.Proofs
@[simp]def ZgN(k:IntKind)(a b c d e f:Int):aiV (.agg [.int k a,.int k b,.int k c,.int k d,.int k e,.int k f]) (.int .i64 0) 6 1 false=some (.int k a):=rfl
@[simp]def Zgp(a b c d e f:Bool):aiV (.agg [.bool a,.bool b,.bool c,.bool d,.bool e,.bool f]) (.int .i64 0) 6 1 false=some (.bool a):=rfl
@[simp]def ZgO(k:IntKind)(a b c d e f:Int):aiV (.agg [.int k a,.int k b,.int k c,.int k d,.int k e,.int k f]) (.int .i64 1) 6 1 false=some (.int k b):=rfl
@[simp]def Zgq(a b c d e f:Bool):aiV (.agg [.bool a,.bool b,.bool c,.bool d,.bool e,.bool f]) (.int .i64 1) 6 1 false=some (.bool b):=rfl
@[simp]def ZgP(k:IntKind)(a b c d e f:Int):aiV (.agg [.int k a,.int k b,.int k c,.int k d,.int k e,.int k f]) (.int .i64 2) 6 1 false=some (.int k c):=rfl
@[simp]def Zgr(a b c d e f:Bool):aiV (.agg [.bool a,.bool b,.bool c,.bool d,.bool e,.bool f]) (.int .i64 2) 6 1 false=some (.bool c):=rfl
@[simp]def ZgQ(k:IntKind)(a b c d e f:Int):aiV (.agg [.int k a,.int k b,.int k c,.int k d,.int k e,.int k f]) (.int .i64 3) 6 1 false=some (.int k d):=rfl
@[simp]def Zgs(a b c d e f:Bool):aiV (.agg [.bool a,.bool b,.bool c,.bool d,.bool e,.bool f]) (.int .i64 3) 6 1 false=some (.bool d):=rfl
@[simp]def ZgR(k:IntKind)(a b c d e f:Int):aiV (.agg [.int k a,.int k b,.int k c,.int k d,.int k e,.int k f]) (.int .i64 4) 6 1 false=some (.int k e):=rfl
@[simp]def Zgt(a b c d e f:Bool):aiV (.agg [.bool a,.bool b,.bool c,.bool d,.bool e,.bool f]) (.int .i64 4) 6 1 false=some (.bool e):=rfl
@[simp]def ZgS(k:IntKind)(a b c d e f:Int):aiV (.agg [.int k a,.int k b,.int k c,.int k d,.int k e,.int k f]) (.int .i64 5) 6 1 false=some (.int k f):=rfl
@[simp]def Zgu(a b c d e f:Bool):aiV (.agg [.bool a,.bool b,.bool c,.bool d,.bool e,.bool f]) (.int .i64 5) 6 1 false=some (.bool f):=rfl
end Vm
namespace Vm
open Go Go.Proofs
def LC(h:Hp)(which x w:Int):Hp:=
 if pick (which.tdiv 4) 11=0 then {h with cycle:= !h.cycle}
 else if pick (which.tdiv 4) 11=1 then {h with scan:=x}
 else if pick (which.tdiv 4) 11=2 then {h with cap:=x}
 else if pick (which.tdiv 4) 11=3 then {h with to:=x}
 else if pick (which.tdiv 4) 11=4 then {h with roots:=h.roots++[w]}
 else if pick (which.tdiv 4) 11=5 then Xg h (1+pick which 4) (Zh h (1+pick which 4)++[w])
 else if pick (which.tdiv 4) 11=6 then Xg h (1+pick which 4) ((Zh h (1+pick which 4)).take (pick x ((Zh h (1+pick which 4)).length+1)).toNat)
 else if Zh h (1+pick which 4)=[]then h
 else Xg h (1+pick which 4) ((Zh h (1+pick which 4)).set (pick x (Zh h (1+pick which 4)).length).toNat w)
theorem Z9d{h:Hp}(hh:h.ok){k:Int}{l:List Int}(h1:l.length<=1000000)(h2:∀w∈l,U64 w):(Xg h k l).ok:=by
 obtain⟨a1,a2,a3,a4,a5,a6,a7,a8,a9,b1,b2,b3,b4,b5⟩:=hh;unfold Xg;split
 ·exact⟨a1,a2,a3,a4,h1,a6,a7,a8,a9,h2,b2,b3,b4,b5⟩
 split
 ·exact⟨a1,a2,a3,a4,a5,h1,a7,a8,a9,b1,h2,b3,b4,b5⟩
 split
 ·exact⟨a1,a2,a3,a4,a5,a6,h1,a8,a9,b1,b2,h2,b4,b5⟩
 ·exact⟨a1,a2,a3,a4,a5,a6,a7,h1,a9,b1,b2,b3,h2,b5⟩
def Z7l{h:Hp}(hh:h.ok)(hs:∀k,(Zh h k).length<=999999)(hro:h.roots.length<=999999){which x w:Int}(hx:Fit x)(hw:U64 w):(LC h which x w).ok:=by
 have hp:=Zu hh (1+pick which 4);have hs:=hs (1+pick which 4);have hho:=hh;obtain⟨a1,a2,a3,a4,a5,a6,a7,a8,a9,b1,b2,b3,b4,b5⟩:=hh;unfold LC;split
 ·exact⟨a1,a2,a3,a4,a5,a6,a7,a8,a9,b1,b2,b3,b4,b5⟩
 split
 ·exact⟨a1,a2,a3,hx,a5,a6,a7,a8,a9,b1,b2,b3,b4,b5⟩
 split
 ·exact⟨a1,hx,a3,a4,a5,a6,a7,a8,a9,b1,b2,b3,b4,b5⟩
 split
 ·exact⟨a1,a2,hx,a4,a5,a6,a7,a8,a9,b1,b2,b3,b4,b5⟩
 split
 ·refine⟨a1,a2,a3,a4,a5,a6,a7,a8,by simp;omega,b1,b2,b3,b4,?_⟩
  grind
 grind [Z9d,List.mem_of_mem_take,List.mem_or_eq_of_mem_set]
def Z7j{c:Int}(h:Fit c):Fit (c.tdiv 4):=by
 unfold Fit at*
 grind
def Z4H{h:Hp}(hh:h.ok){which x w:Int}(hwh:Fit which)(hx:Fit x):VC Sol.prog 9 false [hpV h,vi which,vi x,vu w] (hpV (LC h which x w)):=by
 refine Z5 Sol.func9 follows (by kernel_rfl) c9 rfl ?_;have hpk:=W8 (c:=which) (n:=4) (by omega)
 have hq:Fit (which.tdiv 4):=by
  exact Z7j hwh
 have hpl:=(Zu hh (1+pick which 4)).2;unfold LC;simp[p9];refine Z0 (X6 hwh (n:=4) (by omega)) (by simp) ?_;have w1:=Z4 (1+pick which 4) (by omega) (by omega);have w2:=Z4 (which.tdiv 4) (by simp_all[Fit]) (by simp_all[Fit]);simp[w1];refine Z0 (Sx (h:=h) (n:=1+pick which 4)) (by simp[hpV]) ?_;have k5:=λl=>LH (h:=h) (n:=1+pick which 4) (l:=l);generalize Zh h (1+pick which 4)=l at*;generalize 1+pick which 4=part at*;have hlim:l.length+1<=lim:=by unfold lim;omega
 have hlim':l.length<=lim:=by unfold lim;omega
 have hrl:h.roots.length+1<=lim:=by have:=hh.roots;unfold lim;omega
 have hrl':h.roots.length<=lim:=by omega
 simp[hlim',w2];refine Z0 (X6 hq (n:=11) (by omega)) (by simp) ?_;generalize pick (which.tdiv 4) 11=q at*;unfold hpV at k5;by_cases h0:q=0
 ·simp[h0,hpV]
 by_cases h1:q=1
 ·simp[h1,hpV]
 by_cases h2:q=2
 ·simp[h2,hpV]
 by_cases h3:q=3
 ·simp[h3,hpV]
 by_cases h4:q=4
 ·simp[h4,hpV,hrl,hrl']
 by_cases h5:q=5
 ·have k6:=k5 (l++[w]);simp at k6;simp[h5,hlim];refine Z0 k6 (by simp) ?_;simp[hpV]
 by_cases h6:q=6
 ·have hpp:=W8 (c:=x) (n:=(l.length:Int)+1) (by omega);have w3:=Z4 ((l.length:Int)+1) (by omega) (by omega);simp[h6,w3];refine Z0 (X6 hx (n:=(l.length:Int)+1) (by omega)) (by simp) ?_;obtain⟨m,hm⟩:=Zhl hpp.1;rw[hm]at hpp⊢;have k6:=k5 (l.take m);simp at k6;simp[show m<=l.length by omega];refine Z0 k6 (by simp) ?_;simp[hpV]
 simp[h0,h1,h2,h3,h4,h5,h6];by_cases h7:l=[]
 ·simp[h7,hpV]
 ·have hpos:0<l.length:=ZjM.2 h7;have hpp:=W8 (c:=x) (n:=(l.length:Int)) (by omega);simp[h7,hpos];refine Z0 (X6 hx (n:=(l.length:Int)) (by omega)) (by simp) ?_;obtain⟨m,hm⟩:=Zhl hpp.1;rw[hm]at hpp⊢;have k6:=k5 (l.set m w);simp at k6;simp[show m<l.length by omega];refine Z0 k6 (by simp) ?_;simp[hpV]
end Vm
end
section
namespace Vm
open Go Go.Proofs
def yb{n:Nat}{x:V}(h:tyV Tryz.prog (n+1) 3 x):∃m,x=vi m/\Fit m:=by
 obtain⟨m,rfl,h1,h2⟩:=Z9S Tryz.underlying3 h;exact⟨m,rfl,h1,h2⟩
def Z95{n:Nat}{x:V}(h:tyV Tryz.prog (n+1) 22 x):∃m,x=vu m/\U64 m:=by
 obtain⟨m,rfl,h1,h2⟩:=Z9S Tryz.underlying22 h;exact⟨m,rfl,h1,Int.lt_of_le_of_lt h2 (by decide)⟩
def Z7m{n:Nat}{x:V}(h:tyV Tryz.prog (n+2) 27 x):∃l:List Int,x=.sl (l.map vi)/\l.length<=maxLen/\∀p∈l,Fit p:=
 ya Tryz.underlying27 h λy hy=>yb hy
def LD{n:Nat}{x:V}(h:tyV Tryz.prog (n+2) 23 x):∃l:List Int,x=.sl (l.map vu)/\l.length<=maxLen/\∀p∈l,U64 p:=
 ya Tryz.underlying23 h λy hy=>Z95 hy
def Nd.fits(x:Nd):Prop:=(x.ptrs.length<=maxLen/\∀p∈x.ptrs,Fit p)/\x.data.length<=maxLen/\∀p∈x.data,U64 p
def Zei{n:Nat}{x:V}(h:tyV Tryz.prog (n+3) 153 x):∃a:Nd,x=ndV a/\a.fits:=by
 obtain⟨ys,rfl,hl,hf⟩:=K3 Tryz.underlying153 h
 match ys,hl with
 | [a,b],_=>
   obtain⟨ps,rfl,h1,h2⟩:=Z7m (hf 0 _ a rfl rfl);obtain⟨ds,rfl,h3,h4⟩:=LD (hf 1 _ b rfl rfl);exact⟨⟨ps,ds⟩,rfl,⟨h1,h2⟩,h3,h4⟩
def Zbp{n:Nat}{x:V}(h:tyV Tryz.prog (n+4) 26 x):∃l:List Nd,x=.sl (l.map ndV)/\l.length<=maxLen/\∀a∈l,a.fits:=
 ya Tryz.underlying26 h λy hy=>Zei hy
def Zgd{n:Nat}{x:V}(h:tyV Tryz.prog (n+5) 29 x):∃r:Rw,x=rwV r/\r.ok:=by
 obtain⟨ys,rfl,hl,hf⟩:=K3 Tryz.underlying29 h
 match ys,hl with
 | [a,b,c,d,e,f,g],_=>
   obtain⟨ns,rfl,_,h0⟩:=Zbp (hf 0 _ a rfl rfl);obtain⟨rs,rfl,_,h1⟩:=Z7m (hf 1 _ b rfl rfl);obtain⟨cs,rfl,_,h2⟩:=Z7m (hf 2 _ c rfl rfl);obtain⟨d,rfl,h3⟩:=Z95 (hf 3 _ d rfl rfl);obtain⟨e,rfl,h4⟩:=yb (hf 4 _ e rfl rfl);obtain⟨f,rfl,h5⟩:=yb (hf 5 _ f rfl rfl);obtain⟨g,rfl,h6⟩:=yb (hf 6 _ g rfl rfl);exact⟨⟨ns,rs,cs,d,e,f,g⟩,rfl,λn hn p hp=>(h0 n hn).1.2 p hp,λn hn p hp=>(h0 n hn).2.2 p hp,h1,h2,h3,h4,h5,h6⟩
def own:ownKnob Tryz.prog.godebug=none:=by kernel_rfl
def laidOut:laidOutB Tryz.prog=true:=by kernel_rfl
def Hp.zero_ok:Hp.zero.ok:=by
 refine⟨?_,?_,?_,?_,?_,?_,?_,?_,?_,?_,?_,?_,?_,?_⟩<;>simp[Hp.zero,U64,Fit]
def Z84{x:Rw}(hx:x.ok):(qg x).ok/\Zl (layH (qg x))=true/\(qg x).roots.length<=5:=by
 have key:∀c,(Tb x (WX x c)).ok/\Zl (layH (Tb x (WX x c)))=true/\(Tb x (WX x c)).roots.length<=5:=λc=>by
  obtain⟨h1,h2,h3⟩:=y5 hx c;obtain⟨k1,k2,_,_⟩:=Z7X (x:=x) h1 h2;refine⟨k1,by rw[k2];exact h3,?_⟩;simp only[Tb,Zi1];exact h1.rl
 unfold qg Z7i;split
 ·exact key false
 ·exact key true
def Z6S{h:Hp}(hr:Zl (layH h)=true)(k:Int):(Zh h k).length<=4096:=by
 have:=Yr.1 hr;have q1:(layH h).low=h.low.length:=rfl;have q2:(layH h).high=h.high.length:=rfl;have q3:(layH h).old=h.old.length:=rfl;have q4:(layH h).far=h.far.length:=rfl;unfold Zh;split
 ·omega
 split
 ·omega
 split<;>omega
end Vm
end
section
namespace Vm
open Go
open Go.Proofs
def p19:Fn:=⟨5,[0,1,2,3,4],
pQ [pR [(1,pS 0 10),pV 2 pF],pC [pK 5 50 [.mm 1 0 10]] [pV 3 (.ext (.s 5) 0),pV 4 (.ext (.s 5) 1)],pR [pV 2 (.s 4)]] .ret,[(2,.v)]⟩
def c19:Za Sol.prog fresh sig [.fz] [] Tryz.f19=some p19:=by kernel_rfl
def p50:Fn:=⟨12,[0,1,2,3,13,4,16,15,17,6,14,24],
pQ [pR [(1,pS 0 10),pV 2 (.c (.nul 0)),pV 3 pF],.reg ⟨[pK 12 42 [.mm 1 0 10]],[([],.ag [.fld (.mm 1 0 10) 0,.fld (.mm 1 0 10) 1,.fld (.mm 1 0 10) 2,.fld (.mm 1 0 10) 3,.fld (.mm 1 0 10) 4,.fld (.mm 1 0 10) 5,.fld (.mm 1 0 10) 6,.fld (.mm 1 0 10) 7,.fld (.mm 1 0 10) 8,.fld (.mm 1 0 10) 9,.fld (.sz (.s 12) 7) 0,.fld (.sz (.s 12) 7) 1,.fld (.sz (.s 12) 7) 2,.fld (.sz (.s 12) 7) 3,.fld (.sz (.s 12) 7) 4,.fld (.sz (.s 12) 7) 5,.fld (.sz (.s 12) 7) 6,pN,pN,pN,pN,.c (.mp 0 [] []),.c (.mp 0 [] [])])],[(5,.m [.fld (.mm 1 0 10) 0,.fld (.mm 1 0 10) 1,.fld (.mm 1 0 10) 2,.fld (.mm 1 0 10) 3,.fld (.mm 1 0 10) 4,.fld (.mm 1 0 10) 5,.fld (.mm 1 0 10) 6,.fld (.mm 1 0 10) 7,.fld (.mm 1 0 10) 8,.fld (.mm 1 0 10) 9,.fld (.sz (.s 12) 7) 0,.fld (.sz (.s 12) 7) 1,.fld (.sz (.s 12) 7) 2,.fld (.sz (.s 12) 7) 3,.fld (.sz (.s 12) 7) 4,.fld (.sz (.s 12) 7) 5,.fld (.sz (.s 12) 7) 6,pN,pN,pN,pN,.c (.mp 0 [] []),.c (.mp 0 [] [])])]⟩,pQ [pC [pK 10 80 []] [pV 6 (pI 0),pV 7 (.len (.s 10))]] (.block 0 (.loop [0,1,2,3,5,6,7,10] (pQ [pR [pV 8 (.bin .lss (.s 6) (.s 7))],.cond (.s 8) .skip (.exit 0),.block 1 (pQ [pR [(9,.m [.fld (.flds (.idx (.s 10) (.s 6) 1) 0 1) 0])],pC [.callm 13 [] (.e (.m 9 0)) [.mem [.fz,.fz,.fz,.fz,.fz,.fz,.fz,.fz,.fz,.fz,.fz,.fz,.fz,.fz,.fz,.fz,.fz,.fz,.fz,.fz,.fz,.own 63,.own 144]] [.ag [.m 5 0,.m 5 1,.m 5 2,.m 5 3,.m 5 4,.m 5 5,.m 5 6,.m 5 7,.m 5 8,.m 5 9,.m 5 10,.m 5 11,.m 5 12,.m 5 13,.m 5 14,.m 5 15,.m 5 16,.m 5 17,.m 5 18,.m 5 19,.m 5 20,.m 5 21,.m 5 22]]] [(5,pM (.ext (.s 13) 1) 23),pV 11 (.un .not (.ext (.s 13) 0))]] (.cond (.s 11) (pQ [pR [pV 2 (.c (.nul 0)),pV 3 pF]] .ret) .skip))] (pR [pV 6 (.bin .add (.s 6) (pI 1))])))),pR [pV 2 (.pt none [.m 5 0,.m 5 1,.m 5 2,.m 5 3,.m 5 4,.m 5 5,.m 5 6,.m 5 7,.m 5 8,.m 5 9,.m 5 10,.m 5 11,.m 5 12,.m 5 13,.m 5 14,.m 5 15,.m 5 16,.m 5 17,.m 5 18,.m 5 19,.m 5 20,.m 5 21,.m 5 22]),pV 3 pT,(5,.no)]] .ret,[(2,.v),(3,.v)]⟩
def c50:Za Sol.prog fresh sig [.fz] [] Tryz.f50=some p50:=by kernel_rfl
def p51:Fn:=⟨11,[0,2,3,4,8,19,18,20,6,17,25],
pQ [pR [pV 1 (pI 0)],pR [pV 2 (pI 0)],pQ [pR [pV 3 (pI 3)]] (.block 0 (.loop [0,1,2,3] (pQ [pQ [pR [pV 4 (.bin .leq (.s 3) (pI 4))]] (.cond (.s 4) .skip (.exit 0)),.block 1 (pQ [pR [pV 5 (pI 0),pV 6 (.len (.fld (.ai (.flds (.star (.s 0)) 17 4) (.bin .sub (.s 3) (pI 1)) 4 1 true) 0)),pV 9 (.fld (.ai (.flds (.star (.s 0)) 17 4) (.bin .sub (.s 3) (pI 1)) 4 1 true) 0)]] (.block 2 (.loop [0,1,2,3,4,5,6,9] (pQ [pR [pV 7 (.bin .lss (.s 5) (.s 6))],.cond (.s 7) .skip (.exit 2),.block 3 (pQ [pR [(8,pM (.flds (.idx (.s 9) (.s 5) 5) 0 5) 5)],pR [pV 10 (.un .not (.m 8 3))]] (.cond (.s 10) (pR [pV 2 (.bin .add (.s 2) (.bin .add (pI 1) (.m 8 1)))]) .skip))] (pR [pV 5 (.bin .add (.s 5) (pI 1))])))))] (pR [pV 3 (.bin .add (.s 3) (pI 1))])))),pR [pV 1 (.s 2)]] .ret,[(1,.v)]⟩
def c51:Za Sol.prog fresh sig [.fz] [] Tryz.f51=some p51:=by kernel_rfl
def p56:Fn:=⟨8,[0,1,2,4,5,6,7,22],
pQ [pR [(2,pS 0 10),pV 3 pN,pV 4 (pI 0)],pC [pK 8 50 [.mm 2 0 10]] [pV 5 (.ext (.s 8) 0),pV 6 (.ext (.s 8) 1)],pQ [.reg ⟨[.lt 9 [] (.un .not (.s 6)),.lt 10 [] (.ite (.s 9) pT (.bin .lss (.s 1) (pI 1)))],[([(9,false)],.bin .lss (.s 1) (pI 1)),([(10,false)],.bin .gtr (.s 1) (pI 4))],[pV 7 (.ite (.s 10) pT (.bin .gtr (.s 1) (pI 4)))]⟩] (.cond (.s 7) (pQ [pR [pV 4 (pI 1)]] .ret) .skip),pR [pV 3 (.fld (.ai (.flds (.star (.s 5)) 17 4) (.bin .sub (.s 1) (pI 1)) 4 1 true) 0),pV 4 (pI 0)]] .ret,[(3,.v),(4,.v)]⟩
def c56:Za Sol.prog fresh sig [.fz,.fz] [] Tryz.f56=some p56:=by kernel_rfl
def p80:Fn:=⟨1,[0],
pQ [pR [pV 0 pN],pR [pV 0 (.lit [.ag [.c (.fn 96)],.ag [.c (.fn 97)],.ag [.c (.fn 98)],.ag [.c (.fn 99)],.ag [.c (.fn 100)],.ag [.c (.fn 101)],.ag [.c (.fn 102)],.ag [.c (.fn 103)]])]] .ret,[(0,.v)]⟩
def c80:Za Sol.prog fresh sig [] [] Tryz.f80=some p80:=by kernel_rfl
def p96:Fn:=⟨2,[0,2],
pQ [pR [pV 1 pF],.reg ⟨[pK 2 43 [.flds (.star (.s 0)) 10 7],.lt 3 [] (.s 2),.lt 4 [] (.ite (.s 3) (.bin .leq (.len (.fld (.star (.s 0)) 9)) (pI 16)) pF),.lt 5 [] (.ite (.s 4) (.bin .geq (.fld (.star (.s 0)) 4) (pI 0)) pF)],[([(3,true)],.bin .leq (.len (.fld (.star (.s 0)) 9)) (pI 16)),([(4,true)],.bin .geq (.fld (.star (.s 0)) 4) (pI 0)),([(5,true)],.bin .leq (.fld (.star (.s 0)) 4) (.len (.fld (.star (.s 0)) 5)))],[pV 1 (.ite (.s 5) (.bin .leq (.fld (.star (.s 0)) 4) (.len (.fld (.star (.s 0)) 5))) pF)]⟩] .ret,[(1,.v)]⟩
def c96:Za Sol.prog fresh sig [.fz] [] Tryz.f96=some p96:=by kernel_rfl
def p97:Fn:=⟨3,[0,2,7],
pQ [pR [pV 1 pF],pQ [pR [pV 2 (.fld (.star (.s 0)) 3)]] (.cond (.s 2) (pQ [pR [pV 1 (.bin .lss (.fld (.star (.s 0)) 4) (.len (.fld (.star (.s 0)) 5)))]] .ret) .skip),.reg ⟨[.lt 3 [] (.bin .eql (.len (.fld (.star (.s 0)) 7)) (pI 0)),.lt 4 [] (.ite (.s 3) (.bin .eql (.len (.fld (.star (.s 0)) 8)) (pI 0)) pF)],[([(3,true)],.bin .eql (.len (.fld (.star (.s 0)) 8)) (pI 0)),([(4,true)],.bin .eql (.fld (.star (.s 0)) 4) (.len (.fld (.star (.s 0)) 5)))],[pV 1 (.ite (.s 4) (.bin .eql (.fld (.star (.s 0)) 4) (.len (.fld (.star (.s 0)) 5))) pF)]⟩] .ret,[(1,.v)]⟩
def c97:Za Sol.prog fresh sig [.fz] [] Tryz.f97=some p97:=by kernel_rfl
def p98:Fn:=⟨11,[0,2,3,8,9,4,5,6,7,18,39],
pQ [pR [pV 1 pF],pR [pV 2 pT],.skip,pQ [pR [pV 3 (pI 0)]] (.block 0 (.loop [0,1,2,3] (pQ [pR [pV 4 (.bin .lss (.s 3) (pI 4))],.cond (.s 4) .skip (.exit 0),.block 1 (pQ [pR [pV 5 (.s 3)],pR [pV 6 (.bin .add (.s 5) (pI 1))],pR [pV 7 pN],pR [pV 8 (pI 0)],pQ [.reg ⟨[.lt 11 [] (.bin .eql (.s 6) (pI 1))],[([(11,false)],.bin .eql (.s 6) (pI 2))],[pV 9 (.ite (.s 11) pT (.bin .eql (.s 6) (pI 2)))]⟩] (.cond (.s 9) (pC [pK 12 109 [.pt none [.m 0 0,.m 0 1,.m 0 2,.m 0 3,.m 0 4,.m 0 5,.m 0 6,.m 0 7,.m 0 8,.m 0 9,.m 0 10,.m 0 11,.m 0 12,.m 0 13,.m 0 14,.m 0 15,.m 0 16,.m 0 17,.m 0 18,.m 0 19,.m 0 20,.m 0 21,.m 0 22],.s 6],.call 13 [] (.id 108) true false [.s 12]] [pV 7 (.ext (.s 13) 0),pV 8 (.ext (.s 13) 1)]) (pC [pK 14 109 [.pt none [.m 0 0,.m 0 1,.m 0 2,.m 0 3,.m 0 4,.m 0 5,.m 0 6,.m 0 7,.m 0 8,.m 0 9,.m 0 10,.m 0 11,.m 0 12,.m 0 13,.m 0 14,.m 0 15,.m 0 16,.m 0 17,.m 0 18,.m 0 19,.m 0 20,.m 0 21,.m 0 22],.s 6],pK 15 109 [.pt none [.m 0 0,.m 0 1,.m 0 2,.m 0 3,.m 0 4,.m 0 5,.m 0 6,.m 0 7,.m 0 8,.m 0 9,.m 0 10,.m 0 11,.m 0 12,.m 0 13,.m 0 14,.m 0 15,.m 0 16,.m 0 17,.m 0 18,.m 0 19,.m 0 20,.m 0 21,.m 0 22],.s 6],pK 16 111 [.pt none [.m 0 0,.m 0 1,.m 0 2,.m 0 3,.m 0 4,.m 0 5,.m 0 6,.m 0 7,.m 0 8,.m 0 9,.m 0 10,.m 0 11,.m 0 12,.m 0 13,.m 0 14,.m 0 15,.m 0 16,.m 0 17,.m 0 18,.m 0 19,.m 0 20,.m 0 21,.m 0 22],.s 15],.call 17 [] (.id 110) true false [.s 14,.s 16]] [pV 7 (.ext (.s 17) 0),pV 8 (.ext (.s 17) 1)])),pQ [pR [pV 10 (.bin .neq (.s 8) (pI 0))]] (.cond (.s 10) (pQ [pR [pV 2 pF]] (.exit 0)) .skip)] (pC [.callm 18 [] (.id 112) [.mem [.fz,.fz,.fz,.fz,.fz,.fz,.fz,.fz,.fz,.fz,.fz,.fz,.fz,.fz,.fz,.fz,.fz,.fz,.fz,.fz,.fz,.own 63,.own 144],.fz,.fz] [.ag [.m 0 0,.m 0 1,.m 0 2,.m 0 3,.m 0 4,.m 0 5,.m 0 6,.m 0 7,.m 0 8,.m 0 9,.m 0 10,.m 0 11,.m 0 12,.m 0 13,.m 0 14,.m 0 15,.m 0 16,.m 0 17,.m 0 18,.m 0 19,.m 0 20,.m 0 21,.m 0 22],.s 6,.s 7]] [(0,pM (.ext (.s 18) 1) 23)]))] (pR [pV 3 (.bin .add (.s 3) (pI 1))])))),pR [pV 1 (.s 2)]] .ret,[(1,.v)]⟩
def c98:Za Sol.prog fresh sig [(.mem [.fz,.fz,.fz,.fz,.fz,.fz,.fz,.fz,.fz,.fz,.fz,.fz,.fz,.fz,.fz,.fz,.fz,.fz,.fz,.fz,.fz,(.own 63),(.own 144)])] [(0,(.mem [.fz,.fz,.fz,.fz,.fz,.fz,.fz,.fz,.fz,.fz,.fz,.fz,.fz,.fz,.fz,.fz,.fz,.fz,.fz,.fz,.fz,(.own 63),(.own 144)]))] Tryz.f98=some p98:=by kernel_rfl
def p99:Fn:=⟨13,[0,2,12,3,4,15,26,25,27,6,24,32,46],
pQ [pR [pV 1 pF],pQ [pR [pV 2 (.un .not (.fld (.star (.s 0)) 3))]] (.cond (.s 2) (pQ [pR [pV 1 pT]] .ret) .skip),pR [pV 3 (.c (.mp 0 [] []))],pQ [pR [pV 4 (pI 3)]] (.block 0 (.loop [0,1,2,3,4] (pQ [pQ [pR [pV 5 (.bin .leq (.s 4) (pI 4))]] (.cond (.s 5) .skip (.exit 0)),.block 1 (pQ [pR [pV 6 (pI 0),pV 7 (.len (.fld (.ai (.flds (.star (.s 0)) 17 4) (.bin .sub (.s 4) (pI 1)) 4 1 true) 0)),pV 10 (.fld (.ai (.flds (.star (.s 0)) 17 4) (.bin .sub (.s 4) (pI 1)) 4 1 true) 0)]] (.block 2 (.loop [0,1,2,3,4,5,6,7,10] (pQ [pR [pV 8 (.bin .lss (.s 6) (.s 7))],.cond (.s 8) .skip (.exit 2),.block 3 (pQ [pR [(9,pM (.flds (.idx (.s 10) (.s 6) 5) 0 5) 5)],pQ [pR [pV 11 (.un .not (.m 9 3))]] (.cond (.s 11) (.exit 3) .skip),pQ [.reg ⟨[.lt 13 [] (.bin .neq (.lk (.i .u64) (.fld (.star (.s 0)) 21) (.m 9 4) (.int .i64 0) false) (pI 1))],[([(13,false)],.fl (.lk (.i .u64) (.s 3) (.m 9 4) (.bool false) false))],[pV 12 (.ite (.s 13) pT (.fl (.lk (.i .u64) (.s 3) (.m 9 4) (.bool false) false)))]⟩] (.cond (.s 12) (pQ [pR [pV 1 pF]] .ret) .skip)] (pR [pV 3 (.mput (.i .u64) (.s 3) (.m 9 4) pT)]))] (pR [pV 6 (.bin .add (.s 6) (pI 1))])))))] (pR [pV 4 (.bin .add (.s 4) (pI 1))])))),pR [pV 1 (.bin .eql (.mlen (.s 3)) (.len (.fld (.ai (.flds (.star (.s 0)) 17 4) (pI 0) 4 1 true) 0)))]] .ret,[(1,.v)]⟩
def c99:Za Sol.prog fresh sig [.fz] [] Tryz.f99=some p99:=by kernel_rfl
def p100:Fn:=⟨9,[0,1,2,11,10,12,4,9,18],
pQ [pR [(1,.m [.one (.s 0)]),pV 2 pF],pQ [pR [pV 3 (pI 0),pV 4 (.len (.fld (.star (.m 1 0)) 9)),pV 7 (.fld (.star (.m 1 0)) 9)]] (.block 0 (.loop [0,1,2,3,4,7] (pQ [pR [pV 5 (.bin .lss (.s 3) (.s 4))],.cond (.s 5) .skip (.exit 0),.block 1 (pQ [pR [pV 6 (.fld (.idx (.s 7) (.s 3) 1) 0)],pC [pK 9 113 [.m 1 0,.s 6,pI 1,pI 2]] [pV 8 (.un .not (.s 9))]] (.cond (.s 8) (pQ [pR [pV 2 pF]] .ret) .skip))] (pR [pV 3 (.bin .add (.s 3) (pI 1))])))),pC [.call 10 [] (.id 114) false true [.m 1 0,pI 2,.pt (some 115) [.pt none [.m 1 0]]],.lt 11 [] (.s 10),.call 12 [(11,true)] (.id 114) false true [.m 1 0,pI 1,.pt (some 116) [.pt none [.m 1 0]]]] [pV 2 (.ite (.s 11) (.s 12) pF)]] .ret,[(2,.v)]⟩
def c100:Za Sol.prog fresh sig [.fz] [] Tryz.f100=some p100:=by kernel_rfl
def p101:Fn:=⟨3,[0,1,2],
pQ [pR [(1,.m [.one (.s 0)]),pV 2 pF],pC [.call 3 [] (.id 114) false true [.m 1 0,pI 1,.pt (some 117) [.pt none [.m 1 0]]]] [pV 2 (.s 3)]] .ret,[(2,.v)]⟩
def c101:Za Sol.prog fresh sig [.fz] [] Tryz.f101=some p101:=by kernel_rfl
def p102:Fn:=⟨4,[0,1,2,3],
pQ [pR [(1,.m [.one (.s 0)]),pV 2 pF],pR [(3,.no)],pC [.call 4 [] (.id 114) false true [.m 1 0,pI 3,.pt (some 118) [.pt none [.m 1 0]]],.lt 5 [] (.s 4),.call 6 [(5,true)] (.id 114) false true [.m 1 0,pI 4,.pt (some 118) [.pt none [.m 1 0]]]] [pV 2 (.ite (.s 5) (.s 6) pF),(3,.no)]] .ret,[(2,.v)]⟩
def c102:Za Sol.prog fresh sig [.fz] [] Tryz.f102=some p102:=by kernel_rfl
def p103:Fn:=⟨2,[0,2],
pQ [pR [pV 1 pF],pC [pK 2 51 [.s 0]] [pV 1 (.bin .leq (.bin .add (.bin .add (.len (.fld (.star (.s 0)) 5)) (.len (.fld (.star (.s 0)) 6))) (.s 2)) (.fld (.star (.s 0)) 1))]] .ret,[(1,.v)]⟩
def c103:Za Sol.prog fresh sig [.fz] [] Tryz.f103=some p103:=by kernel_rfl
def p109:Fn:=⟨3,[0,1,4],
pQ [pR [pV 2 pN],pR [pV 2 (.ai (.ag [.fld (.star (.s 0)) 5,.fld (.star (.s 0)) 6,.fld (.star (.s 0)) 7,.fld (.star (.s 0)) 8]) (.bin .sub (.s 1) (pI 1)) 4 1 false)]] .ret,[(2,.v)]⟩
def c109:Za Sol.prog fresh sig [.fz,.fz] [] Tryz.f109=some p109:=by kernel_rfl
def p111:Fn:=⟨14,[0,1,4,5,6,15,7,8,9,25,10,11,36,52],
pQ [pR [pV 2 pN],pR [pV 3 pN],pQ [pR [pV 4 (pI 0)]] (.block 0 (.loop [0,1,2,3,4] (pQ [pQ [pR [pV 5 (.bin .lss (.s 4) (.len (.s 1)))]] (.cond (.s 5) .skip (.exit 0))] (.block 1 (pQ [pR [(6,.m [pI 0,pI 0])],pQ [pC [pK 14 29 [.fld (.idx (.s 1) (.s 4) 1) 0]] [pV 7 (.ext (.s 14) 0),pV 8 (.ext (.s 14) 1)],pR [pV 9 (.bin .eql (.s 8) (pI 0))]] (.cond (.s 9) (pQ [pR [(10,pM (.sz (.ext (.lk (.i .u64) (.fld (.star (.s 0)) 22) (.s 7) (.agg [.int .i64 0,.int .i64 0]) true) 0) 2) 2),pV 11 (.ext (.lk (.i .u64) (.fld (.star (.s 0)) 22) (.s 7) (.agg [.int .i64 0,.int .i64 0]) true) 1)],pQ [pR [pV 12 (.un .not (.s 11))]] (.cond (.s 12) (pQ [pR [pV 2 (.s 3),(3,.no)]] .ret) .skip),pR [(6,pM (.mm 10 0 2) 2)]] (pR [pV 3 (.app (.s 3) (.lit [.mm 6 0 2]) 2)])) (pQ [pC [pK 15 47 [.fld (.idx (.s 1) (.s 4) 1) 0]] [(6,pM (.sz (.ext (.s 15) 0) 2) 2),pV 8 (.ext (.s 15) 1)],pR [pV 13 (.bin .neq (.s 8) (pI 0))]] (.cond (.s 13) (pQ [pR [pV 2 (.s 3),(3,.no)]] .ret) .skip)))] (pR [pV 4 (.bin .add (.s 4) (.bin .add (pI 1) (.m 6 0)))])))))),pR [pV 2 (.s 3),(3,.no)]] .ret,[(2,.v)]⟩
def c111:Za Sol.prog fresh sig [.fz,.fz] [] Tryz.f111=some p111:=by kernel_rfl
def p112:Fn:=⟨11,[0,1,2,19,18,20,7,17,8,9,42],
pQ [.reg ⟨[],[([],.ai (.c (.agg [(.bool true),(.bool true),(.bool true),(.bool true)])) (.bin .sub (.s 1) (pI 1)) 4 1 false)],[(0,.m [.m 0 0,.m 0 1,.m 0 2,.m 0 3,.m 0 4,.m 0 5,.m 0 6,.m 0 7,.m 0 8,.m 0 9,.m 0 10,.m 0 11,.m 0 12,.m 0 13,.m 0 14,.m 0 15,.m 0 16,.fld (.aput (.mm 0 17 4) (.bin .sub (.s 1) (pI 1)) 4 1 (.one (.s 2))) 0,.fld (.aput (.mm 0 17 4) (.bin .sub (.s 1) (pI 1)) 4 1 (.one (.s 2))) 1,.fld (.aput (.mm 0 17 4) (.bin .sub (.s 1) (pI 1)) 4 1 (.one (.s 2))) 2,.fld (.aput (.mm 0 17 4) (.bin .sub (.s 1) (pI 1)) 4 1 (.one (.s 2))) 3,.m 0 21,.m 0 22])]⟩,pR [pV 3 (pI 0),pV 4 (.len (.s 2)),pV 7 (.s 2)]] (.block 0 (.loop [0,1,2,3,4,7] (pQ [pR [pV 5 (.bin .lss (.s 3) (.s 4))],.cond (.s 5) .skip (.exit 0),.block 1 (pQ [pR [(6,pM (.flds (.idx (.s 7) (.s 3) 5) 0 5) 5)],pC [pK 11 57 [.mm 0 10 7,.ag [.one (.s 1),.m 6 0]]] [pV 8 (.ext (.s 11) 0),pV 9 (.ext (.s 11) 1)],pR [(0,.m [.m 0 0,.m 0 1,.m 0 2,.m 0 3,.m 0 4,.m 0 5,.m 0 6,.m 0 7,.m 0 8,.m 0 9,.m 0 10,.m 0 11,.m 0 12,.m 0 13,.m 0 14,.m 0 15,.m 0 16,.m 0 17,.m 0 18,.m 0 19,.m 0 20,.mput (.i .u64) (.m 0 21) (.s 8) (.s 1),.m 0 22])],pR [pV 10 (.bin .eql (.s 1) (pI 1))]] (.cond (.s 10) (pR [(0,.m [.m 0 0,.m 0 1,.m 0 2,.m 0 3,.m 0 4,.m 0 5,.m 0 6,.m 0 7,.m 0 8,.m 0 9,.m 0 10,.m 0 11,.m 0 12,.m 0 13,.m 0 14,.m 0 15,.m 0 16,.m 0 17,.m 0 18,.m 0 19,.m 0 20,.m 0 21,.mput (.i .u64) (.m 0 22) (.s 8) (.mm 6 1 2)])]) .skip))] (pR [pV 3 (.bin .add (.s 3) (pI 1))])))),[]⟩
def c112:Za Sol.prog fresh sig [(.mem [.fz,.fz,.fz,.fz,.fz,.fz,.fz,.fz,.fz,.fz,.fz,.fz,.fz,.fz,.fz,.fz,.fz,.fz,.fz,.fz,.fz,(.own 63),(.own 144)]),.fz,.fz] [(0,(.mem [.fz,.fz,.fz,.fz,.fz,.fz,.fz,.fz,.fz,.fz,.fz,.fz,.fz,.fz,.fz,.fz,.fz,.fz,.fz,.fz,.fz,(.own 63),(.own 144)]))] Tryz.f112=some p112:=by kernel_rfl
def p113:Fn:=⟨11,[0,1,2,3,8,14,9,10,21,11,12],
pQ [pR [pV 4 pF],pQ [pR [pV 5 (.bin .eql (.s 1) (pU 0))]] (.cond (.s 5) (pQ [pR [pV 4 pT]] .ret) .skip),pC [pK 11 29 [.s 1]] [pV 6 (.ext (.s 11) 0),pV 7 (.ext (.s 11) 1)],pQ [pR [pV 8 (.bin .neq (.s 7) (pI 0))]] (.cond (.s 8) (pQ [pR [pV 4 pF]] .ret) .skip),pR [pV 9 (.ext (.lk (.i .u64) (.fld (.star (.s 0)) 21) (.s 6) (.int .i64 0) true) 0),pV 10 (.ext (.lk (.i .u64) (.fld (.star (.s 0)) 21) (.s 6) (.int .i64 0) true) 1)],.reg ⟨[.lt 12 [] (.s 10),.lt 13 [] (.ite (.s 12) (.bin .geq (.s 9) (.s 2)) pF)],[([(12,true)],.bin .geq (.s 9) (.s 2)),([(13,true)],.bin .leq (.s 9) (.s 3))],[pV 4 (.ite (.s 13) (.bin .leq (.s 9) (.s 3)) pF)]⟩] .ret,[(4,.v)]⟩
def c113:Za Sol.prog fresh sig [.fz,.fz,.fz,.fz] [] Tryz.f113=some p113:=by kernel_rfl
def p114:Fn:=⟨17,[0,1,2,6,7,23,22,24,9,21,28,32,31,33,10,11,47],
pQ [pR [pV 3 pF],pC [pK 17 109 [.s 0,.s 1]] [pV 4 (.s 17)],pQ [pR [pV 5 (pI 0),pV 6 (.len (.fld (.ai (.flds (.star (.s 0)) 17 4) (.bin .sub (.s 1) (pI 1)) 4 1 true) 0)),pV 9 (.fld (.ai (.flds (.star (.s 0)) 17 4) (.bin .sub (.s 1) (pI 1)) 4 1 true) 0)]] (.block 0 (.loop [0,1,2,3,4,5,6,9] (pQ [pR [pV 7 (.bin .lss (.s 5) (.s 6))],.cond (.s 7) .skip (.exit 0),.block 1 (pQ [pR [(8,pM (.flds (.idx (.s 9) (.s 5) 5) 0 5) 5)],pQ [pR [pV 10 (.m 8 3)]] (.cond (.s 10) (.exit 1) .skip),pR [pV 11 (pI 0),pV 12 (.m 8 2)]] (.block 2 (.loop [0,1,2,3,4,5,6,7,8,9,10,11,12] (pQ [pR [pV 13 (.bin .lss (.s 11) (.s 12))],.cond (.s 13) .skip (.exit 2),.block 3 (pQ [pR [pV 14 (.s 11)],pR [pV 15 (.bin .add (.bin .add (.m 8 0) (pI 1)) (.s 14))],pC [.call 18 [] (.e (.s 2)) false false [.s 15,.fld (.idx (.s 4) (.s 15) 1) 0]] [pV 16 (.un .not (.s 18))]] (.cond (.s 16) (pQ [pR [pV 3 pF]] .ret) .skip))] (pR [pV 11 (.bin .add (.s 11) (pI 1))])))))] (pR [pV 5 (.bin .add (.s 5) (pI 1))])))),pR [pV 3 pT]] .ret,[(3,.v)]⟩
def c114:Za Sol.prog fresh sig [.fz,.fz,.fz] [] Tryz.f114=some p114:=by kernel_rfl
def p115:Fn:=⟨4,[0,1,2,5],
pQ [pR [pV 3 pF],pC [pK 4 113 [.fld (.star (.s 2)) 0,.s 1,pI 1,pI 2]] [pV 3 (.s 4)]] .ret,[(3,.v)]⟩
def c115:Za Sol.prog fresh sig [.fz,.fz,.fz] [] Tryz.f115=some p115:=by kernel_rfl
def p116:Fn:=⟨4,[0,1,2,5],
pQ [pR [pV 3 pF],pC [.lt 4 [] (.bin .geq (.s 0) (.fld (.star (.fld (.star (.s 2)) 0)) 4)),.call 5 [(4,false)] (.id 113) false false [.fld (.star (.s 2)) 0,.s 1,pI 1,pI 2]] [pV 3 (.ite (.s 4) pT (.s 5))]] .ret,[(3,.v)]⟩
def c116:Za Sol.prog fresh sig [.fz,.fz,.fz] [] Tryz.f116=some p116:=by kernel_rfl
def p117:Fn:=⟨4,[0,1,2,5],
pQ [pR [pV 3 pF],pC [.lt 4 [] (.bin .lss (.s 0) (.fld (.star (.fld (.star (.s 2)) 0)) 4)),.call 5 [(4,false)] (.id 113) false false [.fld (.star (.s 2)) 0,.s 1,pI 1,pI 4]] [pV 3 (.ite (.s 4) pT (.s 5))]] .ret,[(3,.v)]⟩
def c117:Za Sol.prog fresh sig [.fz,.fz,.fz] [] Tryz.f117=some p117:=by kernel_rfl
def p118:Fn:=⟨4,[0,1,2,5],
pQ [pR [pV 3 pF],pC [pK 4 113 [.fld (.star (.s 2)) 0,.s 1,pI 3,pI 4]] [pV 3 (.s 4)]] .ret,[(3,.v)]⟩
def c118:Za Sol.prog fresh sig [.fz,.fz,.fz] [] Tryz.f118=some p118:=by kernel_rfl
end Vm
end
section
namespace Vm
open Go Go.Proofs
def putA{α:Type}(l:List (Int×α))(k:Int)(v:α):List (Int×α):=match l.findIdx? (·.1==k)with
 |some i=>l.set i (k,v)
 |none=>l++[(k,v)]
def getA{α:Type}(l:List (Int×α))(k:Int):Option α:=(l.find? (·.1==k)).map (·.2)
def mpA{α:Type}(f:α->V)(l:List (Int×α)):V:=.mp 0 (l.map λx=>vu x.1) (l.map λx=>f x.2)
def zc{α:Type}{k:Int}:∀ {l:List (Int×α)},Kj (vu k) (l.map λx=>vu x.1)=some (l.findIdx? (·.1==k))
 | []=>rfl
 |y::l=>by
  simp only[ZhA,Kj,Z5P,ZhR,Zkw];by_cases h:k=y.1
  ·simp[h]
  ·have h2:(k==y.1)=false:=by simpa using h
   have h3:(y.1==k)=false:=by simpa using Zjd h
   simp[h2,h3,zc]
def XT{α:Type}{p:α->Bool}:∀ {l:List α},l.find? p=(l.findIdx? p).bind λi=>l[i]?
 | []=>rfl
 |x::l=>by
  rw[Zkk,Zkw];cases h:p x
  ·simp only[Zhk,ZhT];rw[XT (l:=l)];cases l.findIdx? p<;>simp
  ·simp
theorem Z0L{α:Type}{f:α->V}{l:List (Int×α)}{k:Int}{z:V}{ok:Bool}:lkV (.i .u64) (mpA f l) (vu k) z ok=match getA l k with
  |some x=>some (if ok then .tup [f x,.bool true]else f x)
  |none=>some (if ok then .tup [z,.bool false]else z):=by
 unfold lkV mpA getA;simp only[isK,Zko,ZjS,ZhT,zc,XT]
 grind [List.findIdx?_eq_some_iff_getElem]
def Jo{α:Type}{f:α->V}{l:List (Int×α)}{k:Int}{x:α}:Jn (.i .u64) (mpA f l) (vu k) (f x)=some (mpA f (putA l k x)):=by
 unfold Jn mpA putA;simp only[isK,Zko,ZjS,ZhT,zc];cases h:l.findIdx? (·.1==k)with
 |none=>simp
 |some i=>
  have hh:=ZhQ.1 h;obtain⟨hlt,hk,_⟩:=hh;have hk':(l[i]).1=k:=by simpa using hk
  simp only[Zh6,V.mp.injEq,true_and];constructor
  ·rw[Zk4];apply List.ext_getElem?;intro j;rw[List.getElem?_set];split
   ·rename_i e;subst e;simp[hlt,hk']
   ·rfl
  ·rw[Zk4]
@[simp]def ZgC{α:Type}(f:α->V)(l:List (Int×α)):oneV (mpA f l)=some (mpA f l):=rfl
@[simp]def Zfo{α:Type}(f:α->V)(l:List (Int×α)):(mpA f l).cells=[mpA f l]:=rfl
@[simp]def Zh0{α:Type}(f:α->V)(l:List (Int×α)):(mpA f l).one=true:=rfl
@[simp]def ZgB{α:Type}(f:α->V)(l:List (Int×α)):qQ (mpA f l)=some (vi l.length):=by simp[mpA]
def Ve{α:Type}{l:List (Int×α)}{k j:Int}{x:α}:getA (putA l k x) j=if k=j then some x else getA l j:=by
 unfold getA putA;cases h:l.findIdx? (·.1==k)with
 |none=>
  grind
 |some i=>
  obtain⟨hlt,hk,hmin⟩:=ZhQ.1 h;have hk':(l[i]).1=k:=by simpa using hk
  simp only;by_cases e:k=j
  ·subst e;rw[if_pos rfl,XT]
   grind [List.findIdx?_eq_some_iff_getElem,List.getElem_set_ne]
  ·rw[if_neg e,XT,XT]
   have:(l.set i (k,x)).findIdx? (·.1==j)=l.findIdx? (·.1==j):=by
    apply Option.ext;intro q;rw[ZhQ,ZhQ];have hj:((k,x).1==j)=false:=by simpa using e
    have hj':((l[i]).1==j)=false:=by rw[hk'];simpa using e
    constructor
    ·grind
    ·grind
   rw[this];cases hq:l.findIdx? (·.1==j)with
   |none=>rfl
   |some q=>
    obtain⟨h1,h2,_⟩:=ZhQ.1 hq
    grind
structure Ck where
 h:Hp
 o1:List Ob
 o2:List Ob
 o3:List Ob
 o4:List Ob
 pm:List (Int×Int)
 lm:List (Int×(Int×Int))
def Ck.obs(s:Ck)(k:Int):List Ob:=if k=1 then s.o1 else if k=2 then s.o2 else if k=3 then s.o3 else s.o4
def ckL(s:Ck):List V:=[vu s.h.base,vi s.h.cap,vi s.h.to,.bool s.h.cycle,vi s.h.scan,.sl (s.h.low.map vu),.sl (s.h.high.map vu),.sl (s.h.old.map vu),.sl (s.h.far.map vu),.sl (s.h.roots.map vu),
 vu s.h.base,vi s.h.cap,vi s.h.to,vi s.h.low.length,vi s.h.high.length,vi s.h.old.length,vi s.h.far.length,
 .sl (s.o1.map obV),.sl (s.o2.map obV),.sl (s.o3.map obV),.sl (s.o4.map obV),mpA vi s.pm,mpA shP s.lm]
def ckP(s:Ck):V:=.ptr (ckL s)
def jJ:IntKind.i64.wrap 0=0:=by decide
def K6:IntKind.i64.wrap 1=1:=by decide
def Su:IntKind.i64.wrap 2=2:=by decide
def Ri:IntKind.i64.wrap 3=3:=by decide
def Z2T{s:Ck}{k:Int}(hk:1<=k/\k<=4):VC Sol.prog 109 false [ckP s,vi k] (.sl ((Zh s.h k).map vu)):=by
 refine Z5 Sol.func109 follows (by kernel_rfl) c109 rfl ?_;have:k=1\/k=2\/k=3\/k=4:=by omega
 obtain rfl|rfl|rfl|rfl:=this<;>simp[p109,ckP,ckL,Zh,aiV,jJ,K6,Su,Ri]
def Zy(s:Ck)(w first last:Int):Bool:=decide (w=0)||(decide ((adr w).2=0)&&match getA s.pm (adr w).1 with
 |some k=>decide (first<=k)&&decide (k<=last)
 |none=>false)
def U6{s:Ck}{w first last:Int}(hw:U64 w):VC Sol.prog 113 false [ckP s,vu w,vi first,vi last] (.bool (Zy s w first last)):=by
 refine Z5 Sol.func113 follows (by kernel_rfl) c113 rfl ?_;unfold Zy;by_cases h0:w=0
 ·simp[p113,h0]
 simp[p113,h0,ckP,ckL];refine Z0 (yp hw) (by simp) ?_;by_cases h1:(adr w).2=0
 case neg=>simp[h1]
 simp[h1,Z0L];cases hg:getA s.pm (adr w).1 with
 |none=>simp
 |some k=>
  simp_all
def YY(h:Hp)(k:Int):List (Int×Int)->List Ob->List (Int×Int)
 |m,[]=>m
 |m,o::l=>YY h k (putA m (ZI (layH h) k o.at_).1 k) l
def Y0(h:Hp)(k:Int):List (Int×(Int×Int))->List Ob->List (Int×(Int×Int))
 |m,[]=>m
 |m,o::l=>Y0 h k (if k=1 then putA m (ZI (layH h) k o.at_).1 (o.size,o.ptrs)else m) l
def Ck.put(s:Ck)(k:Int)(l:List Ob):Ck:=if k=1 then {s with o1:=l}else if k=2 then {s with o2:=l}else if k=3 then {s with o3:=l}else {s with o4:=l}
def XF(s:Ck)(k:Int)(l:List Ob):Ck:= {s.put k l with pm:=YY s.h k s.pm l,lm:=Y0 s.h k s.lm l}
def XZ{h:Hp}{k:Int}:∀ {l:List Ob} {i:Nat} {o:Ob} {m:List (Int×Int)},l[i]?=some o->YY h k m (l.take (i+1))=putA (YY h k m (l.take i)) (ZI (layH h) k o.at_).1 k
 | [],_,_,_,h=>by simp at h
 |x::l,0,o,m,h=>by simp_all[YY]
 |x::l,i+1,o,m,h=>by
  simp_all[Zkm,YY,XZ]
def XY{h:Hp}{k:Int}:∀ {l:List Ob} {i:Nat} {o:Ob} {m:List (Int×(Int×Int))},l[i]?=some o->Y0 h k m (l.take (i+1))=if k=1 then putA (Y0 h k m (l.take i)) (ZI (layH h) k o.at_).1 (o.size,o.ptrs)else Y0 h k m (l.take i)
 | [],_,_,_,h=>by simp at h
 |x::l,0,o,m,h=>by simp_all[Y0]
 |x::l,i+1,o,m,h=>by
  simp_all[Zkm,Y0,XY]
abbrev ckK:List CK:=[.fz,.fz,.fz,.fz,.fz,.fz,.fz,.fz,.fz,.fz,.fz,.fz,.fz,.fz,.fz,.fz,.fz,.fz,.fz,.fz,.fz,.own 63,.own 144]
@[simp]def ZfR(s:Ck)(k:Int)(l:List Ob):(s.put k l).h=s.h:=by
 unfold Ck.put;split
 ·rfl
 split
 ·rfl
 split<;>rfl
def zA{l:List (Int×Int)}{k x:Int}:Jn (.i .u64) (mpA vi l) (vu k) (vi x)=some (mpA vi (putA l k x)):=Jo
def Qj{l:List (Int×(Int×Int))}{k a b:Int}:Jn (.i .u64) (mpA shP l) (vu k) (.agg [vi a,vi b])=some (mpA shP (putA l k (a,b))):=Jo (f:=shP) (x:=(a,b))
def Qk{s:Ck}(hh:s.h.ok){k:Int}(hk:1<=k/\k<=4){l:List Ob}(hl:l.length<=1000000):VCM Sol.prog 112 [.mem ckK,.fz,.fz] [.agg (ckL s),vi k,.sl (l.map obV)] (.tup [.tup [],.agg (ckL (XF s k l))]):=by
 refine WZ Sol.func112 follows (by kernel_rfl) c112 (by kernel_rfl) ?_;have k4:k=1\/k=2\/k=3\/k=4:=by omega
 have hlim:l.length<=lim:=by unfold lim;omega
 have h0:∀k,({s.put k l with pm:=s.pm,lm:=s.lm}:Ck)=s.put k l:=by
  intro k;unfold Ck.put;split
  ·rfl
  split
  ·rfl
  split<;>rfl
 have ka:=λ(k at_:Int)=>Z1F hh.lay (part:=k) (at_:=at_);unfold layH lyV at ka;obtain rfl|rfl|rfl|rfl:=k4
 ·simp[p112,ckL,aiV,QH,jJ,K6,Su,Ri,ZC];refine Y2 3 l.length (λi=>[(0,.m (ckL {s.put 1 l with pm:=YY s.h 1 s.pm (l.take i),lm:=Y0 s.h 1 s.lm (l.take i)})),(3,.v (vi i))]) (λ_=>True) (by simp[ckL,Ck.put,YY,Y0]) (by simp) trivial ?_;intro i hi _;have hwi:=Z4 ((i:Int)+1) (by omega) (by omega);by_cases hlt:i<l.length
  ·have hx:l[i]?=some l[i]:=Zh8 hlt;have e1:=XZ (h:=s.h) (k:=1) (m:=s.pm) hx;have e2:=XY (h:=s.h) (k:=1) (m:=s.lm) hx;have ko:=ka 1 (l[i]).at_;simp[hlt,hx,hwi,ckL,idxV];refine Z0 ko (by simp) ?_;simp[zA,Qj,e1,e2,hwi,hlt]
   first|done|rfl|exact⟨rfl,rfl⟩
  ·have:i=l.length:=by omega
   subst this;simp[ckL,XF,ZhI]
 ·simp[p112,ckL,aiV,QH,jJ,K6,Su,Ri,ZC];refine Y2 3 l.length (λi=>[(0,.m (ckL {s.put 2 l with pm:=YY s.h 2 s.pm (l.take i),lm:=Y0 s.h 2 s.lm (l.take i)})),(3,.v (vi i))]) (λ_=>True) (by simp[ckL,Ck.put,YY,Y0]) (by simp) trivial ?_;intro i hi _;have hwi:=Z4 ((i:Int)+1) (by omega) (by omega);by_cases hlt:i<l.length
  ·have hx:l[i]?=some l[i]:=Zh8 hlt;have e1:=XZ (h:=s.h) (k:=2) (m:=s.pm) hx;have e2:=XY (h:=s.h) (k:=2) (m:=s.lm) hx;have ko:=ka 2 (l[i]).at_;simp[hlt,hx,hwi,ckL,idxV];refine Z0 ko (by simp) ?_;simp[zA,Qj,e1,e2,hwi,hlt]
   first|done|rfl|exact⟨rfl,rfl⟩
  ·have:i=l.length:=by omega
   subst this;simp[ckL,XF,ZhI]
 ·simp[p112,ckL,aiV,QH,jJ,K6,Su,Ri,ZC];refine Y2 3 l.length (λi=>[(0,.m (ckL {s.put 3 l with pm:=YY s.h 3 s.pm (l.take i),lm:=Y0 s.h 3 s.lm (l.take i)})),(3,.v (vi i))]) (λ_=>True) (by simp[ckL,Ck.put,YY,Y0]) (by simp) trivial ?_;intro i hi _;have hwi:=Z4 ((i:Int)+1) (by omega) (by omega);by_cases hlt:i<l.length
  ·have hx:l[i]?=some l[i]:=Zh8 hlt;have e1:=XZ (h:=s.h) (k:=3) (m:=s.pm) hx;have e2:=XY (h:=s.h) (k:=3) (m:=s.lm) hx;have ko:=ka 3 (l[i]).at_;simp[hlt,hx,hwi,ckL,idxV];refine Z0 ko (by simp) ?_;simp[zA,Qj,e1,e2,hwi,hlt]
   first|done|rfl|exact⟨rfl,rfl⟩
  ·have:i=l.length:=by omega
   subst this;simp[ckL,XF,ZhI]
 ·simp[p112,ckL,aiV,QH,jJ,K6,Su,Ri,ZC];refine Y2 3 l.length (λi=>[(0,.m (ckL {s.put 4 l with pm:=YY s.h 4 s.pm (l.take i),lm:=Y0 s.h 4 s.lm (l.take i)})),(3,.v (vi i))]) (λ_=>True) (by simp[ckL,Ck.put,YY,Y0]) (by simp) trivial ?_;intro i hi _;have hwi:=Z4 ((i:Int)+1) (by omega) (by omega);by_cases hlt:i<l.length
  ·have hx:l[i]?=some l[i]:=Zh8 hlt;have e1:=XZ (h:=s.h) (k:=4) (m:=s.pm) hx;have e2:=XY (h:=s.h) (k:=4) (m:=s.lm) hx;have ko:=ka 4 (l[i]).at_;simp[hlt,hx,hwi,ckL,idxV];refine Z0 ko (by simp) ?_;simp[zA,Qj,e1,e2,hwi,hlt]
   first|done|rfl|exact⟨rfl,rfl⟩
  ·have:i=l.length:=by omega
   subst this;simp[ckL,XF,ZhI]
end Vm
namespace Vm
open Go Go.Proofs
def boxP(s:Ck):V:=.ptr [ckP s]
def Z1q{s:Ck}{a w:Int}(hw:U64 w):VC Sol.prog 115 false [vi a,vu w,boxP s] (.bool (Zy s w 1 2)):=by
 refine Z5 Sol.func115 follows (by kernel_rfl) c115 rfl ?_;have k:=U6 (s:=s) (first:=1) (last:=2) hw;unfold boxP ckP at*;simp[p115,oneV,V.one];refine Z0 k (by simp) ?_;simp
def Z1r{s:Ck}{a w:Int}(hw:U64 w):VC Sol.prog 116 false [vi a,vu w,boxP s] (.bool (decide (s.h.scan<=a)||Zy s w 1 2)):=by
 refine Z5 Sol.func116 follows (by kernel_rfl) c116 rfl ?_;have k:=U6 (s:=s) (first:=1) (last:=2) hw;unfold boxP ckP at*;by_cases h:s.h.scan<=a
 ·simp[p116,oneV,V.one,ckL,h]
 ·simp[p116,oneV,V.one,ckL,h];refine Z0 k (by simp[ckL]) ?_;simp[h]
def yd{s:Ck}{a w:Int}(hw:U64 w):VC Sol.prog 117 false [vi a,vu w,boxP s] (.bool (decide (a<s.h.scan)||Zy s w 1 4)):=by
 refine Z5 Sol.func117 follows (by kernel_rfl) c117 rfl ?_;have k:=U6 (s:=s) (first:=1) (last:=4) hw;unfold boxP ckP at*;by_cases h:a<s.h.scan
 ·simp[p117,oneV,V.one,ckL,h]
 ·simp[p117,oneV,V.one,ckL,h];refine Z0 k (by simp[ckL]) ?_;simp[h]
def Z2a{s:Ck}{a w:Int}(hw:U64 w):VC Sol.prog 118 false [vi a,vu w,boxP s] (.bool (Zy s w 3 4)):=by
 refine Z5 Sol.func118 follows (by kernel_rfl) c118 rfl ?_;have k:=U6 (s:=s) (first:=3) (last:=4) hw;unfold boxP ckP at*;simp[p118,oneV,V.one];refine Z0 k (by simp) ?_;simp
structure Ck.ok (s:Ck):Prop where
 h:s.h.ok
 ob:∀k,∀o∈s.obs k,ObIn (Zh s.h k).length o/\U64 o.target
 len:∀k,(s.obs k).length<=1000000
def Ws(ws:List Int)(k:Nat):Int:=(ws[k]?).getD 0
def obQ(s:Ck)(k:Int)(q:Int->Int->Bool)(o:Ob):Bool:=o.gone||(List.range o.ptrs.toNat).all λj=>q ((o.at_.toNat+1+j:Nat):Int) (Ws (Zh s.h k) (o.at_.toNat+1+j))
def VH(s:Ck)(k:Int)(q:Int->Int->Bool):Bool:=(s.obs k).all (obQ s k q)
def Xv{s:Ck}(hs:s.ok){k:Int}(hk:1<=k/\k<=4){f:FuncId}{cs:List V}{q:Int->Int->Bool}(hq:∀a w,U64 w->VC Sol.prog f false ([vi a,vu w]++cs) (.bool (q a w))):
  VC Sol.prog 114 false [ckP s,vi k,.clo f cs] (.bool (VH s k q)):=by
 refine Z5 Sol.func114 follows (by kernel_rfl) c114 rfl ?_;simp[-List.all_eq_true,-List.all_eq_false,p114];refine Z0 (Z2T hk) (by simp) ?_;have hpt:fldV (.agg [.sl (s.o1.map obV),.sl (s.o2.map obV),.sl (s.o3.map obV),.sl (s.o4.map obV)]) 0=some (.sl (s.o1.map obV)):=rfl;have hlen:=hs.len k;have hob:=hs.ob k;have hw:=(Zu hs.h k).1;have hpl:=(Zu hs.h k).2
 have hai:aiV (.agg [.sl (s.o1.map obV),.sl (s.o2.map obV),.sl (s.o3.map obV),.sl (s.o4.map obV)]) (.int .i64 (IntKind.i64.wrap (k-1))) 4 1 true=some (.agg [.sl ((s.obs k).map obV)]):=by
  have:k=1\/k=2\/k=3\/k=4:=by omega
  obtain rfl|rfl|rfl|rfl:=this<;>simp[aiV,Ck.obs,jJ,K6,Su,Ri]
 unfold VH;generalize hL:s.obs k=L at*;generalize hW:Zh s.h k=ws at*;simp[-List.all_eq_true,-List.all_eq_false,ckP,ckL,hai];refine Xe 5 L.length (λi=>(L.take i).all (obQ s k q)=true) (by simp) (by simp) (by simp) ?_;intro i hi hall;have hwi:=Z4 ((i:Int)+1) (by omega) (by omega);by_cases hlt:i<L.length
 ·have hx:L[i]?=some L[i]:=Zh8 hlt;obtain⟨⟨⟨a,ha,hfit⟩,hsh⟩,_⟩:=hob _ (Zhi hlt);generalize L[i]=o at*;obtain⟨s1,s2,s3,s4⟩:=Zb.1 hsh;obtain⟨m,hm⟩:=Zhl s3;have hwa:=Z4 ((a:Int)+1) (by omega) (by omega);have hnext:obQ s k q o=true->(L.take (i+1)).all (obQ s k q)=true:=λh=>by simp_all[TB]
  have hex:obQ s k q o=false->L.all (obQ s k q)=false:=λhno=>Kz hx hno;cases hg:o.gone
  ·have hobp:obQ s k q o=(List.range m).all λj=>q ((a+1+j:Nat):Int) (Ws ws (a+1+j)):=by
    unfold obQ;rw[hm,ha,hW,hg];rfl
   simp[-List.all_eq_true,-List.all_eq_false,hlt,hx,Zt hx,idxV,hg,ha,hm];refine Xe 11 m (λj=>((List.range j).all λj=>q ((a+1+j:Nat):Int) (Ws ws (a+1+j)))=true) (by simp) (by simp) (by simp) ?_;intro j hj hal;have hwj:=Z4 ((j:Int)+1) (by omega) (by omega);by_cases hjm:j<m
   ·obtain⟨w,hmw,hu⟩:∃w,ws[a+1+j]?=some w/\U64 w:=⟨_,Zh8 (by omega),hw _ (Zhi _)⟩;have hww:Ws ws (a+1+j)=w:=by unfold Ws;rw[hmw];rfl
    have hsucc:((List.range (j+1)).all λj=>q ((a+1+j:Nat):Int) (Ws ws (a+1+j)))=(((List.range j).all λj=>q ((a+1+j:Nat):Int) (Ws ws (a+1+j)))&&q ((a+1+j:Nat):Int) w):=by
     rw[Zjx,Zkj];simp[hww]
    have hno:q ((a+1+j:Nat):Int) w=false->L.all (obQ s k q)=false:=λhno=>hex (by
     grind)
    obtain⟨n,hn⟩:∃n,a+1+j=n:=⟨_,rfl⟩;have hn1:(a:Int)+1+(j:Int)=(n:Int):=by omega
    have hwn:=Z4 (n:Int) (by omega) (by omega);rw[hn]at hmw hsucc hno;have kq:=hq (n:Int) w hu;simp[-List.all_eq_true,-List.all_eq_false,hjm,hwa,hn1,hwn,hmw,Zt hmw,idxV];refine Z0 kq (by simp) ?_;simp_all
   ·have:j=m:=by omega
    simp_all
  ·have hobp:obQ s k q o=true:=by unfold obQ;rw[hg];rfl
   simp_all
 ·have:i=L.length:=by omega
  simp_all
@[simp]def ZfO(l:List V):(V.ptr l).one=true:=rfl
@[simp]def Zf1(l:List V):oneV (.ptr l)=some (.ptr l):=rfl
@[simp]def ZfM(f:FuncId)(l:List V):(V.clo f l).one=true:=rfl
@[simp]def ZeZ(f:FuncId)(l:List V):oneV (.clo f l)=some (.clo f l):=rfl
@[simp]def ZeY(s:Ck):oneV (ckP s)=some (ckP s):=rfl
@[simp]def ZfL(s:Ck):(ckP s).one=true:=rfl
@[simp]def Zeb(s:Ck):JY (ckP s)=some (.agg (ckL s)):=rfl
@[simp]def ZeF(s:Ck):(ckL s)[4]?=some (vi s.h.scan):=rfl
@[simp]def ZbU(s:Ck):(ckL s)[3]?=some (.bool s.h.cycle):=rfl
@[simp]def ZbV(s:Ck):(ckL s)[9]?=some (.sl (s.h.roots.map vu)):=rfl
@[simp]def Zfs(s:Ck):(ckL s)[5]?=some (.sl (s.h.low.map vu)):=rfl
@[simp]def ZeE(s:Ck):(ckL s)[6]?=some (.sl (s.h.high.map vu)):=rfl
@[simp]def Zft(s:Ck):(ckL s)[7]?=some (.sl (s.h.old.map vu)):=rfl
@[simp]def Zfq(s:Ck):(ckL s)[8]?=some (.sl (s.h.far.map vu)):=rfl
@[simp]def Zfp(s:Ck):(ckL s)[1]?=some (vi s.h.cap):=rfl
def Vx(s:Ck):Bool:=s.h.roots.all (λw=>Zy s w 1 2)&&(VH s 2 (λ_ w=>Zy s w 1 2)&&VH s 1 (λa w=>decide (s.h.scan<=a)||Zy s w 1 2))
def Z4e{s:Ck}(hs:s.ok):VC Sol.prog 100 false [ckP s] (.bool (Vx s)):=by
 refine Z5 Sol.func100 follows (by kernel_rfl) c100 rfl ?_;have k1:=Xv hs (k:=2) (by omega) (f:=115) (cs:=[boxP s]) (q:=λ_ w=>Zy s w 1 2) (λa w hw=>Z1q hw);have k2:=Xv hs (k:=1) (by omega) (f:=116) (cs:=[boxP s]) (q:=λa w=>decide (s.h.scan<=a)||Zy s w 1 2) (λa w hw=>Z1r hw);have k0:=λw (hw:U64 w)=>U6 (s:=s) (first:=1) (last:=2) hw;have hrl:=hs.h.roots;have hrw:=hs.h.rootsW;unfold Vx;unfold boxP at k1 k2;generalize VH s 2 (λ_ w=>Zy s w 1 2)=b1 at*;generalize VH s 1 (λa w=>decide (s.h.scan<=a)||Zy s w 1 2)=b2 at*;simp[-List.all_eq_true,-List.all_eq_false,p100];refine Xe 3 s.h.roots.length (λi=>(s.h.roots.take i).all (λw=>Zy s w 1 2)=true) (by simp) (by simp) (by simp) ?_;intro i hi hall;have hwi:=Z4 ((i:Int)+1) (by omega) (by omega);by_cases hlt:i<s.h.roots.length
 ·have hx:s.h.roots[i]?=some s.h.roots[i]:=Zh8 hlt;have hu:=hrw _ (Zhi hlt);generalize s.h.roots[i]=w at*;have hex:Zy s w 1 2=false->s.h.roots.all (λw=>Zy s w 1 2)=false:=λhno=>Kz hx hno;have hnext:=TB (q:=λw=>Zy s w 1 2) hx;rw[hall]at hnext;simp[-List.all_eq_true,-List.all_eq_false,hlt,hx,Zt hx,idxV];refine Z0 (k0 w hu) (by simp) ?_;cases hv:Zy s w 1 2
  ·simp[-List.all_eq_true,-List.all_eq_false,hex hv]
  ·rw[hv]at hnext;simp[-List.all_eq_true,-List.all_eq_false,hwi,hlt,hnext]
 ·have:i=s.h.roots.length:=by omega
  subst this;rw[ZhS]at hall;simp[-List.all_eq_true,-List.all_eq_false,hall];refine Z0 k1 (by simp[flV,V.flatc]) ?_;cases b1
  ·simp
  ·simp;refine Z0 k2 (by simp[flV,V.flatc]) ?_;simp
def Xp(s:Ck):Bool:=VH s 1 (λa w=>decide (a<s.h.scan)||Zy s w 1 4)
def jH{s:Ck}(hs:s.ok):VC Sol.prog 101 false [ckP s] (.bool (Xp s)):=by
 refine Z5 Sol.func101 follows (by kernel_rfl) c101 rfl ?_;have k1:=Xv hs (k:=1) (by omega) (f:=117) (cs:=[boxP s]) (q:=λa w=>decide (a<s.h.scan)||Zy s w 1 4) (λa w hw=>yd hw);unfold Xp;unfold boxP at k1;simp[p101];refine Z0 k1 (by simp[flV,V.flatc]) ?_;simp
def Z0J(s:Ck):Bool:=VH s 3 (λ_ w=>Zy s w 3 4)&&VH s 4 (λ_ w=>Zy s w 3 4)
def ZaB{s:Ck}(hs:s.ok):VC Sol.prog 102 false [ckP s] (.bool (Z0J s)):=by
 refine Z5 Sol.func102 follows (by kernel_rfl) c102 rfl ?_;have k1:=Xv hs (k:=3) (by omega) (f:=118) (cs:=[boxP s]) (q:=λ_ w=>Zy s w 3 4) (λa w hw=>Z2a hw);have k2:=Xv hs (k:=4) (by omega) (f:=118) (cs:=[boxP s]) (q:=λ_ w=>Zy s w 3 4) (λa w hw=>Z2a hw);unfold Z0J;unfold boxP at k1 k2;generalize VH s 3 (λ_ w=>Zy s w 3 4)=b1 at*;generalize VH s 4 (λ_ w=>Zy s w 3 4)=b2 at*;simp[p102];refine Z0 k1 (by simp[flV,V.flatc]) ?_;cases b1
 ·simp
 ·simp;refine Z0 k2 (by simp[flV,V.flatc]) ?_;simp
end Vm
namespace Vm
open Go Go.Proofs
def Wi(s:Ck):Bool:=Zl (layH s.h)&&(decide (s.h.roots.length<=16)&&(decide (0<=s.h.scan)&&decide (s.h.scan<=s.h.low.length)))
def Z36{s:Ck}(hs:s.h.ok):VC Sol.prog 96 false [ckP s] (.bool (Wi s)):=by
 refine Z5 Sol.func96 follows (by kernel_rfl) c96 rfl ?_;have k:=jq hs.lay;unfold Wi;unfold layH lyV at k;simp[p96];simp[ckL];refine Z0 k (by simp) ?_;have e:Zl {base:=s.h.base,cap:=s.h.cap,to:=s.h.to,low:=(s.h.low.length:Int),high:=(s.h.high.length:Int),old:=(s.h.old.length:Int),far:=(s.h.far.length:Int)}=Zl (layH s.h):=rfl;rw[e];cases Zl (layH s.h)
 ·simp
 by_cases h1:s.h.roots.length<=16
 ·have h1':(s.h.roots.length:Int)<=16:=by omega
  simp_all
 ·have h1':¬(s.h.roots.length:Int)<=16:=by omega
  simp[h1,h1']
def Vu(s:Ck):Bool:=if s.h.cycle then decide (s.h.scan<s.h.low.length)else decide (s.h.old.length=0)&&(decide (s.h.far.length=0)&&decide (s.h.scan=s.h.low.length))
def Z47{s:Ck}:VC Sol.prog 97 false [ckP s] (.bool (Vu s)):=by
 refine Z5 Sol.func97 follows (by kernel_rfl) c97 rfl ?_;unfold Vu;cases hc:s.h.cycle
 ·by_cases h1:s.h.old.length=0
  ·have h1':s.h.old=[]:=ZjT.1 h1;by_cases h2:s.h.far.length=0
   ·have h2':s.h.far=[]:=ZjT.1 h2;simp[p97,hc,h1',h2']
   ·have h2':¬s.h.far=[]:=λe=>h2 (by simp[e]);simp[p97,hc,h1',h2,h2']
  ·have h1':¬s.h.old=[]:=λe=>h1 (by simp[e]);simp[p97,hc,h1,h1']
 ·simp[p97,hc]
def Z1z(s:Ck):Nat:=wtL s.o3+wtL s.o4
@[simp]def ZgZ(s:Ck):((ckL s).drop 17).take 4=[.sl (s.o1.map obV),.sl (s.o2.map obV),.sl (s.o3.map obV),.sl (s.o4.map obV)]:=rfl
@[simp]def Zfr(s:Ck):(ckL s).length=23:=rfl
def Z1A{s:Ck}(hs:s.ok):VC Sol.prog 51 false [ckP s] (vi (Z1z s)):=by
 refine Z5 Sol.func51 follows (by kernel_rfl) c51 rfl ?_;have hsh:∀k,∀o∈s.obs k,Zm o.size o.ptrs=true:=λk o ho=>(hs.ob k o ho).1.2;have hl3:s.o3.length<=1000000:=hs.len 3;have hl4:s.o4.length<=1000000:=hs.len 4;have hs3:∀o∈s.o3,Zm o.size o.ptrs=true:=hsh 3;have hs4:∀o∈s.o4,Zm o.size o.ptrs=true:=hsh 4;have hb3:=VF hs3;have hb4:=VF hs4;have a3:aiV (.agg [.sl (s.o1.map obV),.sl (s.o2.map obV),.sl (s.o3.map obV),.sl (s.o4.map obV)]) (.int .i64 2) 4 1 true=some (.agg [.sl (s.o3.map obV)]):=by simp[aiV]
 have a4:aiV (.agg [.sl (s.o1.map obV),.sl (s.o2.map obV),.sl (s.o3.map obV),.sl (s.o4.map obV)]) (.int .i64 3) 4 1 true=some (.agg [.sl (s.o4.map obV)]):=by simp[aiV]
 simp[p51];refine ZO (λ(i:Nat)=>[(2,.v (vi ((if 0<i then wtL s.o3 else 0)+(if 1<i then wtL s.o4 else 0):Nat))),(3,.v (vi ((i+3:Nat):Int)))]) (λi=>i<=2) (cnt 3 5) 0 (by simp) (by simp) ?_;rintro i hi;have hi':i=0\/i=1\/i=2:=by omega
 obtain rfl|rfl|rfl:=hi'
 ·simp[Su,a3];refine Y2 5 s.o3.length (λj=>[(2,.v (vi (wtL (s.o3.take j)))),(5,.v (vi j))]) (λ_=>True) (by simp[wtL]) (λi=>by simp) trivial ?_;rintro j hj-;have hwj:=Z4 ((j:Int)+1) (by omega) (by omega);by_cases h1:j<s.o3.length
  ·have hx:s.o3[j]?=some s.o3[j]:=Zh8 h1;have hsx:=hs3 _ (Zhi h1);have hsc:=Qv hx;generalize s.o3[j]=o at*
   have hle:wtL (s.o3.take j)<=256*s.o3.length:=by
    refine Zht (VF λo ho=>hs3 o (Zhz ho)) ?_;simp;omega
   obtain⟨g1,g2,g3,g4⟩:=Zb.1 hsx;obtain⟨z,hz⟩:=Zhl g1;have w1:=Z4 (1+(z:Int)) (by omega) (by omega);have w2:=Z4 ((wtL (s.o3.take j):Int)+(1+z)) (by omega) (by omega);cases hg:o.gone
   ·have hwo:wtO o=1+z:=by simp[wtO,hg,hz]
    simp_all
   ·have hwo:wtO o=0:=by simp[wtO,hg]
    simp_all
  ·have:j=s.o3.length:=by omega
   subst this;rw[ZhS];simp[idxV,Z4];exact⟨1,by omega,by simp,by simp[cnt]⟩
 ·simp[Ri,a4];refine Y2 5 s.o4.length (λj=>[(2,.v (vi (wtL s.o3+wtL (s.o4.take j):Nat))),(5,.v (vi j))]) (λ_=>True) (by simp[wtL]) (λi=>by simp) trivial ?_;rintro j hj-;have hwj:=Z4 ((j:Int)+1) (by omega) (by omega);by_cases h1:j<s.o4.length
  ·have hx:s.o4[j]?=some s.o4[j]:=Zh8 h1;have hsx:=hs4 _ (Zhi h1);have hsc:=Qv hx;generalize s.o4[j]=o at*
   have hle:wtL (s.o4.take j)<=256*s.o4.length:=by
    refine Zht (VF λo ho=>hs4 o (Zhz ho)) ?_;simp;omega
   obtain⟨g1,g2,g3,g4⟩:=Zb.1 hsx;obtain⟨z,hz⟩:=Zhl g1;have w1:=Z4 (1+(z:Int)) (by omega) (by omega);have w2:=Z4 ((wtL s.o3:Int)+wtL (s.o4.take j)+(1+z)) (by omega) (by omega);cases hg:o.gone
   ·have hwo:wtO o=1+z:=by simp[wtO,hg,hz]
    simp_all;omega
   ·have hwo:wtO o=0:=by simp[wtO,hg]
    simp_all
  ·have:j=s.o4.length:=by omega
   subst this;rw[ZhS];simp[idxV,Z4];exact⟨2,by omega,by simp,by simp[cnt]⟩
 ·simp[Z1z]
def JM(s:Ck):Bool:=decide ((s.h.low.length:Int)+s.h.high.length+Z1z s<=s.h.cap)
def Z9b{s:Ck}(hs:s.ok):Z1z s<=512*1000000:=by
 have hb3:=VF (l:=s.o3) λo ho=>(hs.ob 3 o ho).1.2;have hb4:=VF (l:=s.o4) λo ho=>(hs.ob 4 o ho).1.2;have hl3:s.o3.length<=1000000:=hs.len 3;have hl4:s.o4.length<=1000000:=hs.len 4
 grind [Z1z]
def Z8P{s:Ck}(hs:s.ok):VC Sol.prog 103 false [ckP s] (.bool (JM s)):=by
 refine Z5 Sol.func103 follows (by kernel_rfl) c103 rfl ?_;have h1:=Z9b hs;have h2:=hs.h.low;have h3:=hs.h.high;have w1:=Z4 ((s.h.low.length:Int)+s.h.high.length) (by omega) (by omega);have w2:=Z4 ((s.h.low.length:Int)+s.h.high.length+Z1z s) (by omega) (by omega);simp[p103];refine Z0 (Z1A hs) (by simp) ?_;simp[w1,w2,JM]
end Vm
namespace Vm
open Go Go.Proofs
def Ym(lm:List (Int×(Int×Int)))(ws:List Int):Nat->Nat->List (Int×Int)->List (Int×Int)
 |0,_,acc=>acc
 |f+1,i,acc=>
  match ws[i]? with
  |none=>acc
  |some w=>if(adr w).2=0 then(match getA lm (adr w).1 with|none=>acc|some sh=>Ym lm ws f (i+1+sh.1.toNat) (acc++[sh]))
   else if(unpk w).2.2=0 then Ym lm ws f (i+1+(unpk w).1.toNat) acc else acc
def Xd(lm:List (Int×(Int×Int)))(ws:List Int):List (Int×Int):=Ym lm ws (ws.length+1) 0 []
def Z23{α:Type}{l:List (Int×α)}{k:Int}{x:α}(h:getA l k=some x):(k,x)∈l:=by
 unfold getA at h;obtain⟨y,hy,rfl⟩:=Zha.1 h
 grind
def Z4g{s:Ck}(hlm:∀x∈s.lm,Zm x.2.1 x.2.2=true){ws:List Int}(hl:ws.length<=1000000)(hw:∀w∈ws,U64 w):
  VC Sol.prog 111 false [ckP s,.sl (ws.map vu)] (.sl ((Xd s.lm ws).map shP)):=by
 refine Z5 Sol.func111 follows (by kernel_rfl) c111 rfl ?_
 have hlk:∀k,lkV (.i .u64) (mpA shP s.lm) (vu k) (.agg [vi 0,vi 0]) true=match getA s.lm k with
  |some x=>some (.tup [shP x,.bool true])
  |none=>some (.tup [.agg [vi 0,vi 0],.bool false]):=λk=>by grind [Z0L,getA]
 have h22:(ckL s)[22]?=some (mpA shP s.lm):=rfl;simp[p111]
 refine ZO (λ(p:Nat×List (Int×Int))=>[(3,.v (.sl (p.2.map shP))),(4,.v (vi p.1))])
  (λp=>p.1<=ws.length+256/\p.2.length<=p.1/\∃f,ws.length<f+p.1/\0<f/\Xd s.lm ws=Ym s.lm ws f p.1 p.2) (cnt 4 ws.length) (0,[]) (by simp) ⟨by simp,by simp,ws.length+1,by simp,by omega,rfl⟩ ?_
 rintro⟨i,acc⟩ ⟨hi,hacc,f,hf,hf0,hR⟩;simp only at hi hacc hf hR;cases f with
 |zero=>omega
 |succ f=>
 by_cases hlt:i<ws.length
 ·have hx:ws[i]?=some ws[i]:=Zh8 hlt;have hu:=hw _ (Zhi hlt);generalize ws[i]=w at*;simp only[Ym,hx]at hR;have hlim:acc.length+1<=lim:=by simp[lim];omega
  simp[hlt,hx,Zt hx,idxV];refine Z0 (yp hu) (by simp) ?_;by_cases ha:(adr w).2=0
  ·rw[if_pos ha]at hR;simp[ha,h22,hlk];cases hat:getA s.lm (adr w).1 with
   |none=>
    simp_all
   |some sh=>
    rw[hat]at hR;simp only at hR;have hsh:0<=sh.1/\sh.1<=255/\0<=sh.2/\sh.2<=sh.1:=Zb.1 (hlm _ (Z23 hat));obtain⟨z,hz⟩:=Zhl hsh.1;have hw1:=Z4 (1+(z:Int)) (by omega) (by omega);have hw2:=Z4 ((i:Int)+(1+z)) (by omega) (by omega);rw[hz,ZhV]at hR;simp[hlim,hz,hw1,hw2];refine⟨i+1+z,acc++[sh],⟨by omega,by simp;omega,f,by omega,?_,hR⟩,⟨by simp[shP,hz],by omega⟩,by simp[cnt];omega⟩;omega
  ·rw[if_neg ha]at hR;simp[ha,hx,Zt hx,hlt,idxV];refine Z0 (Z7n hu) (by simp) ?_;by_cases hun:(unpk w).2.2=0
   ·rw[if_pos hun]at hR;have hsh:=Zb.1 (yc hun);obtain⟨z,hz⟩:=Zhl hsh.1;have hw1:=Z4 (1+(z:Int)) (by omega) (by omega);have hw2:=Z4 ((i:Int)+(1+z)) (by omega) (by omega);rw[hz,ZhV]at hR;simp[hun,hz,hw1,hw2];refine⟨i+1+z,acc,⟨by omega,by omega,f,by omega,?_,hR⟩,⟨rfl,by omega⟩,by simp[cnt];omega⟩;omega
   simp_all
 simp_all[Zih,Ym]
end Vm
namespace Vm
open Go Go.Proofs
def copQ(pm:List (Int×Int)):List Ob->List (Int×Bool)->Option (List (Int×Bool))
 | [],m=>some m
 |o::l,m=>if o.gone=true then(if(getA pm o.target).getD 0=1/\(getA m o.target).getD false=false then copQ pm l (putA m o.target true)else none)else copQ pm l m
def Vb(s:Ck):Bool:= !s.h.cycle||match(copQ s.pm s.o3 []).bind (copQ s.pm s.o4)with
 |none=>false
 |some m=>decide (m.length=s.o1.length)
def Z6d{l:List (Int×Bool)}{k:Int}{x:Bool}:Jn (.i .u64) (mpA .bool l) (vu k) (.bool x)=some (mpA .bool (putA l k x)):=Jo
def Z3O{l:List (Int×Bool)}{k:Int}:lkV (.i .u64) (mpA .bool l) (vu k) (.bool false) false=some (.bool ((getA l k).getD false)):=by
 grind [Z0L,getA]
def Z3P{l:List (Int×Int)}{k:Int}:lkV (.i .u64) (mpA vi l) (vu k) (vi 0) false=some (vi ((getA l k).getD 0)):=by
 grind [Z0L,getA]
def ZaM{α:Type}(f:α->V):mpA f []=.mp 0 [] []:=rfl
def Z3u{s:Ck}(hs:s.ok):VC Sol.prog 99 false [ckP s] (.bool (Vb s)):=by
 refine Z5 Sol.func99 follows (by kernel_rfl) c99 rfl ?_;have hl3:s.o3.length<=1000000:=hs.len 3;have hl4:s.o4.length<=1000000:=hs.len 4;have hu3:∀o∈s.o3,U64 o.target:=λo ho=>(hs.ob 3 o ho).2;have hu4:∀o∈s.o4,U64 o.target:=λo ho=>(hs.ob 4 o ho).2;have a3:aiV (.agg [.sl (s.o1.map obV),.sl (s.o2.map obV),.sl (s.o3.map obV),.sl (s.o4.map obV)]) (.int .i64 2) 4 1 true=some (.agg [.sl (s.o3.map obV)]):=by simp[aiV]
 have a4:aiV (.agg [.sl (s.o1.map obV),.sl (s.o2.map obV),.sl (s.o3.map obV),.sl (s.o4.map obV)]) (.int .i64 3) 4 1 true=some (.agg [.sl (s.o4.map obV)]):=by simp[aiV]
 have a1:aiV (.agg [.sl (s.o1.map obV),.sl (s.o2.map obV),.sl (s.o3.map obV),.sl (s.o4.map obV)]) (.int .i64 0) 4 1 true=some (.agg [.sl (s.o1.map obV)]):=by simp[aiV]
 have h21:(ckL s)[21]?=some (mpA vi s.pm):=rfl;have hm0:=(ZaM V.bool).symm;unfold Vb;cases hc:s.h.cycle
 ·simp[p99,hc]
 simp[p99,hc,hm0]
 refine ZO (λ(p:Nat×List (Int×Bool))=>[(3,.v (mpA .bool p.2)),(4,.v (vi ((p.1+3:Nat):Int)))])
  (λp=>(p.1=0/\p.2=[])\/(p.1=1/\copQ s.pm s.o3 []=some p.2)\/(p.1=2/\(copQ s.pm s.o3 []).bind (copQ s.pm s.o4)=some p.2)) (cnt 4 5) (0,[]) (by simp) (by simp) ?_
 rintro⟨i,m⟩ (⟨rfl,rfl⟩|⟨rfl,hm⟩|⟨rfl,hm⟩)
 ·simp[Su,a3];refine ZO (λ(p:Nat×List (Int×Bool))=>[(3,.v (mpA .bool p.2)),(6,.v (vi p.1))]) (λp=>p.1<=s.o3.length/\copQ s.pm s.o3 []=copQ s.pm (s.o3.drop p.1) p.2) (cnt 6 s.o3.length) (0,[]) (by simp) (by simp) ?_;rintro⟨j,mj⟩ ⟨hj,he⟩;simp only at hj he;have hwj:=Z4 ((j:Int)+1) (by omega) (by omega);by_cases h1:j<s.o3.length
  ·have hx:s.o3[j]?=some s.o3[j]:=Zh8 h1;have hd:=ZhZ h1;have hut:=hu3 _ (Zhi h1);generalize s.o3[j]=o at*;rw[hd,copQ]at he;cases hg:o.gone
   ·rw[hg]at he;rw[if_neg (by simp)]at he;simp[idxV,h1,hx,Zt hx,hg,hwj];exact⟨j+1,mj,⟨by omega,he⟩,⟨rfl,by omega⟩,by simp[cnt];omega⟩
   ·rw[hg]at he;rw[if_pos rfl]at he;by_cases h2:(getA s.pm o.target).getD 0=1
    ·cases h3:(getA mj o.target).getD false
     ·rw[if_pos ⟨h2,h3⟩]at he;simp[idxV,h1,hx,Zt hx,hg,hwj,h21,Z3P,Z3O,flV,V.flatc,h2,h3,Z6d];exact⟨j+1,putA mj o.target true,⟨by omega,he⟩,⟨rfl,by omega⟩,by simp[cnt];omega⟩
     ·rw[if_neg (by simp[h3])]at he;simp[idxV,h1,hx,Zt hx,hg,hwj,h21,Z3P,Z3O,flV,V.flatc,h2,h3,he]
    ·rw[if_neg (by simp[h2])]at he;simp[idxV,h1,hx,Zt hx,hg,hwj,h21,Z3P,Z3O,flV,V.flatc,h2,he]
  ·have:j=s.o3.length:=by omega
   subst this;rw[List.drop_length,copQ]at he;simp[Z4];exact⟨1,mj,by simp[he],by simp,by simp[cnt]⟩
 ·simp[Ri,a4];refine ZO (λ(p:Nat×List (Int×Bool))=>[(3,.v (mpA .bool p.2)),(6,.v (vi p.1))]) (λp=>p.1<=s.o4.length/\copQ s.pm s.o4 m=copQ s.pm (s.o4.drop p.1) p.2) (cnt 6 s.o4.length) (0,m) (by simp) (by simp) ?_;rintro⟨j,mj⟩ ⟨hj,he⟩;simp only at hj he;have hwj:=Z4 ((j:Int)+1) (by omega) (by omega);by_cases h1:j<s.o4.length
  ·have hx:s.o4[j]?=some s.o4[j]:=Zh8 h1;have hd:=ZhZ h1;have hut:=hu4 _ (Zhi h1);generalize s.o4[j]=o at*;rw[hd,copQ]at he;cases hg:o.gone
   ·rw[hg]at he;rw[if_neg (by simp)]at he;simp[idxV,h1,hx,Zt hx,hg,hwj];exact⟨j+1,mj,⟨by omega,he⟩,⟨rfl,by omega⟩,by simp[cnt];omega⟩
   ·rw[hg]at he;rw[if_pos rfl]at he;by_cases h2:(getA s.pm o.target).getD 0=1
    ·cases h3:(getA mj o.target).getD false
     ·rw[if_pos ⟨h2,h3⟩]at he;simp[idxV,h1,hx,Zt hx,hg,hwj,h21,Z3P,Z3O,flV,V.flatc,h2,h3,Z6d];exact⟨j+1,putA mj o.target true,⟨by omega,he⟩,⟨rfl,by omega⟩,by simp[cnt];omega⟩
     ·rw[if_neg (by simp[h3])]at he;simp[idxV,h1,hx,Zt hx,hg,hwj,h21,Z3P,Z3O,flV,V.flatc,h2,h3,hm,he]
    ·rw[if_neg (by simp[h2])]at he;simp[idxV,h1,hx,Zt hx,hg,hwj,h21,Z3P,Z3O,flV,V.flatc,h2,hm,he]
  ·have:j=s.o4.length:=by omega
   subst this;rw[List.drop_length,copQ]at he;simp[Z4];exact⟨2,mj,by grind,by simp,by simp[cnt]⟩
 ·simp[jJ,Su,a1]
  grind
end Vm
namespace Vm
open Go Go.Proofs
def Kx:Prop:=∀ws:List Int,ws.length<=1000000->(∀w∈ws,U64 w)->VC Sol.prog 108 true [.sl (ws.map vu)] (.tup [.sl ((Zp ws [] false).1.map obV),vi (Zp ws [] false).2])
def Wz:Prop:=∀(ws:List Int) (shs:List (Int×Int)),ws.length<=1000000->shs.length<=1000000->(∀w∈ws,U64 w)->(∀x∈shs,Zm x.1 x.2=true)->
 VC Sol.prog 110 true [.sl (ws.map vu),.sl (shs.map shP)] (.tup [.sl ((Zp ws shs true).1.map obV),vi (Zp ws shs true).2])
def Zz(s:Ck)(k:Int):List Ob×Int:=if k<=2 then Zp (Zh s.h k) [] false else Zp (Zh s.h k) (Xd s.lm (Zh s.h k)) true
def Ys:List Int->Ck->Bool×Ck
 | [],s=>(true,s)
 |k::l,s=>if(Zz s k).2=0 then Ys l (XF s k (Zz s k).1)else(false,s)
def ZY(s:Ck):Bool×Ck:=Ys [1,2,3,4] s
def Tl(s:Ck)(k:Int)(l:List Ob):(XF s k l).h=s.h:=ZfR s k l
def Z8E{α:Type}{l:List (Int×α)}{k:Int}{x:α}{y:Int×α}(h:y∈putA l k x):y=(k,x)\/y∈l:=by
 grind [putA,List.mem_or_eq_of_mem_set]
def WM{h:Hp}{k:Int}:∀ {l:List Ob} {m:List (Int×(Int×Int))},(∀o∈l,Zm o.size o.ptrs=true)->(∀x∈m,Zm x.2.1 x.2.2=true)->∀x∈Y0 h k m l,Zm x.2.1 x.2.2=true
 | [],m,_,hm=>hm
 |o::l,m,ho,hm=>by
  rw[Y0];refine WM (λp hp=>ho p (ZhB _ hp)) ?_;split
  ·intro x hx;obtain rfl|hx:=Z8E hx
   ·simp_all
   grind
  ·exact hm
def Wd{s:Ck}(hh:s.h.ok){k:Int}:(∀o∈(Zz s k).1,ObIn (Zh s.h k).length o/\U64 o.target)/\(Zz s k).1.length<=(Zh s.h k).length:=by
 unfold Zz;split
 ·exact⟨VB (Zu hh k).1,We⟩
 ·exact⟨VB (Zu hh k).1,We⟩
def Tt{lm:List (Int×(Int×Int))}{ws:List Int}:∀ {f i:Nat} {acc:List (Int×Int)},acc.length<=i->acc.length<=ws.length->(Ym lm ws f i acc).length<=ws.length
 |0,i,acc,_,h=>h
 |f+1,i,acc,hi,h=>by
  rw[Ym];cases hx:ws[i]? with
  |none=>exact h
  |some w=>
   have hlt:i<ws.length:=(Zh9.1 hx).1;simp only;split
   ·split
    ·exact h
    ·exact Tt (by simp;omega) (by simp;omega)
   ·split
    ·exact Tt (by omega) h
    ·exact h
def JT{lm:List (Int×(Int×Int))}{ws:List Int}:(Xd lm ws).length<=ws.length:=Tt (by simp) (by simp)
def UF{lm:List (Int×(Int×Int))}{ws:List Int}(hlm:∀x∈lm,Zm x.2.1 x.2.2=true):∀ {f i:Nat} {acc:List (Int×Int)},(∀x∈acc,Zm x.1 x.2=true)->∀x∈Ym lm ws f i acc,Zm x.1 x.2=true
 |0,i,acc,h=>h
 |f+1,i,acc,h=>by
  rw[Ym];cases hx:ws[i]? with
  |none=>exact h
  |some w=>
   simp only;split
   ·split
    ·exact h
    ·rename_i sh hsh;refine UF hlm ?_;intro x hx;obtain hx|hx:=Zhx.1 hx
     ·grind
     ·simp at hx;subst hx;exact hlm _ (Z23 hsh)
   ·split
    ·exact UF hlm h
    ·exact h
def Z9a:IntKind.i64.wrap 4=4:=by decide
def Z4C(hW:Kx)(hWO:Wz){s:Ck}(hh:s.h.ok)(hlm:∀x∈s.lm,Zm x.2.1 x.2.2=true):VCM Sol.prog 98 [.mem ckK] [.agg (ckL s)] (.tup [.bool (ZY s).1,.agg (ckL (ZY s).2)]):=by
 refine WZ Sol.func98 follows (by kernel_rfl) c98 (by kernel_rfl) ?_;simp[p98];refine ZO (λ(p:Nat×Ck)=>[(0,.m (ckL p.2)),(3,.v (vi p.1))]) (λp=>p.1<=4/\p.2.h=s.h/\(∀x∈p.2.lm,Zm x.2.1 x.2.2=true)/\ZY s=Ys ([1,2,3,4].drop p.1) p.2) (cnt 3 4) (0,s) (by simp) ⟨by simp,rfl,hlm,rfl⟩ ?_;rintro⟨i,q⟩ ⟨hi,hq,hql,hR⟩;simp only at hi hq hql hR;have hqh:q.h.ok:=hq▸hh;have hi':i=0\/i=1\/i=2\/i=3\/i=4:=by omega
 have kw:=λk hk=>Z2T (s:=q) (k:=k) hk;have ks:=λk=>Z4g (s:=q) hql (Zu hqh k).2 (Zu hqh k).1;obtain rfl|rfl|rfl|rfl|rfl:=hi'
 ·replace kw:=kw 1 (by omega);have st:=Wd hqh (k:=1);have kn:=Qk (s:=q) hqh (k:=1) (by omega) (l:=(Zz q 1).1) (Zht st.2 (Zu hqh 1).2);have k1:=hW _ (Zu hqh 1).2 (Zu hqh 1).1;have hsh:=WM (h:=q.h) (k:=1) (l:=(Zz q 1).1) (m:=q.lm) (λo ho=>(st.1 o ho).1.2) hql;replace hR:ZY s=Ys (1:: [2,3,4]) q:=hR;rw[Ys]at hR;have hws:Zz q 1=Zp (Zh q.h 1) [] false:=rfl;rw[<-hws]at k1;generalize Zz q 1=z at*;obtain⟨l,e⟩:=z;simp only at k1 kn hR hsh st;unfold ckP ckL at kw;unfold ckL at kn;simp[ckL,K6,Su,Ri,Z9a];refine Z0 kw (by simp) ?_;simp;refine Z0 k1 (by simp) ?_;simp;by_cases he:e=0
  ·rw[if_pos he]at hR;simp[he];refine Y9 kn ?_;simp[Z4];exact⟨1,XF q 1 l,⟨by omega,by rw[Tl,hq],λa b c h=>hsh (a,b,c) h,hR⟩,⟨by simp,rfl⟩,by simp[cnt]⟩
  simp_all
 ·replace kw:=kw 2 (by omega);have st:=Wd hqh (k:=2);have kn:=Qk (s:=q) hqh (k:=2) (by omega) (l:=(Zz q 2).1) (Zht st.2 (Zu hqh 2).2);have k1:=hW _ (Zu hqh 2).2 (Zu hqh 2).1;have hsh:=WM (h:=q.h) (k:=2) (l:=(Zz q 2).1) (m:=q.lm) (λo ho=>(st.1 o ho).1.2) hql;replace hR:ZY s=Ys (2:: [3,4]) q:=hR;rw[Ys]at hR;have hws:Zz q 2=Zp (Zh q.h 2) [] false:=rfl;rw[<-hws]at k1;generalize Zz q 2=z at*;obtain⟨l,e⟩:=z;simp only at k1 kn hR hsh st;unfold ckP ckL at kw;unfold ckL at kn;simp[ckL,K6,Su,Ri,Z9a];refine Z0 kw (by simp) ?_;simp;refine Z0 k1 (by simp) ?_;simp;by_cases he:e=0
  ·rw[if_pos he]at hR;simp[he];refine Y9 kn ?_;simp[Z4];exact⟨2,XF q 2 l,⟨by omega,by rw[Tl,hq],λa b c h=>hsh (a,b,c) h,hR⟩,⟨by simp,rfl⟩,by simp[cnt]⟩
  simp_all
 ·replace kw:=kw 3 (by omega);have st:=Wd hqh (k:=3);have kn:=Qk (s:=q) hqh (k:=3) (by omega) (l:=(Zz q 3).1) (Zht st.2 (Zu hqh 3).2);have k1:=hWO _ (Xd q.lm (Zh q.h 3)) (Zu hqh 3).2 (Zht JT (Zu hqh 3).2) (Zu hqh 3).1 (UF hql (by simp));replace ks:=ks 3;have hsh:=WM (h:=q.h) (k:=3) (l:=(Zz q 3).1) (m:=q.lm) (λo ho=>(st.1 o ho).1.2) hql;replace hR:ZY s=Ys (3:: [4]) q:=hR;rw[Ys]at hR;have hws:Zz q 3=Zp (Zh q.h 3) (Xd q.lm (Zh q.h 3)) true:=rfl;rw[<-hws]at k1;generalize Zz q 3=z at*;obtain⟨l,e⟩:=z;simp only at k1 kn hR hsh st;unfold ckP ckL at kw ks;unfold ckL at kn;simp[ckL,K6,Su,Ri,Z9a];refine Z0 kw (by simp) ?_;simp;refine Z0 kw (by simp) ?_;simp;refine Z0 ks (by simp) ?_;simp;refine Z0 k1 (by simp) ?_;simp;by_cases he:e=0
  ·rw[if_pos he]at hR;simp[he];refine Y9 kn ?_;simp[Z4];exact⟨3,XF q 3 l,⟨by omega,by rw[Tl,hq],λa b c h=>hsh (a,b,c) h,hR⟩,⟨by simp,rfl⟩,by simp[cnt]⟩
  simp_all
 ·replace kw:=kw 4 (by omega);have st:=Wd hqh (k:=4);have kn:=Qk (s:=q) hqh (k:=4) (by omega) (l:=(Zz q 4).1) (Zht st.2 (Zu hqh 4).2);have k1:=hWO _ (Xd q.lm (Zh q.h 4)) (Zu hqh 4).2 (Zht JT (Zu hqh 4).2) (Zu hqh 4).1 (UF hql (by simp));replace ks:=ks 4;have hsh:=WM (h:=q.h) (k:=4) (l:=(Zz q 4).1) (m:=q.lm) (λo ho=>(st.1 o ho).1.2) hql;replace hR:ZY s=Ys (4:: []) q:=hR;rw[Ys]at hR;have hws:Zz q 4=Zp (Zh q.h 4) (Xd q.lm (Zh q.h 4)) true:=rfl;rw[<-hws]at k1;generalize Zz q 4=z at*;obtain⟨l,e⟩:=z;simp only at k1 kn hR hsh st;unfold ckP ckL at kw ks;unfold ckL at kn;simp[ckL,K6,Su,Ri,Z9a];refine Z0 kw (by simp) ?_;simp;refine Z0 kw (by simp) ?_;simp;refine Z0 ks (by simp) ?_;simp;refine Z0 k1 (by simp) ?_;simp;by_cases he:e=0
  ·rw[if_pos he]at hR;simp[he];refine Y9 kn ?_;simp[Z4];exact⟨4,XF q 4 l,⟨by omega,by rw[Tl,hq],λa b c h=>hsh (a,b,c) h,hR⟩,⟨by simp,rfl⟩,by simp[cnt]⟩
  simp_all
 ·replace hR:ZY s=(true,q):=hR;simp[hR,ckL]
end Vm
namespace Vm
open Go Go.Proofs
def Z4x{P:Program}{f:FuncId}{ks:List CK}{cs:List V}{r:V}(hv:VC P f false [.ptr cs] r)(hfl:r.flatc=true)(hlen:cs.length=ks.length)(hone:cs.all V.one=true)(hdd:ks.all (λk=> !(k==.dead))=true):
  VCM P f [.mem ks] [.agg cs] (.tup [r,.agg cs]):=by
 obtain⟨h1,h2⟩:=hv;refine⟨h1,λB w h vs hok hA=> ?_⟩;obtain⟨hxl,hvl,hAi⟩:=hA;obtain⟨tk,harg,hrel⟩:=hAi 0 (.mem ks) (.agg cs) rfl rfl;simp only[argK]at harg;rw[if_pos hlen]at harg;simp only[Zh6]at harg;subst harg;obtain⟨b,us,T,hb0,hv0,hh,hcs⟩:=hrel
 have hcells:∀(ks:List CK) (cs:List V),cs.length=ks.length->Yb [] (((ks.zip cs).map λy=>(y.1,E.c y.2)).map (·.2))=some cs:=by
  intro ks
  induction ks with
  |nil=>simp
  |cons k ks ih=>
   intro cs hl;cases cs with
   |nil=>simp at hl
   |cons c cs=>
    simp_all
 have hz:eval [] (.pt none (((ks.zip cs).map λy=>(y.1,E.c y.2)).map (·.2)))=some (.ptr cs):=by
  simp only[eval,hcells ks cs hlen,Zhh,ptV,hone,ZhR]
 have hd:Y8 ((ks.zip cs).map λy=>(y.1,E.c y.2))=false:=by
  rw[Y8,ZjZ];intro x hx;obtain⟨y,hy,rfl⟩:=Zhq.1 hx;have:=Zhm.1 hdd y.1 (List.of_mem_zip hy).1;simpa using this
 have hrd:=Jl (G':=λb=>h.F b\/∃t i,h.bl t i=some b) hb0 hh hcs hd hz (λb hb=>.inl hb) λi b hb=>.inr ⟨0,i,hb⟩;refine ZkD (h2 w (λb=>h.F b\/∃t i,h.bl t i=some b) vs (λb hb=> ?_) (by omega) λi x hx=> ?_) λe w' he=> ?_
 ·obtain hb|⟨t,i,hb⟩:=hb
  ·exact hok.f_lt b hb
  ·exact(hok.b_lt t i b hb).2.1
 ·grind
 ·obtain⟨v,rfl,hbel,hrv⟩:=he;have hsz:=hbel.size;have hF:Same h.F w w':=λb hb=>hbel.block b (hok.f_lt b hb);have hB:∀t i b,h.bl t i=some b->w'.heap[b]?=w.heap[b]? :=λt i b hb=>hbel.block b (hok.b_lt t i b hb).2.1
  have hlen1:us.size=cs.length:=by
   have:=hcs.1;simp[hlen]at this;omega
  refine⟨v,r,[.agg cs],h,rfl,hbel.mono hok.base,λb hb=>hbel.block b (hok.k_lt b hb),⟨Zht hok.base hsz,λb hb=>Zhj (hok.f_lt b hb) hsz,hok.f_or,hok.g_F,λt i b hb=> ?_,hok.inj,λb hb=>Zhj (hok.k_lt b hb) hsz,hok.k_bl,hok.k_F⟩,rfl,hrv.flat hfl,⟨rfl,λi k y hk hkz hy=> ?_⟩,rfl⟩
  ·obtain⟨q1,q2,q3⟩:=hok.b_lt t i b hb
   grind
  ·cases i with
   |zero=>
    simp at hk hy;subst hk;subst hy;refine⟨.mem ((ks.zip cs).map λy=>(y.1,.c y.2)),by rw[argK,if_pos hlen],b,us,T,hb0,hv0,?_,hcs.keep hF (λ_ hb=>hb) (λ_=>rfl) λi b hb=>hB 0 _ b hb⟩
    grind
   |succ i=>simp at hk
end Vm
namespace Vm
open Go Go.Proofs
def Ud:List FuncId:=[96,97,98,99,100,101,102,103]
def fnA(f:FuncId):V:=.agg [.fn f]
def Z8R:VC Sol.prog 80 false [] (.sl (Ud.map fnA)):=by
 refine Z5 Sol.func80 follows (by kernel_rfl) c80 rfl ?_;simp[p80,Ud,fnA]
def zW(f:FuncId)(s:Ck):Bool×Ck:=
 if f=96 then(Wi s,s)else if f=97 then(Vu s,s)else if f=98 then ZY s
 else if f=99 then(Vb s,s)else if f=100 then(Vx s,s)else if f=101 then(Xp s,s)else if f=102 then(Z0J s,s)else(JM s,s)
structure Ck.okk (s:Ck):Prop where
 ok:s.ok
 lm:∀x∈s.lm,Zm x.2.1 x.2.2=true
def Ck.obs_put(s:Ck)(k:Int)(l:List Ob)(hk:1<=k/\k<=4)(j:Int):(s.put k l).obs j=if j=k\/(k=4/\¬(j=1\/j=2\/j=3))then l else s.obs j:=by
 have:k=1\/k=2\/k=3\/k=4:=by omega
 obtain rfl|rfl|rfl|rfl:=this<;>simp[Ck.put,Ck.obs]<;>(split<;>simp_all)<;>(grind)<;>(grind)
def Z6k{s:Ck}(hs:s.okk){k:Int}(hk:1<=k/\k<=4):(XF s k (Zz s k).1).okk:=by
 have st:=Wd hs.ok.h (k:=k);have hpl:=(Zu hs.ok.h k).2;have hobs:∀j,(XF s k (Zz s k).1).obs j=((s.put k (Zz s k).1).obs j):=λj=>rfl;refine⟨⟨by rw[Tl];exact hs.ok.h,λj o ho=> ?_,λj=> ?_⟩,WM (λo ho=>(st.1 o ho).1.2) hs.lm⟩
 ·rw[Tl];rw[hobs,Ck.obs_put _ _ _ hk]at ho;split at ho
  ·rename_i h
   have:Zh s.h j=Zh s.h k:=by
    obtain rfl|⟨rfl,h⟩:=h
    ·rfl
    ·simp_all[not_or,Zh]
   simp_all
  ·exact hs.ok.ob j o ho
 ·rw[hobs,Ck.obs_put _ _ _ hk];split
  ·omega
  ·exact hs.ok.len j
def K8:∀ {l:List Int} {s:Ck},(∀k∈l,1<=k/\k<=4)->s.okk->(Ys l s).2.okk/\(Ys l s).2.h=s.h
 | [],s,_,hs=>⟨hs,rfl⟩
 |k::l,s,hl,hs=>by
  rw[Ys];split
  ·simp_all[K8,ZhB,Z6k,ZhJ,trans,Tl]
  simp_all
def Z1B{s:Ck}(hs:s.okk):(ZY s).2.okk/\(ZY s).2.h=s.h:=K8 (by simp) hs
def Z6X{s:Ck}(hs:s.okk){f:FuncId}:(zW f s).2.okk/\(zW f s).2.h=s.h:=by
 unfold zW
 repeat' split
 all_goals first|exact⟨hs,rfl⟩|exact Z1B hs
def Z8Q(hW:Kx)(hWO:Wz){s:Ck}(hs:s.okk){f:FuncId}(hf:f∈Ud):VCM Sol.prog f [.mem ckK] [.agg (ckL s)] (.tup [.bool (zW f s).1,.agg (ckL (zW f s).2)]):=by
 have go:∀ {f b},VC Sol.prog f false [ckP s] (.bool b)->VCM Sol.prog f [.mem ckK] [.agg (ckL s)] (.tup [.bool b,.agg (ckL s)]):=λh=>Z4x h rfl rfl rfl rfl;simp only[Ud,Zho,Zil,ZjD]at hf;obtain rfl|rfl|rfl|rfl|rfl|rfl|rfl|rfl:=hf
 ·exact go (Z36 hs.ok.h)
 ·exact go Z47
 ·exact Z4C hW hWO hs.ok.h hs.lm
 ·exact go (Z3u hs.ok)
 ·exact go (Z4e hs.ok)
 ·exact go (jH hs.ok)
 ·exact go (ZaB hs.ok)
 ·exact go (Z8P hs.ok)
def Z8g:List FuncId->Ck->Option Ck
 | [],s=>some s
 |f::l,s=>if(zW f s).1=true then Z8g l (zW f s).2 else none
def ZZ(h:Hp):Ck:= {h:=h,o1:=[],o2:=[],o3:=[],o4:=[],pm:=[],lm:=[]}
def Ji(h:Hp):Option Ck:=Z8g Ud (ZZ h)
def Z3I{h:Hp}(hh:h.ok):(ZZ h).okk:=by
 have h0:∀k,(ZZ h).obs k=[]:=λk=>by simp[ZZ,Ck.obs]
 refine⟨⟨hh,λk o ho=> ?_,λk=> ?_⟩,λx hx=>(by simp[ZZ]at hx)⟩
 ·simp_all
 simp_all
def Z63(hW:Kx)(hWO:Wz){h:Hp}(hh:h.ok):VC Sol.prog 50 false [hpV h] (.tup [match Ji h with|some s=>ckP s|none=>.nul 0,.bool (Ji h).isSome]):=by
 refine Z5 Sol.func50 follows (by kernel_rfl) c50 rfl ?_;have k1:=yj (h:=h);have k2:=Z8R;have hlen:Ud.length=8:=rfl;unfold hpV at k1;simp[p50];refine Z0 k1 (by simp) ?_;simp[lyV,layH];refine Z0 k2 (by simp) ?_;simp;refine ZO (λ(p:Nat×Ck)=>[(5,.m (ckL p.2)),(6,.v (vi p.1))]) (λp=>p.1<=8/\p.2.okk/\Ji h=Z8g (Ud.drop p.1) p.2) (cnt 6 8) (0,ZZ h) (by rfl) ⟨by simp,Z3I hh,rfl⟩ ?_;rintro⟨i,q⟩ ⟨hi,hq,hR⟩;simp only at hi hq hR;have hwi:=Z4 ((i:Int)+1) (by omega) (by omega);by_cases hlt:i<Ud.length
 ·have hx:Ud[i]?=some Ud[i]:=Zh8 hlt;have hd:=ZhZ hlt;have hm:=Zhi hlt;generalize Ud[i]=f at*;rw[hd,Z8g]at hR;have kr:=Z8Q hW hWO hq hm;have hok:=(Z6X hq (f:=f)).1;rw[hlen]at hlt;have hlt':(i:Int)<8:=by omega
  simp[idxV,hlt,hlt',hx,Zt hx,hlen,fnA,ckL];unfold ckL at kr;refine Y9 kr ?_;cases hb:(zW f q).1
  ·rw[if_neg (by simp[hb])]at hR;simp[hR]
  ·rw[if_pos hb]at hR;simp[hwi];exact⟨i+1,(zW f q).2,⟨by omega,hok,hR⟩,⟨by simp,by omega⟩,by simp[cnt];omega⟩
 ·have:i=8:=by omega
  subst this;replace hR:Ji h=some q:=hR;simp[hlen,hR,ckL,ckP]
def Z4G(hW:Kx)(hWO:Wz){h:Hp}(hh:h.ok):VC Sol.prog 19 false [hpV h] (.bool (Ji h).isSome):=by
 refine Z5 Sol.func19 follows (by kernel_rfl) c19 rfl ?_;simp[p19];refine Z0 (Z63 hW hWO hh) (by simp) ?_;simp
def Z6l(h:Hp)(k:Int):List Ob×Int:=match Ji h with
 |some s=>if 1<=k/\k<=4 then(s.obs k,0)else([],1)
 |none=>([],1)
def jT(hW:Kx)(hWO:Wz){h:Hp}(hh:h.ok){k:Int}:VC Sol.prog 56 false [hpV h,vi k] (.tup [.sl ((Z6l h k).1.map obV),vi (Z6l h k).2]):=by
 refine Z5 Sol.func56 follows (by kernel_rfl) c56 rfl ?_;simp[p56];refine Z0 (Z63 hW hWO hh) (by simp) ?_;unfold Z6l;cases hl:Ji h with
 |none=>simp
 |some s=>
  by_cases h1:1<=k
  ·by_cases h2:k<=4
   ·have:k=1\/k=2\/k=3\/k=4:=by omega
    obtain rfl|rfl|rfl|rfl:=this<;>simp[aiV,jJ,K6,Su,Ri,Ck.obs]
   ·have h1':¬k<1:=by omega
    have h2':4<k:=by omega
    simp[h1,h2,h1',h2']
  ·have h1':k<1:=by omega
   simp[h1,h1']
end Vm
end
section
namespace Vm
open Go Go.Proofs
structure Stands (ws:List Int) (old:Bool) (o:Ob):Prop where
 nat:0<=o.at_
 shape:Zm o.size o.ptrs=true
 fits:o.at_+1+o.size<=ws.length
 slots:ZN ((ws.drop (o.at_.toNat+1)).take o.size.toNat) o.gone o.ptrs 0=true
 word:∃w,ws[o.at_.toNat]?=some w/\(if o.gone then old=true/\(adr w).2=0/\o.target=(adr w).1 else(old=true->¬(adr w).2=0)/\unpk w=(o.size,o.ptrs,0)/\o.target=0)
def Tiles(ws:List Int)(old:Bool):Nat->List Ob->Prop
 |a,[]=>ws.length<=a
 |a,o::l=>o.at_=a/\Stands ws old o/\Tiles ws old (a+1+o.size.toNat) l
def Z0V{ws:List Int}{shs:List (Int×Int)}{old:Bool}{a tk t:Nat}{w:Int}{o:Ob}(hw:ws[a]?=some w)(ho:objR shs old a tk w=some (o,t))(hl:¬(ws.length:Int)<a+1+o.size)
  (hs:¬ZN ((ws.drop (a+1)).take o.size.toNat) o.gone o.ptrs 0=false):o.at_=a/\Stands ws old o:=by
 have h2:=Us ho;refine⟨h2.2,?_,h2.1,?_,?_,w,?_,?_⟩
 ·omega
 ·omega
 ·simp_all
 ·simp_all
 ·unfold objR at ho
  grind
def K7{ws:List Int}{shs:List (Int×Int)}{old:Bool}:∀(f a tk:Nat) (acc l:List Ob),YQ ws shs old f a tk acc=(l,0)->∃r,l=acc++r/\Tiles ws old a r
 |0,_,_,_,_,h=>by simp[YQ]at h
 |f+1,a,tk,acc,l,h=>by
  unfold YQ at h;split at h
  ·rename_i hn;split at h
   grind
   ·simp only[Zhf,and_true]at h;subst h;exact⟨[],by simp,ZjG.1 hn⟩
  ·rename_i w hw;split at h
   grind
   ·rename_i o t ho;split at h
    grind
    rename_i h1;split at h
    grind
    rename_i h2;obtain⟨r,rfl,hr⟩:=K7 f _ _ _ _ h;have hs:=Z0V hw ho h1 h2;exact⟨o::r,by simp,hs.1,hs.2,hr⟩
def Yn{ws:List Int}{shs:List (Int×Int)}{old:Bool}{l:List Ob}(h:Zp ws shs old=(l,0)):Tiles ws old 0 l:=by
 obtain⟨r,h1,h2⟩:=K7 _ _ _ _ _ h;simp_all
def Tiles.stands{ws:List Int}{old:Bool}:∀ {a:Nat} {l:List Ob},Tiles ws old a l->∀o∈l,Stands ws old o/\(a:Int)<=o.at_
 |_,[],_,_,h=>by simp at h
 |a,o::l,h,x,hx=>by
  have hs:=Zb.1 h.2.1.shape;obtain rfl|hx:=Zho.1 hx
  ·exact⟨h.2.1,by rw[h.1];omega⟩
  ·have:=Tiles.stands h.2.2 x hx
   grind
def Tiles.apart{ws:List Int}{old:Bool}:∀ {a:Nat} {l:List Ob},Tiles ws old a l->∀o∈l,∀q∈l,o=q\/o.at_+1+o.size<=q.at_\/q.at_+1+q.size<=o.at_
 |_,[],_,_,h,_,_=>by simp at h
 |a,x::l,h,o,ho,q,hq=>by
  have hs:=Zb.1 h.2.1.shape;have e:=h.1;obtain rfl|ho:=Zho.1 ho
  ·obtain rfl|hq:=Zho.1 hq
   ·simp
   ·have:=(Tiles.stands h.2.2 q hq).2;omega
  ·obtain hq|hq:=Zho.1 hq
   ·have:=(Tiles.stands h.2.2 o ho).2
    grind
   ·exact Tiles.apart h.2.2 o ho q hq
structure RightH (h:Hp) (p:Pts):Prop where
 parts:ZT h=some p
 num:numR h=true
 ok:Sj h p=true
 low:Tiles h.low false 0 p.low
 high:Tiles h.high false 0 p.high
 old:Tiles h.old true 0 p.old
 far:Tiles h.far true 0 p.far
def Z6R{h:Hp}(hr:Yp h=true):∃p,RightH h p:=by
 obtain⟨p,h1,h2,h3⟩:=Z1l hr;refine⟨p,h1,h3,h2,?_,?_,?_,?_⟩
 all_goals
  clear h3;unfold ZT at h1;dsimp only at h1;split at h1
  ·cases h1
  rename_i c1;split at h1
  ·cases h1
  rename_i c2;cases h1
  have c3:(Zp h.low [] false).2=0/\(Zp h.high [] false).2=0:=by
   refine⟨Zi8 λhc=>c1 (.inl hc),Zi8 λhc=>c1 (.inr hc)⟩
  have c4:∀x:Int,¬x≠0->x=0:=λx hx=>Zi8 hx;have e3:=c4 _ (λhx=>c2 (.inr (.inr (.inl hx))));have e4:=c4 _ (λhx=>c2 (.inr (.inr (.inr hx))))
  first|exact Yn (Zjq rfl c3.1)|exact Yn (Zjq rfl c3.2)|exact Yn (Zjq rfl e3)|exact Yn (Zjq rfl e4)
def RightH.tiles{h:Hp}{p:Pts}(r:RightH h p){k:Int}(hk:1<=k/\k<=4):Tiles (Zh h k) (decide (2<k)) 0 (p.at k):=by
 have:k=1\/k=2\/k=3\/k=4:=by omega
 obtain rfl|rfl|rfl|rfl:=this
 ·exact r.low
 ·exact r.high
 ·exact r.old
 ·exact r.far
def RightH.lay{h:Hp}{p:Pts}(r:RightH h p):Zl (layH h)=true:=by
 have:=r.num;simp_all[numR,Zhb]
def refR(l:Ly)(k a:Int):Int:=2*(fstL l k+a)+1
def Z9Y{l:Ly}(hr:Zl l=true){k a:Int}(ha:0<=a):adr (refR l k a)=(fstL l k+a,0):=by
 have:=Yq hr k;unfold adr refR
 grind
theorem jX{l:Ly}(hr:Zl l=true){k a:Int}(hk:1<=k/\k<=4)(ha:0<=a/\a<sizL l k):ZI l k a=(fstL l k+a,0):=by
 simp_all[ZI,if_neg]
theorem Z0j{l:Ly}(hr:Zl l=true){k a:Int}(hk:1<=k/\k<=4)(ha:0<=a/\a<sizL l k):Z7Y l (fstL l k+a)=(k,a,0):=by
 have h:=Yr.1 hr;have ht:=Z94 hr;unfold Z7Y inL;rw[if_neg (by simp[hr])];simp only[Zhb,Zhw];have hk4:k=1\/k=2\/k=3\/k=4:=by omega
 obtain rfl|rfl|rfl|rfl:=hk4
 ·grind
 ·simp only[fstL,sizL]at ha⊢
  grind
 ·simp only[fstL,sizL]at ha⊢
  grind
 ·simp only[fstL,sizL]at ha⊢
  grind
end Vm
namespace Vm
open Go Go.Proofs
end Vm
namespace Vm
open Go Go.Proofs
def Tv{h:Hp}{ws:List Int}{low:List Ob}:∀(f i:Nat) (acc l:List (Int×Int)),ZW h ws low f i acc=some l->∃r,l=acc++r
 |0,_,_,_,he=>by simp[ZW]at he
 |f+1,i,acc,l,he=>by
  unfold ZW at he;split at he
  ·cases he;exact⟨[],by simp⟩
  ·split at he
   ·split at he
    ·cases he
    ·obtain⟨r,hr⟩:=Tv f _ _ _ he;exact⟨_,by rw[hr,Ziy]⟩
   ·split at he
    ·exact Tv f _ _ _ he
    ·cases he
def Vz{h:Hp}{ws:List Int}{low:List Ob}:∀(f i:Nat) (acc shs:List (Int×Int)),ZW h ws low f i acc=some shs->∀(f':Nat) (acc' l:List Ob),YQ ws shs true f' i acc.length acc'=(l,0)->
  ∃r,l=acc'++r/\∀o∈r,o.gone=true->∃q,atR h 1 low o.target=some q/\q.size=o.size/\q.ptrs=o.ptrs
 |0,_,_,_,he=>by simp[ZW]at he
 |f+1,i,acc,shs,he=>by
  intro f' acc' l hw;cases f' with
  |zero=>simp[YQ]at hw
  |succ f'=>
   unfold ZW at he;unfold YQ at hw;cases hwi:ws[i]? with
   |none=>
    simp_all
   |some w=>
    simp only[hwi]at he hw;by_cases ha:(adr w).2=0
    ·simp only[ha,ZhR]at he;cases hq:atR h 1 low (adr w).1 with
     |none=>simp_all
     |some q=>
      simp only[hq]at he;obtain⟨r,hr⟩:=Tv _ _ _ _ he;have hs:shs[acc.length]?=some (q.size,q.ptrs):=by rw[hr];simp
      unfold objR at hw;rw[if_pos ⟨rfl,ha⟩]at hw;simp only[hs]at hw;by_cases hsh:Zm q.size q.ptrs=true
      ·rw[if_pos hsh]at hw;simp only at hw;split at hw
       ·simp at hw
       split at hw
       ·simp at hw
       have hlen:acc.length+1=(acc++[(q.size,q.ptrs)]).length:=by simp
       rw[hlen]at hw;obtain⟨r',h1,h2⟩:=Vz f _ _ _ he _ _ _ hw
       grind
      simp_all
    ·simp only[ha,ZhT]at he;by_cases hu:(unpk w).2.2=0
     ·simp only[hu,ZhR]at he;unfold objR at hw;rw[if_neg (λhc=>ha hc.2),if_pos hu]at hw;simp only at hw;split at hw
      ·simp at hw
      split at hw
      ·simp at hw
      obtain⟨r',h1,h2⟩:=Vz f _ _ _ he _ _ _ hw;simp_all
     simp_all
def RightH.gone_low{h:Hp}{p:Pts}(r:RightH h p){k:Int}(hk:3<=k/\k<=4){o:Ob}(ho:o∈p.at k)(hg:o.gone=true):∃q∈p.low,ZA h 1 q.at_=o.target/\q.size=o.size/\q.ptrs=o.ptrs:=by
 have h1:=r.parts;unfold ZT at h1;dsimp only at h1;split at h1
 ·cases h1
 split at h1
 ·cases h1
 rename_i c2
 have aux:∀(ws:List Int) (x:Option (List (Int×Int))),x=ZX h ws (Zp h.low [] false).1->¬x=none->(Zp ws (x.getD []) true).2=0->o∈(Zp ws (x.getD []) true).1->
   ∃q∈(Zp h.low [] false).1,ZA h 1 q.at_=o.target/\q.size=o.size/\q.ptrs=o.ptrs:=by
  intro ws x hx hn h0 ho;cases x with
  |none=>simp_all
  |some shs=>
   simp only[ZhL]at h0 ho;obtain⟨r',e1,e2⟩:=Vz _ _ _ _ hx.symm (ws.length+1) [] (Zp ws shs true).1 (Zjq rfl h0);simp only[Zir]at e1;rw[e1]at ho;obtain⟨q,hq,hs⟩:=e2 o ho hg;have:=Zjv hq
   grind [Z4N]
 have e3:¬ZX h h.old (Zp h.low [] false).1=none:=λe=>c2 (.inl e);have e4:¬ZX h h.far (Zp h.low [] false).1=none:=λe=>c2 (.inr (.inl e));have e5:(Zp h.old ((ZX h h.old (Zp h.low [] false).1).getD []) true).2=0:=Zi8 λe=>c2 (.inr (.inr (.inl e)));have e6:(Zp h.far ((ZX h h.far (Zp h.low [] false).1).getD []) true).2=0:=Zi8 λe=>c2 (.inr (.inr (.inr e)));cases h1;have:k=3\/k=4:=by omega
 obtain rfl|rfl:=this
 ·exact aux _ _ rfl e3 e5 (by simpa using ho)
 ·exact aux _ _ rfl e4 e6 (by simpa using ho)
def Z8M{l:Ly}(hr:Zl l=true){k j a b:Int}(hk:1<=k/\k<=4)(hj:1<=j/\j<=4)(ha:0<=a/\a<sizL l k)(hb:0<=b/\b<sizL l j)(h:refR l k a=refR l j b):k=j/\a=b:=by
 have h1:=Z0j hr hk ha;have h2:=Z0j hr hj hb;have:fstL l k+a=fstL l j+b:=by unfold refR at h;omega
 simp_all
def Zbs{u a:Int}(h0:(adr u).2=0)(h:(adr u).1=a):u=2*a+1:=by
 unfold adr at h0 h
 grind
end Vm
namespace Vm
open Go Go.Proofs
end Vm
end
