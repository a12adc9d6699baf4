import Derived.Test.YtlnhjkejgijgaaaGreatChecked
import Derived.ProofKit
import Derived.OpenShut
import Derived.RangeFuncNested
import Derived.RangeFuncBound
import Derived.WalkSpells
import Derived.WalkLawsBesides
import Derived.StillTailTactics
import Derived.Deep.RegionHeld3
import Derived.Deep.AppendLies
import Derived.Deep.Onto
import Derived.Deep.OwnRows
import Derived.Lib.Hide
import Derived.Lib.AppendZerosOnto
import Derived.Laws.CopyOwn
import Derived.Test.YtlnhjkejgijgaaaGreatSMoveGoes2
set_option linter.unusedSimpArgs false
set_option linter.unusedVariables false
set_option linter.defProp false
open Option renaming some→J,none→U
open Bool renaming true→xk,false→xw
open Go renaming undef→xy
open List renaming length→I
open Array renaming size→xz
open Go.World renaming heap→xj
open List renaming length→xq
open Array renaming size→xz
open Go.World renaming heap→xj
set_option maxHeartbeats 4000000
set_option maxRecDepth 100000
theorem Z2{p:Prop}(h:p:=by kernel_rfl):p:=h
theorem Z67{p:Prop}(h:p:=by simp[ZF]):p:=h
theorem Z69{p:Prop}(h:p:=by simp[Xa]):p:=h
theorem Z5N{p:Prop}(h:p:=by simp[Ye];omega):p:=h
theorem Z5L{p:Prop}(h:p:=by unfold ZN at d;omega):p:=h
theorem Z5q{p:Prop}(h:p:=by decide):p:=h
theorem Z68{p:Prop}(h:p:=by simp[Zy]):p:=h
theorem Z63{p:Prop}(h:p:=by simp only;omega):p:=h
theorem Z66{p:Prop}(h:p:=by simp[Xa];omega):p:=h
theorem Z5G{p:Prop}(h:p:=by unfold maxLen;omega):p:=h
def Z8b:=@Iff.rfl
def Z8J:=@List.range_succ
def Z7u:=@List.append_nil
def Z8s:=@Option.some.inj
def Z72:=@Int.tmod_eq_emod_of_nonneg
def Z95:=@Int.tdiv_eq_ediv_of_nonneg
def Z94:=@Int.fdiv_eq_ediv_of_nonneg
def Z7k:=@List.take_add_one
def Z8H:=@Int.emod_nonneg
def Z8q:=@Int.emod_lt_of_pos
def Z9A:=@List.set_append_right
def Z7a:=@List.drop_eq_getElem_cons
def Z6Y:=@List.append_assoc
def Z8j:=@List.map_set
def Z88:=@List.take_append_drop
def Z96:=@Bool.true_eq_false
def Z8c:=@List.getElem?_eq_none_iff
def Z8P:=@Prod.ext
def Z7g:=@List.length_set
def Z9l:=@not_true_eq_false
def Z8M:=@List.filter_eq_nil_iff
def Z9J:=@decide_true
def Z9b:=@decide_false
def Z8V:=@Bool.false_or
def Z9c:=@Bool.false_and
def Z9n:=@Bool.not_true
def Z8k:=@List.flatMap_append
def Z9r:=@List.drop_append
def Z7U:=@List.set_cons_zero
def Z7z:=@Nat.add_sub_cancel_left
def Z9f:=@List.take_left
def Z9h:=@List.flatMap_cons
def Z7H:=@decide_eq_true
def Z6U:=@List.getElem?_take_of_lt
def Z7f:=@List.length_eq_zero_iff
def Z79:=@List.findIdx?_eq_some_iff_getElem
def Z7q:=@List.getElem?_set
def Z9a:=@List.pairwise_cons
def Z9v:=@Bool.eq_iff_iff
def Z8G:=@Go.grownBy_putObj'
def Z7h:=@Go.World.alloc_heap_new
def Z7V:=@Go.World.size_alloc
def Z8p:=@Go.World.putObj_heap_same
def Z6P:=@Go.World.putObj_heap_other
def Z6w:=@Go.RowKit.Below.heap_setCell
def Z6e:=@Go.Lib.hid
def Z6x:=@Go.bodyPost_ret
def Z9I:=@Nat.mul_one
def Z8F:=@Array.ext
section
namespace Vm
open Go Go.Proofs
def sig(f:FuncId):Option<|List OT:=
 if f=76 then J [.mem [.fz,.fz,.fz,.fz,.fz,.fz,.fz,.fz,.fz,.fz,.fz,.fz,.fz,.fz,.fz,.fz,.fz,.fz,.fz,.fz,.fz,.own 107,.own 108],.fz,.fz]else
 if f=65 then J [.mem [.fz,.fz,.fz,.fz,.fz,.fz,.fz,.fz,.fz,.fz,.fz,.fz,.fz,.fz,.fz,.fz,.fz,.fz,.fz,.fz,.fz,.own 107,.own 108]]else
 if f=1000098 then J [.mem [.fz,.fz,.fz,.fz,.fz,.fz,.fz,.fz,.fz,.fz,.fz,.fz,.fz,.fz,.fz,.fz,.fz,.fz,.fz,.fz,.fz,.own 107,.own 108]]else
 U
@[simp]def pI(n:Int):E:=.c<|.int .i64 n
@[simp]def pU(n:Int):E:=.c<|.int .u64 n
@[simp]def pF:E:=.c<|.bool xw
@[simp]def pT:E:=.c<|.bool xk
@[simp]def pN:E:=.c<|.sl []
@[simp]def pG(e:E):Nat->Nat->List E
 |_,0=>[]
 |i,n+1=>.ac e i::pG e (i+1) n
@[simp]def pS(a n:Nat):OV:=.m<|pG (.sz (.s a) n) 0 n
@[simp]def pM(e:E)(n:Nat):OV:=.m<|pG e 0 n
@[simp]def pY:E:=.ag [pU 0,pI 0,pI 0,pF,pI 0,pN,pN,pN,pN,pN]
@[simp]def pZ:OV:=.m [pU 0,pI 0,pI 0,pF,pI 0,pN,pN,pN,pN,pN]
@[simp]def pR(l:List<|Nat×OV):Stm:=.be ⟨[],[],l⟩
@[simp]def pC(e:List EF)(l:List<|Nat×OV):Stm:=.be ⟨e,[],l⟩
@[simp]def pV(t:Nat)(e:E):Nat×OV:=(t,.v e)
@[simp]def pK(t f:Nat)(l:List E):EF:=.call t [] (.id f) xw xw l
@[simp]def pQ:List Stm->Stm->Stm
 | [],z=>z
 |a::l,z=>.seq a<|pQ l z
def fresh(f:FuncId):Bool:=f==72||f==74
def follows:Tryz.prog.follows .mixedOrders=xk:=Z2
@[simp]def pl(a b:E):E:=.cb .lss a b
@[simp]def pe(a b:E):E:=.cb .eql a b
@[simp]def pa(a b:E):E:=.cb .add a b
@[simp]def pn(a b:E):E:=.cb .neq a b
@[simp]def pb(a b:E):E:=.cb .sub a b
@[simp]def pg(a b:E):E:=.cb .geq a b
@[simp]def pL(a b:E):E:=.cb .leq a b
@[simp]def pj(a b:E):E:=.cb .gtr a b
@[simp]def pm(a b:E):E:=.cb .mul a b
@[simp]def pw(c:E)(a:Stm):Stm:=.cond c a .skip
@[simp]def px(l:List<|Nat×OV):Stm:=.seq (pR l) .ret
@[simp]def pi(t:Nat)(e:E)(a:Stm):Stm:=.seq (pR [pV t e])<|.cond (.s t) a .skip
@[simp]def pu(t:Nat)(e:E)(a b:Stm):Stm:=.seq (pR [pV t e])<|.cond (.s t) a b
@[simp]def po(k:List Nat)(t:Nat)(e:E)(a b:Stm):Stm:=.block 0<|.loop k<|.seq (pR [pV t e])<|.seq (.cond (.s t) .skip<|.exit 0)<|.seq (.block 1 a) b
@[simp]def pc(n:Nat):Stm:=pR [pV n<|.cb .add (.s n)<|pI 1]
section
def zU(x:Option V)(A B:Prop):Prop:=
 match x with
 |some (.bool xk)=>A
 |some (.bool xw)=>B
 |_=>False
@[simp]theorem Z2t b A B:zU (J<|.bool b) A B↔if b=xk then A else B:=by cases b<;>simp[zU]
def XO{α:Type}(x:Option α)(K:α->Prop):Prop:=
 match x with
 |some x=>K x
 |none=>False
@[simp]theorem Z3Y{α}x(K:α->Prop):XO (J x) K↔K x:=Z8b
@[simp]theorem Z3X{α}(K:α->Prop):XO U K↔False:=Z8b
@[simp]theorem Z3W{α β}f(x:Option α)(K:β->Prop):XO (x.map f) K↔XO x (λy=>K<|f y):=by cases x<;>rfl
@[simp]theorem Z3U{α β}f(x:Option α)(K:β->Prop):XO (x.bind f) K↔XO x (λy=>XO (f y) K):=by cases x<;>rfl
@[simp]theorem Z3V{α}p [Decidable p]x y(K:α->Prop):XO (if p then x else y) K↔if p then XO x K else XO y K:=by split<;>rfl
def TP P [Lg P](f:FuncId)(a fl:Bool)(xs:List V)(K:V->Prop):Prop:=∃r,VC P f a xs r/\(fl=xk->Ws r=J r)/\K r
def Zz{P} [Lg P]{f a fl xs K r}(h:VC P f a xs r)(g:fl=xk->Ws r=J r)(d:K r):TP P f a fl xs K:=⟨r,h,g,d⟩
def Kr P [Lg P](f:FuncId)(ks:List OT)(xs:List V)(K:V->Prop):Prop:=∃R,UH P f ks xs R/\K R
def QE{P} [Lg P]{f ks xs K R}(h:UH P f ks xs R)(a:K R):Kr P f ks xs K:=⟨R,h,a⟩
def kS P [Lg P](b:Stm)(N:St->Prop)(X:Nat->St->Prop)(R:St->Prop)(s:St):Prop:=YK P b s N X R
def xB(id:Nat)(N:St->Prop)(X:Nat->St->Prop)(i:Nat)(s:St):Prop:=if i=id then N s else X i s
def kR(a:List<|ZI×E)(d:List<|Nat×OV)(K:St->Prop)(t:St):Prop:=TA t a/\Vx d t t K
def kO(l:List<|Nat×OV)(t u:St)(i:Nat)(K:St->Prop)(x:SV):Prop:=Vx l t (YG u i x) K
def kL P [Lg P](l:List EF)(s:St)(i:Nat)(K:St->Prop)(x:V):Prop:=YH P l (YG s i<|.v x) K
def kA P [Lg P](f:FuncId)(a fl:Bool)(K:V->Prop)(xs:List V):Prop:=TP P f a fl xs K
def SG P [Lg P](a fl:Bool)(K:V->Prop)(xs:List V)(v:V):Prop:=XO (Ry v) λn=>TP P n.1 a fl (xs++n.2) K
def yI P [Lg P](x:Option V)(a fl:Bool)(K:V->Prop)(xs:List V):Prop:=XO x<|SG P a fl K xs
def yJ P [Lg P](f:Option FuncId)(ks:List OT)(K:V->Prop)(xs:List V):Prop:=XO f λn=>Kr P n ks xs K
def kW P [Lg P](l:List EF)(s:St)(i:Nat)(K:St->Prop)(a:List V):Prop:=if a=[]then YH P l s K else YH P l (YG s i<|.v<|.am<|.bool xw::a) K
def kT(_:V):Prop:=True
section
abbrev Ze:=Program
variable {P:Ze}[Lg P]{N R:St->Prop}{X:Nat->St->Prop}{K:St->Prop}{s t u:St}
@[simp]theorem Z3D b:kS P b N X R s↔YK P b s N X R:=Z8b
@[simp]theorem Z5g id:xB id N X id s↔N s:=by simp[xB]
def Qv id i:xB id N X i s↔if i=id then N s else X i s:=Z8b
@[simp]theorem Z5f{id i}(h:i≠id):xB id N X i s↔X i s:=by simp[xB,h]
@[simp]theorem Z3C a d:kR a d K t↔TA t a/\Vx d t t K:=Z8b
@[simp]theorem Z3B l i x:kO l t u i K x↔Vx l t (YG u i x) K:=Z8b
@[simp]theorem Z3A l i x:kL P l s i K x↔YH P l (YG s i<|.v x) K:=Z8b
@[simp]theorem Z3z f a fl K xs:kA P f a fl K xs↔TP P f a fl xs K:=Z8b
@[simp]theorem Z3x v a fl K xs:yI P (J v) a fl K xs↔SG P a fl K xs v:=Z8b
@[simp]theorem Z3w(f:FuncId)(a fl:Bool)(K:V->Prop)(xs:List V):SG P a fl K xs (.fn f)↔TP P f a fl xs K:=by simp[SG,Ry]
@[simp]theorem Z3v f cs a fl K xs:SG P a fl K xs (.dh f cs)↔TP P f a fl (xs++cs) K:=by simp[SG,Ry]
@[simp]theorem Z3y f ks K xs:yJ P (J f) ks K xs↔Kr P f ks xs K:=Z8b
@[simp]theorem Z3G(l:List EF)(i:Nat):kW P l s i K []↔YH P l s K:=by simp[kW]
@[simp]theorem Z3F l i x a:kW P l s i K (x::a)↔YH P l (YG s i<|.v<|.am<|.bool xw::x::a) K:=by simp[kW]
@[simp]theorem Z3E x:kT x↔True:=Z8b
@[simp]theorem Z5b r:YK P (.be r) s N X R↔zj P r s N:=Z8b
@[simp]theorem Z5e:YK P .skip s N X R↔N s:=Z8b
@[simp]theorem Z5d a b:YK P (.seq a b) s N X R↔YK P a s (kS P b N X R) X R:=Z8b
@[simp]theorem Z59 c a b:YK P (.cond c a b) s N X R↔zU (eval s c) (YK P a s N X R) (YK P b s N X R):=by
 rfl
@[simp]theorem Z58 id a:YK P (.block id a) s N X R↔YK P a s N (xB id N X) R:=Z8b
@[simp]theorem Z5a id:YK P (.exit id) s N X R↔X id s:=Z8b
@[simp]theorem Z5c:YK P .ret s N X R↔R s:=Z8b
def Ag{keep a}(I:St->Prop)(μ:St->Nat)(f:I<|YO keep s)(g:∀s,I s->YK P a s (λd=>I (YO keep d)/\μ (YO keep d)<μ s) X R):YK P (.loop keep a) s N X R:=⟨I,μ,f,g⟩
@[simp]theorem Z57 f a d:zj P ⟨f,a,d⟩ s K↔YH P f s (kR a d K):=Z8b
@[simp]theorem Z56:Vx [] t u K↔K u:=Z8b
@[simp]theorem Z55 i o l:Vx ((i,o)::l) t u K↔XO (Wx t o) (kO l t u i K):=by
 simp[Vx,kO];cases Wx t o<;>rfl
@[simp]theorem Z4Z:TA t []↔True:=Z8b
@[simp]theorem Z4Y C e l:TA t ((C,e)::l)↔(Vk t C=xk->XO (eval t e) kT)/\TA t l:=by
 simp[TA,kT];cases eval t e<;>simp
@[simp]theorem Z54:YH P [] s K↔K s:=Z8b
@[simp]theorem Z53 i C e l:YH P (.lt i C e::l) s K↔if Vk s C=xk then XO (eval s e) (kL P l s i K)else YH P l s K:=by
 simp[YH,kL];cases eval s e<;>rfl
@[simp]theorem Z50 i C f d fl a l:YH P (.call i C (.id f) d fl a::l) s K↔if Vk s C=xk then XO (YB s a) (kA P f d fl<|kL P l s i K)else YH P l s K:=by
 simp[YH,XO,TP,Ui];cases YB s a<;>simp
@[simp]theorem Z51 i C x d fl a l:YH P (.call i C (.e x) d fl a::l) s K↔if Vk s C=xk then XO (YB s a) (yI P (eval s x) d fl<|kL P l s i K)else YH P l s K:=by
 simp[YH,XO,yI,SG,TP,Ui];cases YB s a with
 |none=>simp
 |some g=>
  cases eval s x with
  |none=>simp
  |some v=>cases f:Ry v<;>simp[f]
@[simp]theorem Z52 i C f ks a l:YH P (.fi i C f ks a::l) s K↔
  if Vk s C=xk then XO (YB s a)<|yJ P (V2 s f) ks<|kL P l s i K
  else XO (Wk s ks a)<|kW P l s i K:=by
 simp[YH,XO,Kr,yJ,kW];split;cases YB s a<;>cases V2 s f<;>simp
 cases Wk s ks a with
 |none=>simp
 |some d=>cases d<;>simp
@[simp]theorem Z4n e:Wx t (.v e)=(eval t e).map .v:=rfl
@[simp]theorem Z4l l:Wx t (.m l)=(YB t l).map .m:=rfl
@[simp]theorem Z4m:Wx t .no=J .no:=rfl
@[simp]theorem Z3q:Vk s []=xk:=rfl
def MX i b(C:ZI):Vk s ((i,b)::C)=((match ZJ s i with|.v (.bool c)=>c==b|_=>xw)&&Vk s C):=rfl
end
@[simp]theorem Z3o x(s:St):ZJ (x::s) 0=x:=rfl
@[simp]theorem Z3n x(s:St)n:ZJ (x::s) (n+1)=ZJ s n:=by simp[ZJ]
@[simp]theorem Z4s x y(s:St):YG (y::s) 0 x=x::s:=rfl
@[simp]theorem Z4r x y(s:St)n:YG (y::s) (n+1) x=y::YG s n x:=rfl
@[simp]theorem Z4q x:YG [] 0 x=[x]:=rfl
@[simp]theorem Z4p x n:YG [] (n+1) x=.no::YG [] n x:=rfl
@[simp]theorem Z4k s:YO [] s=[]:=rfl
@[simp]theorem Z4j i l s:YO (i::l) s=YG (YO l s) i (ZJ s i):=rfl
attribute [simp] JC eval YB MX T7 R5 Uw Sx Sw Xw Q7 TL UJ V2 Wk
section
variable {k:IntKind}{a b:Int}{x y:V}{l r:List V}
@[simp]theorem Z20:X2 .add (.int k a) (.int k b)=J (.int k<|k.wrap<|a+b):=by simp[X2]
@[simp]theorem Z2a:X2 .sub (.int k a) (.int k b)=J (.int k<|k.wrap<|a-b):=by simp[X2]
@[simp]theorem Z26:X2 .mul (.int k a) (.int k b)=J (.int k<|k.wrap<|a*b):=by simp[X2]
@[simp]theorem Z28:X2 .quo (.int k a) (.int k b)=if b≠0 then J (.int k<|k.wrap<|a.tdiv b)else U:=by simp[X2]
@[simp]theorem Z29:X2 .rem (.int k a) (.int k b)=if b≠0 then J (.int k<|a.tmod b)else U:=by simp[X2]
@[simp]theorem Z21:X2 .eql (.int k a) (.int k b)=J (.bool<|decide (a=b)):=by simp[X2];rfl
@[simp]theorem Z27:X2 .neq (.int k a) (.int k b)=J (.bool<|!decide (a=b)):=by simp[X2];rfl
@[simp]theorem Z25:X2 .lss (.int k a) (.int k b)=J (.bool<|decide (a<b)):=by simp[X2]
@[simp]theorem Z24:X2 .leq (.int k a) (.int k b)=J (.bool<|decide (a<=b)):=by simp[X2]
@[simp]theorem Z23:X2 .gtr (.int k a) (.int k b)=J (.bool<|decide (b<a)):=by simp[X2]
@[simp]theorem Z22:X2 .geq (.int k a) (.int k b)=J (.bool<|decide (b<=a)):=by simp[X2]
@[simp]theorem Z2v p q n:TS n (.bool p) (.bool q)=J (.bool<|n ^^ (p==q)):=rfl
@[simp]theorem Z4R:Tx .neg (.int k a)=J (.int k<|k.wrap<|0-a):=rfl
@[simp]theorem Z4S p:Tx .not (.bool p)=J (.bool !p):=rfl
@[simp]theorem Z2u d:RA d (.int k a)=J (.int d<|d.wrap a):=rfl
@[simp]theorem Z3H:SJ (.sl l)=J (.int .i64<|I l):=rfl
@[simp]theorem Z3N id vs:TZ (.mp id l vs)=J (.int .i64<|I l):=rfl
@[simp]theorem Z3K id vs:J6 (.mp id l vs)=J (.mp id [] []):=rfl
@[simp]theorem Z3L:SM (.int k a) (.int k b)=J (.int k<|if b<a then b else a):=rfl
@[simp]theorem Z3J:SL (.int k a) (.int k b)=J (.int k<|if b>a then b else a):=rfl
@[simp]theorem Z2w i:Tc (.am l) i=l[i]? :=rfl
@[simp]theorem Z3s(i n:Nat):YZ (.sl l) (.int k i) n=(l[i]?).bind λz=>if I z.cells=n then J z else U:=by simp[YZ]
@[simp]theorem Z2g:(V.int k a).cells=[V.int k a]:=rfl
@[simp]theorem Z2e p:(V.bool p).cells=[V.bool p]:=rfl
@[simp]theorem Z2j s:(V.str s).cells=[V.str s]:=rfl
@[simp]theorem Z2i:(V.sl l).cells=[V.sl l]:=rfl
@[simp]theorem Z2d:(V.agg l).cells=l:=rfl
@[simp]theorem Z2h id:(V.mp id l r).cells=[V.mp id l r]:=rfl
@[simp]theorem Z2f f:(V.fn f).cells=[V.fn f]:=rfl
@[simp]theorem Z4f:(V.int k a).aj=xk:=rfl
@[simp]theorem Z4b p:(V.bool p).aj=xk:=rfl
@[simp]theorem Z4i:(V.sl l).aj=xk:=rfl
@[simp]theorem Z4g id:(V.mp id l r).aj=xk:=rfl
@[simp]theorem Z4e f:(V.fn f).aj=xk:=rfl
@[simp]theorem Z4a:(V.agg l).aj=xw:=rfl
@[simp]theorem Z44:YS (.int k a)=J (.int k a):=rfl
@[simp]theorem Z40 p:YS (.bool p)=J (.bool p):=rfl
@[simp]theorem Z48 s:YS (.str s)=J (.str s):=rfl
@[simp]theorem Z47:YS (.sl l)=J (.sl l):=rfl
@[simp]theorem Z45 id:YS (.mp id l r)=J (.mp id l r):=rfl
@[simp]theorem Z43 f:YS (.fn f)=J (.fn f):=rfl
@[simp]theorem Z2z o:Ya (.agg l) o=(l[o]?).bind YS:=rfl
@[simp]theorem Z2O:Ya (.int k a) 0=J (.int k a):=rfl
@[simp]theorem Z2A p:Ya (.bool p) 0=J (.bool p):=rfl
@[simp]theorem Z3e:Ya (.sl l) 0=J (.sl l):=rfl
@[simp]theorem Z3f s:Ya (.str s) 0=J (.str s):=rfl
@[simp]theorem Z3g o n:Ug (.agg l) o n=if o+n<=(I l) then J (.agg<|(l.drop o).take n)else U:=rfl
@[simp]theorem Z4H n:Vu (.agg l) n=if I l=n then J (.agg l)else U:=rfl
@[simp]theorem Z3t:SF (.agg l)=J (.agg l):=rfl
@[simp]theorem Z4G:UA (.ptr l)=J (.agg l):=rfl
@[simp]theorem Z3u p A B:RO (.bool p) A B=if p=xk then A else B:=by cases p<;>rfl
@[simp]theorem Z1M:Tb l=.agg (flat l):=rfl
@[simp]theorem Z2x:flat (x::l)=x.cells++flat l:=rfl
@[simp]theorem Z2y:flat []=[]:=rfl
@[simp]theorem Z1Z n:So n (.sl l) (.sl r)=if I l+I r<=Ye/\Xy n r=xk then J (.sl<|l++r)else U:=rfl
@[simp]theorem Z4z n:Xy n []=xk:=rfl
@[simp]theorem Z4x n:Xy n (x::l)=(I x.cells==n&&Xy n l):=rfl
def JT{α:Type}{f n}{l:List α}(h:∀x,(f x).cells.length=n):Xy n (l.map f)=xk:=by
 simp[Xy,h]
abbrev Z5:=List Int
@[simp]theorem Qi(l:Z5):Xy 1 (l.map<|V.int k)=xk:=JT λ_=>rfl
@[simp]theorem Z3M(n:Nat):J9 x (.int k n)=if n<=Ye then J (.sl<|List.replicate n x)else U:=by
 simp only[J9];have:(n<=Ye)↔n<=Ye:=Z0;simp
@[simp]theorem Z0v(i j n:Nat):Rf n (.sl l) (.int k i) (.int k j)=if i<=j/\j<=I l/\Xy n l=xk then J (.sl<|(l.take j).drop i)else U:=by
 simp[Rf]
@[simp]theorem Z4E(i n:Nat):Qj n (.sl l) (.int k (i:Int))=if i<=I l/\Xy n l=xk then J (.sl<|l.drop i)else U:=by
 simp[Qj]
@[simp]theorem Z4T(i o:Nat):Sf (.sl l) (.int k i) o y=(l[i]?).bind λz=>if o+I y.cells<=I z.cells/\y.cells≠[]then J (.sl<|l.set i<|z.put o y.cells)else U:=by
 simp[Sf]
end
abbrev vi(n:Int):V:=.int .i64 n
abbrev vu(n:Int):V:=.int .u64 n
@[simp]theorem Z3P(n:Nat):((n:Int)<0)↔False:=by simp
def ZA n(a: -9223372036854775808<=n)(h2:n<=9223372036854775807):IntKind.i64.wrap n=n:=by
 rw[IntKind.wrap_i64];omega
end
end Vm
end
section
namespace Vm
open Go Go.ChangeShapes Go.WideShapes Go.ChangeAt Go.RowKit
section
def QR(P:Ze)(n:Nat):List Field->Nat->Bool
 | [],o=>o==n
 |f::l,o=>f.offset==o&&QR P n l (o+P.cellsOf f.type)
def UX(P:Ze):Nat->TypeId->Bool
 |0,_=>xw
 |n+1,t=>match P.underlying t with
  |some .bool|some (.int _)|some .string=>xk
  |some (.slice e)=>UX P n e&&decide (0<P.cellsOf e)
  |some (.struct a)=>QR P (P.cellsOf t) a.toList 0&&a.toList.all λf=>UX P n f.type
  |some (.array m e)=>UX P n e&&m*P.cellsOf e==P.cellsOf t
  |_=>xw
def YQ(P:Ze):Nat->TypeId->V->Prop
 |0,_,_=>False
 |n+1,t,x=>match P.underlying t with
  |some .bool=>∃b,x=.bool b
  |some (.int k)=>∃m,x=.int k m/\(Lit.int k m).wf=xk
  |some .string=>∃s,x=.str s/\s.size<=maxLen
  |some (.slice e)=>∃l,x=.sl l/\I l<=maxLen/\∀y∈l,YQ P n e y
  |some (.struct d)=>∃a,x=.agg (flat a)/\I a=I d.toList/\∀(i:Nat) (f:Field) (y:V),d.toList[i]?=J f->a[i]?=J y->YQ P n f.type y
  |some (.array m e)=>∃a,x=.agg (flat a)/\I a=m/\∀y∈a,YQ P n e y
  |_=>False
abbrev Z4:=World
abbrev Z6:=Nat->Prop
def RdC(w:Z4)(G:Z6)(cs:List V)(vs:List Value):Prop:=
 I vs=I cs/\∀(i:Nat) (c:V),cs[i]?=J c->c.aj=xk/\∃u,vs[i]?=J u/\Rd w G c u
def RdC.nil{w G}:RdC w G [] []:=⟨rfl,λi c h=>Z5V⟩
def RdC.append{w G cs d vs f}(h:RdC w G cs vs)(h':RdC w G d f):RdC w G (cs++d)<|vs++f:=by
 refine⟨by simp[h.1,h'.1],λi c g=> ?_⟩;rw[List.getElem?_append]at g⊢;rw[h.1];split at g;rename_i a;rw[Z6k a];exact h.2 i c g;rename_i a;rw[Z6h a];exact h'.2 _ c g
theorem RdC.aj{w G c v}(a:c.aj=xk)(h:Rd w G c v):RdC w G [c] [v]:=
 ⟨rfl,λi x d=>by
  grind⟩
def Ku{α:Type}{Q:Nat->α->Prop}:∀n,(∀i,i<n->∃y,Q i y)->∃l:List α,I l=n/\∀i y,l[i]?=J y->Q i y
 |0,_=>Z1
 |n+1,h=>by
  let⟨l,d,f⟩:=Ku n λi o=>h i Z0;let⟨y,j⟩:=h n Z0;refine⟨l++[y],by simp[d],λi z a=> ?_⟩;rw[List.getElem?_append]at a;split at a;exact f i z a;rename_i g;rw[List.getElem?_singleton]at a;split at a;rename_i k;have:i=n:=Z0;subst this;simp[Z6c]at a;subst a;exact j;cases a
def zQ{w:Z4}{b a n cs}(h:w.cells? b a n=J cs):I cs=n/\∀i,i<n->w.cell? (a.add i)=cs[i]? :=by
 unfold World.cells? at h;split at h;have d:=mapM_some_length h;rw[List.length_range]at d;refine⟨d,λi f=>mapM_some_get h i i ?_⟩;simp_all;cases h
def IO{w:Z4}{a v}(h:w.cell? a=J v):a.block<xz (xj w):=by
 grind [World.cell?]
def js{w G}:∀ {ys} {a:List (List Value)},I a=I ys->(∀(i:Nat) y d,ys[i]?=J y->a[i]?=J d->RdC w G y.cells d)->RdC w G (flat ys) a.flatten
 | [],[],_,_=>by simpa using RdC.nil
 | [],_::_,h,_=>Z5V
 |_::_,[],h,_=>Z5V
 |y::ys,d::a,h,f=>by
  exact(f 0 y d rfl rfl).append (js Z5h λi z g k j=>f (i+1) z g Z5h Z5h)
def By{P n}{cs:List Value}:∀ {l} {o:Nat},QR P n l o=xk->o<=n/\(I cs=n->cs.drop o=(l.map λf=>(cs.drop f.offset).take<|P.cellsOf f.type).flatten)
 | [],o,h=>by
   simp_all[QR,Z71]
 |f::l,o,h=>by
  simp[QR,Z71]at h;let⟨d,a⟩:=h;let⟨g,j⟩:=By (cs:=cs) a;refine⟨Z0,λk=> ?_⟩;grind [List.drop_drop,List.take_append_drop]
def H4{cs:List Value}{k}:∀ {m},I cs=m*k->cs=((List.range m).map λi=>(cs.drop<|i*k).take k).flatten:=by
 have:∀m (cs:List Value),cs.take (m*k)=((List.range m).map λi=>(cs.drop<|i*k).take k).flatten:=by
  intro m;induction m with
  |zero=>simp
  |succ m d=>
   simp_all[Z8J,Z7I,List.flatten_append,Z7s,List.take_add]
 intro m h;have a:=this m cs;grind
section
abbrev Zc:=Nat->Bool
variable {H:Type}{enc:TypeId×Value->H}{P:Ze}{w:Z4}{spare:Zc}{held:Bool}
abbrev Zd:=TypeId
abbrev Za:=Value
def LF:∀ {n} {t:Zd} {C:Nat} {cs:List Value} {d:DataW H×List MemPlace},UX P n t=xk->DataW.trod enc P w 0 spare held C t cs=J d->
  ∃x,YQ P n t x/\RdC w (λb=>b<xz (xj w)) x.cells cs
 |0,t,C,cs,d,L,h=>by cases L
 |n+1,t,C,cs,d,L,h=>by
  unfold UX at L;unfold YQ;split at L;rename_i N;obtain⟨b,rfl,_⟩:=DataW.trod_bool N h;exact⟨.bool b,⟨b,rfl⟩,.aj rfl<|.bool b⟩;rename_i k N;obtain⟨m,rfl,_,hw⟩:=DataW.trod_int N h;exact⟨.int k m,Z5i,.aj rfl<|.int k m⟩;rename_i N;obtain⟨s,rfl,_,hw⟩:=DataW.trod_string N h;exact⟨.str s,Z5i,.aj rfl<|.str s⟩;rename_i e N;simp only[Z6l,Z6J]at L;let⟨M,A⟩:=L;obtain⟨rfl,_⟩|⟨a,len,cap,a8,b3,m,_,rfl,_,_,b5,a4,b4,D,_⟩:=DataW.trod_slice N h;exact⟨.sl [],Z1,.aj rfl<|.nil _ _ Z0⟩;have F:∀i,i<len->∃y,YQ P n e y/\∃X,w.cells? 0 (a.add<|i*P.cellsOf e) (P.cellsOf e)=J X/\RdC w (λb=>b<xz (xj w)) y.cells X:=by
   intro i g;have p:=D i g;rw[Z6b Z0]at p;simp only[Z6a]at p;let⟨X,S,B⟩:=p;let⟨y,r,T⟩:=LF M B;exact⟨y,r,X,S,T⟩
  let⟨l,b1,a1⟩:=Ku len F;have b6:∀y∈l,YQ P n e y:=λy r=>by
   let⟨i,g⟩:=Z6A r;exact(a1 i y g).1
  refine⟨.sl l,Z5h,.aj rfl ?_⟩;cases a5:len with
  |zero=>
   have:l=[]:=Z5i;subst this;exact .nil _ _ a4
  |succ b2=>
   let⟨b,o,a0⟩:=a;have a2:a0=U:=by
    let⟨y,_,X,O,_⟩:=F 0 Z0;let⟨p,S⟩:=zQ O;have B:=S 0 A;rw[Z6b Z0]at B;have h4:=World.cell?_spot B;obtain _|s:=a0;rfl;simp[Addr.add]at h4
   subst a2;have z:∀(i j:Nat) (y:V),l[i]?=J y->j<P.cellsOf e->∃(u:Za),w.cell? ⟨b,o+(i*P.cellsOf e+j),U⟩=J u/\∃c,y.cells[j]?=J c/\c.aj=xk/\Rd w (λb=>b<xz (xj w)) c u:=by
    intro i j y r hj;let⟨_,X,O,T⟩:=a1 i y r;let⟨p,S⟩:=zQ O;have B:=S j hj;rw[Z7L,Z7L,Z6b Z0]at B;have b7:j<I y.cells:=by rw[<-T.1];omega
    let⟨q1,u,q2,q3⟩:=T.2 j y.cells[j] Z1;rw[Z6b Z0,Z6c]at q2;subst q2;exact⟨_,by rw[<-Z77];exact B,_,Z1,q1,q3⟩
   have K:∀y∈l,y.ah<|P.cellsOf e:=λy r=>by
    let⟨i,g⟩:=Z6A r;let⟨_,X,O,T⟩:=a1 i y g;refine⟨by rw[<-T.1,(zQ O).1],λc hc=> ?_⟩;let⟨j,hj⟩:=Z6A hc;exact(T.2 j c hj).1
   have Z:∀i,i<I l*P.cellsOf e->∃y,l[i / P.cellsOf e]?=J y/\i%P.cellsOf e<P.cellsOf e/\i=i / P.cellsOf e*P.cellsOf e+i%P.cellsOf e:=by
    intro i g;have p:=(Z9D A).2 g;exact⟨_,Z6b p,Z9k _ A,by rw[Nat.mul_comm];exact(Nat.div_add_mod _ _).symm⟩
   have hb:b<xz (xj w):=by
    obtain⟨y,r⟩:∃y,l[0]?=J y:=⟨_,Z6b Z0⟩;let⟨u,hu,_⟩:=z 0 0 y r A;exact IO hu
   have a6:=Rd.sl (w:=w) (G:=λb=>b<xz (xj w)) l b o cap (P.cellsOf e) (λi=>(w.cell? ⟨b,o+i,U⟩).getD xy) Z0 a4 hb K (λi g=> ?_) (λi c g=> ?_);rw[b1,a5]at a6;exact a6;let⟨y,p,S,B⟩:=Z i g;let⟨u,hu,_⟩:=z _ _ y p S;rw[<-B]at hu;rw[hu];rfl;have b0:i<I l*P.cellsOf e:=by
    rw[<-Te K];exact(Z6d.1 g).1
   let⟨y,p,S,B⟩:=Z i b0;let⟨u,hu,c',a9,_,T⟩:=z _ _ y p S;rw[<-B]at hu;rw[B,UO K p _ S,a9]at g;cases g;simp only[hu,Z6K];exact T
  rename_i fs N;simp only[Z6l,Z6y]at L;let⟨M,A⟩:=L;let⟨xs,m,_,_,a3,a7,D⟩:=DataW.trod_struct N h
  let⟨ys,R,W⟩:=Ku (Q:=λi y=>∀f,fs.toList[i]?=J f->YQ P n f.type y/\RdC w (λb=>b<xz (xj w)) y.cells ((cs.drop f.offset).take<|P.cellsOf f.type)) (I fs.toList) (by
   intro i g;have hf:fs.toList[i]?=J fs.toList[i]:=Z1;have p:=D i fs.toList[i] Z1;rw[Z6b (by rw[a7];exact g)]at p;let⟨y,r,T⟩:=LF (A _<|Z6E g) p;exact⟨y,Z5h⟩)
  refine⟨.agg<|flat ys,⟨ys,rfl,R,λi f y hf r=>Z5h⟩,?_⟩;have Y:=(By (cs:=cs) M).2 a3;rw[List.drop_zero]at Y;rw[Y];refine js (by simp[R]) λi y X r O=> ?_;rw[Z6G,Z6f]at O;obtain⟨f,hf,rfl⟩:=O;exact(W i y r f hf).2;rename_i m e N;simp only[Z6l,Z71]at L;let⟨M,A⟩:=L;let⟨xs,q,_,_,a3,a7,D⟩:=DataW.trod_array N h
  let⟨ys,R,W⟩:=Ku (Q:=λi y=>YQ P n e y/\RdC w (λb=>b<xz (xj w)) y.cells ((cs.drop<|i*P.cellsOf e).take<|P.cellsOf e)) m (by
   intro i g;have p:=D i g;rw[Z6b Z0]at p;exact LF M p)
  refine⟨.agg<|flat ys,⟨ys,rfl,R,λy r=> ?_⟩,?_⟩;let⟨i,g⟩:=Z6A r;exact(W i y g).1;rw[H4 (cs:=cs) (k:=P.cellsOf e) (m:=m) Z0];refine js (by simp[R]) λi y X r O=> ?_;rw[Z6G,Z6f]at O;obtain⟨j,hj,rfl⟩:=O;have:j=i:=by
   rw[Z6d]at hj;let⟨_,hj⟩:=hj;simpa using hj.symm
  subst this;exact(W j y r).2;cases L
abbrev Z9:=Array Value
def PQ{n t v d G r F}(j:UX P n t=xk)(a:Value.okWide P w r F t v)(h:DataW.Trod enc P w 0 spare held t v d G):
  ∃x,YQ P n t x/\Rd w (λb=>b<xz (xj w)) x v:=by
 let⟨C,h⟩:=h;let⟨x,g,l⟩:=LF j h;refine⟨x,g,?_⟩;have p:∀ {c},x=c->c.cells=[c]->v.cells.toList=[v]->Rd w (λb=>b<xz (xj w)) x v:=by
  intro c z y B;subst z;rw[y,B]at l;let⟨_,u,q,D⟩:=l.2 0 x rfl;simp at q;subst q;exact D
 have L:∀ {cs} {o:Z9},x=.agg cs->v=.agg o->Rd w (λb=>b<xz (xj w)) x v:=by
  intro cs o z B;subst z B;refine .agg cs o (by have:=l.1;simpa[Value.cells]using this) (λc y=> ?_) λi c A=> ?_;let⟨i,A⟩:=Z6A y;exact(l.2 i c A).1;let⟨_,u,q,D⟩:=l.2 i c A;have:o.getD i xy=u:=by
   have H:o[i]?=J u:=by simpa[Value.cells]using q
   simp[H]
  grind
 cases n with
 |zero=>cases j
 |succ n=>
  unfold UX at j;unfold YQ at g;split at j;rename_i f;rw[f]at g;obtain⟨b,rfl⟩:=g;obtain⟨c,rfl⟩:=okWide_bool f a;exact p rfl rfl rfl;rename_i k f;rw[f]at g;obtain⟨b,rfl,_⟩:=g;obtain⟨c,rfl⟩:=okWide_int f a;exact p rfl rfl rfl;rename_i f;rw[f]at g;obtain⟨b,rfl,_⟩:=g;obtain⟨c,rfl⟩:=okWide_string f a;exact p rfl rfl rfl;rename_i e f;rw[f]at g;obtain⟨b,rfl,_⟩:=g;obtain⟨c,_,_,rfl⟩:=okWide_slice f a;exact p rfl rfl rfl;rename_i K f;rw[f]at g;simp[Value.okWide]at a;grind;rename_i m e f;rw[f]at g;simp[Value.okWide]at a;grind;cases j
def EK{n r G}:∀ {ts} {g:List Value} {o:List (DataW H)} {A:List MemPlace},DataW.TrodAll enc P w 0 spare held ts g o A->(∀t∈ts,UX P n t=xk)->
  (∀(j:Nat) t v,ts[j]?=J t->g[j]?=J v->Value.okWide P w r G t v)->
  ∃l:List V,I l=I g/\I g=I ts/\I o=I ts/\(∀(i:Nat) t x,ts[i]?=J t->l[i]?=J x->YQ P n t x)/\∀(i:Nat) x v,l[i]?=J x->g[i]?=J v->Rd w (λb=>b<xz (xj w)) x v
 | [],g,o,A,h,_,_=>by
   obtain⟨rfl,rfl,rfl⟩:=trodAll_nil h;simp
 |t::ts,g,o,A,h,F,a=>by
  obtain⟨v,T,d,K,p,q,rfl,rfl,rfl,L,M⟩:=trodAll_cons h;let⟨x,y,z⟩:=PQ (F t Z1) (a 0 t v rfl rfl) L;let⟨l,N,O,S,Q,R⟩:=EK M (λt k=>F t<|by simp[k]) λj B C k u=>a (j+1) B C Z5h Z5h;refine⟨x::l,by simp[N],by simp[O],by simp[S],λi B D k f=> ?_,λi D C f u=> ?_⟩;cases i with
  |zero=>simp at k f;subst k f;exact y
  |succ i=>exact Q i B D Z5h Z5y
  cases i with
  |zero=>simp at u f;subst u f;exact z
  |succ i=>exact R i D C Z5y Z5h
def AQ{W W'}(l:laidOutB P=xk)(j:Below (xz<|xj W) W W'):∀ {ts} {g:List Value} {f:List (DataW H)} {a:List MemPlace},DataW.TrodAll enc P W 0 (λ_=>xk) xk ts g f a->
  (∀t∈ts,P.readableRec t=xk/\t<P.types.size)->(∀x∈a,x.block<xz (xj W))->DataW.TrodAll enc P W' 0 (λb=>decide (b<xz (xj W))) xk ts g f a
 | [],g,f,a,h,_,_=>by
   obtain⟨rfl,rfl,rfl⟩:=trodAll_nil h;rfl
 |t::ts,g,f,a,h,k,u=>by
  obtain⟨v,y,d,n,p,q,rfl,rfl,rfl,o,r⟩:=trodAll_cons h;exact trodAll_cons_mk (Below.trod l (k t Z1).1 (k t Z1).2 o j λx w=>Z5i) (AQ l j r Z5i λx w=>Z5i)
end
def Nh{P} [Lg P]{f fn}{s:ChangeSpec}{tb}n(T:laidOutB P=xk)(C:(fn.params.toList.all λt=>UX P n t)=xk)(k:(fn.params.toList.all λt=>P.readableRec t&&decide (t<P.types.size))=xk)
  (a:s.vars=[]) (u:fn.resultTypes=#[tb]) (Q:P.underlying tb=J .bool)
  (h:∀H ds,I ds=I fn.params.toList->s.fn H ds= {results:=[.lit<|.bool xk],args:=ds})
  (o:∀y,I y=I fn.params.toList->(∀(i:Nat) t x,fn.params.toList[i]?=J t->y[i]?=J x->YQ P n t x)->VC P f xw y (.bool xk))
  H enc W base args (ds O:List<|DataW H) d
  (w:∀(j:Nat) t v,fn.params[j]?=J t->args[j]?=J v->Value.okWide P W .any base t v)
  (A:DataW.Whole enc P fn.params.toList s.vars xw W args.toList ds O d):
  Lg.ku P f args W λe G=>∃v,e=.returned v/\s.post enc P fn xw xk xw xw W args v G:=by
 have r:=λx z=>by simpa using A.lt x z
 have l:=A;obtain⟨p,q,K,L,rfl,_,_⟩:=A;rw[a]at L;obtain⟨rfl,rfl⟩:=trodVars_none L;rw[Z7u]at r l;let⟨y,N,X,q5,Y,Z⟩:=EK (n:=n) K (Z6y.1 C) λj t v M hv=>w j t v Z5h Z5h;let⟨_,F⟩:=o y (by rw[N,X]) Y;refine Lg.ft (F W (λb=>b<xz (xj W)) args Z0 Z5h λi x z=> ?_) λe G R=> ?_;have S:i<I args.toList:=by rw[<-N];exact(Z6d.1 z).1
 have:args.getD i xy=args.toList[i]:=by
  have B:i<args.size:=by simpa using S
  simp[Z6g,B]
 rw[this];exact Z i x _ z Z1;obtain⟨v,rfl,g,D⟩:=R;cases D;refine⟨_,rfl,ds,[],p,[],p,[],l,?_,?_,?_,g.frame _,Z1⟩;rw[h H _ Z5h,u];exact trodAll_mk1<|shut_bool Q xk;rw[h H _ Z5h,Z7u];exact AQ T g K (λt M=>by simpa using Z6y.1 k t M) r;rw[a,h H _ Z5h];rfl
def Ng{P f fn}{s:ChangeSpec}{tb}n(z:laidOutB P=xk)(p:(fn.params.toList.all λt=>UX P n t)=xk)(d:(fn.params.toList.all λt=>P.readableRec t&&decide (t<P.types.size))=xk)
  (g:s.vars=[]) (k:fn.resultTypes=#[tb]) (y:P.underlying tb=J .bool)
  (o:∀H ds,I ds=I fn.params.toList->s.fn H ds= {results:=[.lit<|.bool xk],args:=ds})
  (h:∀q,I q=I fn.params.toList->(∀(i:Nat) t x,fn.params.toList[i]?=J t->q[i]?=J x->YQ P n t x)->VC P f xw q (.bool xk))
  H enc W base args (ds r:List<|DataW H) a
  (l:∀(j:Nat) t v,fn.params[j]?=J t->args[j]?=J v->Value.okWide P W .any base t v)
  (w:DataW.Whole enc P fn.params.toList s.vars xw W args.toList ds r a):
  Calls P f args W λe u=>∃v,e=.returned v/\s.post enc P fn xw xk xw xw W args v u:=
 Nh n z p d g k y o h H enc W base args ds r a l w
def yS{α:Type}{enc}{Q:α->Prop}:∀ {l:List V},(∀y∈l,∃a,y=enc a/\Q a)->∃d:List α,l=d.map enc/\∀a∈d,Q a
 | [],_=>Z1
 |y::l,h=>by
  obtain⟨a,rfl,g⟩:=h y Z1;obtain⟨d,rfl,j⟩:=yS (l:=l) λz f=>h z<|Z76 _ f;exact⟨a::d,rfl,Z5i⟩
def FE{P n t x k}(d:P.underlying t=J (.int k))(h:YQ P (n+1) t x):∃m,x=.int k m/\k.min<=m/\m<=k.max:=by
 unfold YQ at h;rw[d]at h;obtain⟨m,rfl,a⟩:=h;simp[Lit.wf,Z6J]at a;exact⟨m,rfl,a⟩
def A7{P n t e x}{α:Type}{enc}{Q:α->Prop}(g:P.underlying t=J (.slice e))(h:YQ P (n+1) t x)(f:∀y,YQ P n e y->∃a,y=enc a/\Q a):∃l:List α,x=.sl (l.map enc)/\I l<=maxLen/\∀a∈l,Q a:=by
 unfold YQ at h;rw[g]at h;obtain⟨l,rfl,k,d⟩:=h;obtain⟨p,rfl,o⟩:=yS λy j=>f y<|d y j;grind
def FF{P n t x a}(g:P.underlying t=J (.struct a))(h:YQ P (n+1) t x):∃d,x=.agg (flat d)/\I d=I a.toList/\∀(i:Nat) f y,a.toList[i]?=J f->d[i]?=J y->YQ P n f.type y:=by
 simp_all[YQ]
def Z19{P n m t e x}(d:P.underlying t=J (.array m e))(h:YQ P (n+1) t x):∃a,x=.agg (flat a)/\I a=m/\∀y∈a,YQ P n e y:=by
 simp_all[YQ]
end
end Vm
end
section
namespace Vm
open Go Go.Proofs
section
def Vr(s:St):List (Nat×SV)->St
 | []=>s
 |(i,x)::l=>Vr (YG s i x) l
@[simp]theorem Z4u(s:St):Vr s []=s:=rfl
@[simp]theorem Z4t(s:St)(i:Nat)(x:SV)(l:List<|Nat×SV):Vr s ((i,x)::l)=Vr (YG s i x) l:=rfl
section
variable {P:Ze}[Lg P]{K K':St->Prop}
def G2(d:∀s,K s->K' s){t:St}:∀ {l:List (Nat×OV)} {u:St},Vx l t u K->Vx l t u K'
 | [],_,h=>d _ h
 | (i,o)::l,u,h=>by
   simp only[Vx]at h⊢;split;rename_i x a;rw[a]at h;exact G2 d h;rename_i a;rw[a]at h;exact h
def Sh(g:∀s,K s->K' s):∀ {l:List EF} {s:St},YH P l s K->YH P l s K'
 | [],_,h=>g _ h
 | .lt i C e::l,s,h=>by
   simp only[YH]at h⊢;split;rename_i a;rw[Z6k a]at h;split;rename_i x d;rw[d]at h;exact Sh g h;rename_i d;rw[d]at h;exact h;rename_i a;rw[Z6h a]at h;exact Sh g h
 | .call i C f u fl t::l,s,h=>by
   simp only[YH]at h⊢;split;rename_i a;rw[Z6k a]at h;split;rename_i x n d k;rw[d,k]at h;obtain⟨r,j,o,p⟩:=h;exact⟨r,j,o,Sh g p⟩;rename_i q;split at h;rename_i x n d k;exact(q x n d k).elim;exact h;rename_i a;rw[Z6h a]at h;exact Sh g h
 | .fi i C f w t::l,s,h=>by
   simp only[YH]at h⊢;split;rename_i a;rw[Z6k a]at h;split;rename_i x n d k;rw[d,k]at h;obtain⟨r,j,p⟩:=h;exact⟨r,j,Sh g p⟩;rename_i d;split at h;rename_i x n j o;exact(d x n j o).elim;exact h;rename_i a;rw[Z6h a]at h;split at h;exact Sh g h;exact Sh g h;exact h.elim
def Si:∀ {a:Stm} {s:St} {N p R q:St->Prop} {X u:Nat->St->Prop},YK P a s N X R->(∀s,N s->p s)->(∀i s,X i s->u i s)->(∀s,R s->q s)->YK P a s p u q
 |.be r,s,_,_,_,_,_,_,h,d,_,_=>Sh (λt j=>⟨j.1,G2 d j.2⟩) h
 |.skip,s,_,_,_,_,_,_,h,d,_,_=>d _ h
 |.seq a b,s,_,_,_,_,_,_,h,d,g,f=>Si (a:=a) (s:=s) h (λt j=>Si (a:=b) (s:=t) j d g f) g f
 | .cond c a b,s,_,_,_,_,_,_,h,d,g,f=>by
   simp only[YK]at h⊢;split;rename_i k;rw[k]at h;exact Si h d g f;rename_i k;rw[k]at h;exact Si h d g f;rename_i l n;split at h;rename_i k;exact(l k).elim;rename_i k;exact(n k).elim;exact h
 | .block id a,s,_,_,_,_,_,_,h,d,g,f=>Si (a:=a) (s:=s) h d (λi t j=>by
   split;rename_i o;rw[Z6k o]at j;exact d _ j;rename_i o;rw[Z6h o]at j;exact g _ _ j) f
 | .loop w a,s,_,_,_,_,_,_,h,d,g,f=>by
   obtain⟨I,m,l,n⟩:=h;exact⟨I,m,l,λt j=>Si (a:=a) (s:=t) (n t j) (λ_ h=>h) g f⟩
 |.exit id,s,_,_,_,_,_,_,h,_,g,_=>g _ _ h
 |.ret,s,_,_,_,_,_,_,h,_,_,f=>f _ h
end
def TB{P:Ze} [Lg P]{keep:List Nat}{a:Stm}{s:St}{N R:St->Prop}{X:Nat->St->Prop}{ι:Type}(L:ι->List (Nat×SV))(Inv:ι->Prop)(m:St->Nat)(d:ι)
  (g:YO keep s=Vr (YO keep s) (L d)) (k:Inv d)
  (j:∀p,Inv p->YK P a (Vr (YO keep s)<|L p) (λf=>∃q,Inv q/\YO keep f=Vr (YO keep s) (L q)/\m (Vr (YO keep s)<|L q)<m (Vr (YO keep s)<|L p)) X R):
  YK P (.loop keep a) s N X R:=by
 refine⟨λt=>∃p,Inv p/\t=Vr (YO keep s) (L p),m,⟨d,k,g⟩,?_⟩;rintro t ⟨p,o,rfl⟩;refine Si (j p o) (λf u=> ?_) (λ_ _ h=>h) (λ_ h=>h);obtain⟨q,r,l,n⟩:=u;rw[l];exact⟨⟨q,r,rfl⟩,n⟩
def Xa(c:Nat)(n:Nat)(t:St):Nat:=match ZJ t c with|.v (.int _ k)=>n-k.toNat|_=>0
def U6{P:Ze} [Lg P]{keep:List Nat}{a:Stm}{s:St}{N R:St->Prop}{X:Nat->St->Prop}(c n:Nat)(L:Nat->List (Nat×SV))(Inv:Z6)
  (g:YO keep s=Vr (YO keep s) (L 0)) (l:∀i,ZJ (Vr (YO keep s)<|L i) c=.v (vi i)) (k:Inv 0)
  (j:∀i,i<=n->Inv i->YK P a (Vr (YO keep s)<|L i) (λf=>i<n/\Inv (i+1)/\YO keep f=Vr (YO keep s) (L<|i+1)) X R):
  YK P (.loop keep a) s N X R:=by
 refine TB L (λi=>i<=n/\Inv i) (Xa c n) 0 g ⟨Z0,k⟩ ?_;rintro i ⟨p,r⟩;refine Si (j i p r) (λf q=> ?_) (λ_ _ h=>h) (λ_ h=>h);obtain⟨h,d,o⟩:=q;refine⟨i+1,⟨Z0,d⟩,o,?_⟩;simp only[Xa,l];simp;omega
def Kd{P:Ze} [Lg P]{keep:List Nat}{a:Stm}{s:St}{N R:St->Prop}{X:Nat->St->Prop}(c n:Nat)(Inv:Z6)
  (d:YO keep s=YG (YO keep s) c (.v<|vi 0)) (h:∀x,ZJ (YG (YO keep s) c x) c=x) (g:Inv 0)
  (f:∀i,i<=n->Inv i->YK P a (YG (YO keep s) c<|.v<|vi i) (λj=>i<n/\Inv (i+1)/\YO keep j=YG (YO keep s) c (.v<|vi<|i+1)) X R):
  YK P (.loop keep a) s N X R:=
 U6 c n (λi=>[(c,.v<|vi i)]) Inv d (λi=>h _) g f
end
def Jq:Fn:=⟨5,[0,2,3,5,12],pQ [pR [pV 1<|pU 0,pV 2<|pI 0],pi 3 (pe (.s 0)<|pU 0)<|px [pV 1<|pU 0,pV 2<|pI 6],pQ [.be ⟨[.lt 5 []<|pe (.cb .rem (.s 0)<|pU 2)<|pU 0],[([(5,xw)],pe (.s 0)<|pU 1)],[pV 4<|.ite (.s 5) pT<|pe (.s 0)<|pU 1]⟩]<|pw (.s 4)<|px [pV 1<|pU 0,pV 2<|pI 3]]<|px [pV 1<|.cb .quo (.s 0)<|pU 2,pV 2<|pI 0],[(1,.v),(2,.v)]⟩
def HV:ZS Tryz.prog fresh sig [.fz] [] Tryz.f29=J Jq:=Z2
def Lr:Fn:=⟨4,[0,2,3,9],pQ [pR [pV 1<|pU 0,pV 2<|pI 0],pQ [.be ⟨[.lt 4 []<|pl (.s 0)<|pU 1],[([(4,xw)],pj (.s 0)<|pU 9223372036854775807)],[pV 3<|.ite (.s 4) pT<|pj (.s 0)<|pU 9223372036854775807]⟩]<|pw (.s 3)<|px [pV 1<|pU 0,pV 2<|pI 1]]<|px [pV 1<|pa (pm (pU 2)<|.s 0)<|pU 1,pV 2<|pI 0],[(1,.v),(2,.v)]⟩
def I2:ZS Tryz.prog fresh sig [.fz] [] Tryz.f32=J Lr:=Z2
def DE:Fn:=⟨6,[0,1,2,3,4,8],pQ [pR [(1,pS 0 2),pV 2<|pU 0,pV 3<|pI 0],pC [pK 6 60 [.mm 1 0 2]] [pV 4<|.s 6],pi 5 (.un .not<|.s 4)<|px [pV 2<|pU 0,pV 3<|pI 1]]<|px [pV 2<|pm (pU 2)<|pa (.bo .u64<|.m 1 0)<|pm (pU 65536)<|.bo .u64<|.m 1 1,pV 3<|pI 0],[(2,.v),(3,.v)]⟩
def Ic:ZS Tryz.prog fresh sig [.fz] [] Tryz.f47=J DE:=Z2
def Lu:Fn:=⟨4,[0,2,3,9],pQ [pR [pV 1<|pU 0,pV 2<|pI 0],pQ [.be ⟨[.lt 4 []<|pl (.s 0)<|pU 1],[([(4,xw)],pj (.s 0)<|pU 9223372036854775807)],[pV 3<|.ite (.s 4) pT<|pj (.s 0)<|pU 9223372036854775807]⟩]<|pw (.s 3)<|px [pV 1<|pU 0,pV 2<|pI 1]]<|px [pV 1<|pa (pm (pU 2)<|.s 0)<|pU 1,pV 2<|pI 0],[(1,.v),(2,.v)]⟩
def Ig:ZS Tryz.prog fresh sig [.fz] [] Tryz.f51=J Lu:=Z2
def DI:Fn:=⟨5,[0,2,3,4,20],pQ [pR [(1,.m [pI 0,pI 0]),pV 2<|pI 0],pR [(3,pM (.ag [.bo .i64<|.cb .rem (.cb .shr (.s 0)<|pU 1)<|pU 65536,.bo .i64<|.cb .shr (.s 0)<|pU 17]) 2)],pQ [.be ⟨[.lt 5 []<|pn (.cb .rem (.s 0)<|pU 2)<|pU 0,.call 6 [(5,xw)] (.id 71) xw xw [.mm 3 0 2]],[([(5,xw)],.un .not<|.s 6)],[pV 4<|.ite (.s 5) pT<|.un .not<|.s 6]⟩]<|pw (.s 4)<|px [(1,pM (.ag [pI 0,pI 0]) 2),pV 2<|pI 3]]<|px [(1,pM (.mm 3 0 2) 2),pV 2<|pI 0],[(1,(.ag 2)),(2,.v)]⟩
def Ii:ZS Tryz.prog fresh sig [.fz] [] Tryz.f55=J DI:=Z2
def DK:Fn:=⟨3,[0,1,2],pQ [pR [(1,pS 0 2),pV 2 pF],.be ⟨[.lt 3 []<|pg (.m 1 0)<|pI 0,.lt 4 []<|.ite (.s 3) (pL (.m 1 0)<|pI 255) pF,.lt 5 []<|.ite (.s 4) (pg (.m 1 1)<|pI 0) pF],[([(3,xk)],pL (.m 1 0)<|pI 255),([(4,xk)],pg (.m 1 1)<|pI 0),([(5,xk)],pL (.m 1 1)<|.m 1 0)],[pV 2<|.ite (.s 5) (pL (.m 1 1)<|.m 1 0) pF]⟩] .ret,[(2,.v)]⟩
def Il:ZS Tryz.prog fresh sig [.fz] [] Tryz.f60=J DK:=Z2
def DS:Fn:=⟨3,[0,1,2],pQ [pR [(1,pS 0 2),pV 2 pF],.be ⟨[.lt 3 []<|pg (.m 1 0)<|pI 0,.lt 4 []<|.ite (.s 3) (pL (.m 1 0)<|pI 255) pF,.lt 5 []<|.ite (.s 4) (pg (.m 1 1)<|pI 0) pF],[([(3,xk)],pL (.m 1 0)<|pI 255),([(4,xk)],pg (.m 1 1)<|pI 0),([(5,xk)],pL (.m 1 1)<|.m 1 0)],[pV 2<|.ite (.s 5) (pL (.m 1 1)<|.m 1 0) pF]⟩] .ret,[(2,.v)]⟩
def Iv:ZS Tryz.prog fresh sig [.fz] [] Tryz.f71=J DS:=Z2
def ZP(n:Int):Prop:= -9223372036854775808<=n/\n<=9223372036854775807
def Zy(n:Int):Prop:=0<=n/\n<18446744073709551616
def ZO(n:Int)(a:0<=n)(h2:n<=18446744073709551615):IntKind.u64.wrap n=n:=by
 rw[IntKind.wrap_u64];omega
def Yk{α:Type}{l:List α}{i:Nat}{x:α}(h:l[i]?=J x):∀a:i<I l,l[i]'a=x:=λa=>by
 rw[Z6b a]at h;exact Z8s h
def Yo(size ptrs:Int):Bool:=decide (0<=size)&&decide (size<=255)&&decide (0<=ptrs)&&decide (ptrs<=size)
theorem Yq{s p:Int}:Yo s p=xk↔0<=s/\s<=255/\0<=p/\p<=s:=by simp[Yo,and_assoc]
abbrev Rc(s p:Int):V:=.agg [vi s,vi p]
def jx{s p:Int}:VC Tryz.prog 71 xw [Rc s p]<|.bool<|Yo s p:=by
 refine ZY Tryz.func71 follows Z2 Iv rfl ?_;by_cases a:0<=s<;>by_cases d:s<=255<;>by_cases f:0<=p<;>by_cases g:p<=s<;>simp[DS,Yo,a,d,f,g]
def PX{s p:Int}:VC Tryz.prog 60 xw [Rc s p]<|.bool<|Yo s p:=by
 refine ZY Tryz.func60 follows Z2 Il rfl ?_;by_cases a:0<=s<;>by_cases d:s<=255<;>by_cases f:0<=p<;>by_cases g:p<=s<;>simp[DK,Yo,a,d,f,g]
def adr(w:Int):Int×Int:=if w=0 then(0,6)else if w%2=0\/w=1 then(0,3)else(w / 2,0)
def Sn{w:Int}(l:Zy w):VC Tryz.prog 29 xw [vu w]<|.am [vu (adr w).1,vi (adr w).2]:=by
 refine ZY Tryz.func29 follows Z2 HV rfl ?_;obtain⟨f,n⟩:=l;have d:w.tmod 2=w%2:=Z72 f;have j:w.tdiv 2=w / 2:=Z95 f;have k:=ZO (w / 2) Z0 Z0;by_cases a:w=0;simp[Jq,adr,a];by_cases g:w%2=0;simp[Jq,adr,a,d,g];by_cases h:w=1;subst h;simp[Jq,adr];simp[Jq,adr,a,d,j,g,h,k]
def X6(a:Int):Int×Int:=if a<1\/9223372036854775807<a then(0,1)else(2*a+1,0)
def Ew{a:Int}(j:Zy a):VC Tryz.prog 32 xw [vu a]<|.am [vu (X6 a).1,vi (X6 a).2]:=by
 refine ZY Tryz.func32 follows Z2 I2 rfl ?_;obtain⟨k,l⟩:=j;by_cases d:a<1;simp[Lr,X6,d];by_cases f:9223372036854775807<a;simp[Lr,X6,d,f];have g:=ZO (2*a) Z0 Z0;have h:=ZO (2*a+1) Z0 Z0;simp[Lr,X6,d,f,g,h]
def PV{a:Int}(j:Zy a):VC Tryz.prog 51 xw [vu a]<|.am [vu (X6 a).1,vi (X6 a).2]:=by
 refine ZY Tryz.func51 follows Z2 Ig rfl ?_;obtain⟨k,l⟩:=j;by_cases d:a<1;simp[Lu,X6,d];by_cases f:9223372036854775807<a;simp[Lu,X6,d,f];have g:=ZO (2*a) Z0 Z0;have h:=ZO (2*a+1) Z0 Z0;simp[Lu,X6,d,f,g,h]
def Xg(s p:Int):Int×Int:=if Yo s p then(2*(s+65536*p),0)else(0,1)
def PU{s p:Int}:VC Tryz.prog 47 xw [Rc s p]<|.am [vu (Xg s p).1,vi (Xg s p).2]:=by
 refine ZY Tryz.func47 follows Z2 Ic rfl ?_;simp[DE];refine Zz PX Z1 ?_;cases h:Yo s p;simp[Xg,h];obtain⟨k,l,n,o⟩:=Yq.1 h;have a:=ZO s Z0 Z0;have d:=ZO p Z0 Z0;have f:=ZO (65536*p) Z0 Z0;have g:=ZO (s+65536*p) Z0 Z0;have j:=ZO (2*(s+65536*p)) Z0 Z0;simp[Xg,h,a,d,f,g,j]
def ZW(w:Int):Int×Int×Int:=if w%2=0/\Yo (w / 2%65536) (w / 131072)=xk then(w / 2%65536,w / 131072,0)else(0,0,3)
def Aa{w:Int}(l:Zy w):VC Tryz.prog 55 xw [vu w]<|.am [Rc (ZW w).1 (ZW w).2.1,vi (ZW w).2.2]:=by
 refine ZY Tryz.func55 follows Z2 Ii rfl ?_;obtain⟨k,r⟩:=l;have p:w.fdiv (2 ^ min 1 IntKind.u64.bits)=w / 2:=by
  rw[show(2:Int) ^ min 1 IntKind.u64.bits=2 by decide];exact Z94 _ Z0
 have q:w.fdiv (2 ^ min 17 IntKind.u64.bits)=w / 131072:=by
  rw[show(2:Int) ^ min 17 IntKind.u64.bits=131072 by decide];exact Z94 _ Z0
 have n:=ZO (w / 2) Z0 Z0;have o:=ZO (w / 131072) Z0 Z0;have f:w.tmod 2=w%2:=Z72 k;have g:(w / 2).tmod 65536=w / 2%65536:=Z72 Z0;have h:=ZA (w / 2%65536) Z0 Z0;have j:=ZA (w / 131072) Z0 Z0;simp[DI,X2,p,q,f,g,h,j,n,o];by_cases a:w%2=0;simp[a];refine Zz jx Z1 ?_;cases d:Yo (w / 2%65536)<|w / 131072;simp[ZW,a,d];simp[ZW,a,d];simp[a,ZW]
def Dx:Fn:=⟨4,[0,1,2,25],pQ [pR [(1,pS 0 7),pV 2 pF],pQ [.be ⟨[.lt 4 []<|pl (.m 1 1)<|pI 0,.lt 5 []<|.ite (.s 4) pT<|pj (.m 1 1)<|pI 4096,.lt 6 []<|.ite (.s 5) pT<|pl (.m 1 0)<|pU 1],[([(4,xw)],pj (.m 1 1)<|pI 4096),([(5,xw)],pl (.m 1 0)<|pU 1),([(6,xw)],pj (.m 1 0)<|pb (pU 9223372036854775808)<|pm (pU 2)<|.bo .u64<|.m 1 1)],[pV 3<|.ite (.s 6) pT<|pj (.m 1 0)<|pb (pU 9223372036854775808)<|pm (pU 2)<|.bo .u64<|.m 1 1]⟩]<|pw (.s 3)<|px [pV 2 pF],.be ⟨[.lt 7 []<|pe (.m 1 2)<|pI 0,.lt 8 []<|.ite (.s 7) pT<|pe (.m 1 2)<|pI 1,.call 9 [(8,xk)] (.id 45) xw xw [.m 1 3,.m 1 4,.m 1 1],.lt 10 []<|.ite (.s 8) (.s 9) pF,.call 11 [(10,xk)] (.id 45) xw xw [.m 1 5,.m 1 6,.m 1 1]],[([(7,xw)],pe (.m 1 2)<|pI 1)],[pV 2<|.ite (.s 10) (.s 11) pF]⟩] .ret,[(2,.v)]⟩
def Hz:ZS Tryz.prog fresh sig [.fz] [] Tryz.f28=J Dx:=Z2
def Dy:Fn:=⟨12,[0,1,2,4,5,10,14,15,7,6,13,31],pQ [pR [(2,pS 0 7),(3,.m [pI 0,pI 0]),pV 4<|pI 0],pQ [pC [pK 12 28 [.mm 2 0 7]] [pV 5<|.un .not<|.s 12]]<|pw (.s 5)<|px [(3,pM (.ag [pI 0,pI 0]) 2),pV 4<|pI 1],pQ [pC [pK 10 46 [.mm 2 0 7]] [pV 6<|pI 0]]<|po [0,1,2,3,4,5,6,10] 7 (pl (.s 6)<|pI 4) (pQ [pR [(8,pM (.sz (.ai (.s 10) (.s 6) 4 2 xk) 2) 2),pV 9<|.s 6],.be ⟨[.lt 13 []<|pg (.s 1)<|.m 8 0],[([(13,xk)],pl (pb (.s 1)<|.m 8 0)<|.bo .u64<|.m 8 1)],[pV 11<|.ite (.s 13) (pl (pb (.s 1)<|.m 8 0)<|.bo .u64<|.m 8 1) pF]⟩]<|pw (.s 11)<|px [(3,pM (.ag [pa (.s 9)<|pI 1,.bo .i64<|pb (.s 1)<|.m 8 0]) 2),pV 4<|pI 0])<|pc 6]<|px [(3,pM (.ag [pI 0,pI 0]) 2),pV 4<|pI 6],[(3,(.ag 2)),(4,.v)]⟩
def I0:ZS Tryz.prog fresh sig [.fz,.fz] [] Tryz.f30=J Dy:=Z2
def Dz:Fn:=⟨10,[0,1,2,3,4,5,9,17,6,33],pQ [pR [(2,pS 0 7),(3,pS 1 2),pV 4<|pU 0,pV 5<|pI 0],pQ [pC [pK 10 28 [.mm 2 0 7]] [pV 6<|.un .not<|.s 10]]<|pw (.s 6)<|px [pV 4<|pU 0,pV 5<|pI 1],pQ [.be ⟨[.lt 11 []<|pl (.m 3 0)<|pI 1],[([(11,xw)],pj (.m 3 0)<|pI 4)],[pV 7<|.ite (.s 11) pT<|pj (.m 3 0)<|pI 4]⟩]<|pw (.s 7)<|px [pV 4<|pU 0,pV 5<|pI 6],pC [pK 12 46 [.mm 2 0 7]] [(8,pM (.sz (.ai (.s 12) (pb (.m 3 0)<|pI 1) 4 2 xk) 2) 2)],pQ [.be ⟨[.lt 13 []<|pl (.m 3 1)<|pI 0],[([(13,xw)],pg (.m 3 1)<|.m 8 1)],[pV 9<|.ite (.s 13) pT<|pg (.m 3 1)<|.m 8 1]⟩]<|pw (.s 9)<|px [pV 4<|pU 0,pV 5<|pI 6]]<|px [pV 4<|pa (.m 8 0)<|.bo .u64<|.m 3 1,pV 5<|pI 0],[(4,.v),(5,.v)]⟩
def I1:ZS Tryz.prog fresh sig [.fz,.fz] [] Tryz.f31=J Dz:=Z2
def Lt:Fn:=⟨4,[0,1,2,6],pQ [pR [pV 3 pF],.be ⟨[.lt 4 []<|pg (.s 0)<|pI 0,.lt 5 []<|.ite (.s 4) (pg (.s 1)<|pI 0) pF,.lt 6 []<|.ite (.s 5) (pL (.s 0)<|.s 2) pF],[([(4,xk)],pg (.s 1)<|pI 0),([(5,xk)],pL (.s 0)<|.s 2),([(6,xk)],pL (.s 1)<|pb (.s 2)<|.s 0)],[pV 3<|.ite (.s 6) (pL (.s 1)<|pb (.s 2)<|.s 0) pF]⟩] .ret,[(3,.v)]⟩
def Ia:ZS Tryz.prog fresh sig [.fz,.fz,.fz] [] Tryz.f45=J Lt:=Z2
def DD:Fn:=⟨3,[0,1,2],pQ [pR [(1,pS 0 7),(2,.m [pU 0,pI 0,pU 0,pI 0,pU 0,pI 0,pU 0,pI 0])],pC [pK 3 59 [.mm 1 0 7,pI 1],pK 4 59 [.mm 1 0 7,pI 2],pK 5 59 [.mm 1 0 7,pI 3],pK 6 59 [.mm 1 0 7,pI 4]] [(2,pM (.ag [.ac (.ag [.aj<|.s 3,.m 1 3]) 0,.ac (.ag [.aj<|.s 3,.m 1 3]) 1,.ac (.ag [.aj<|.s 4,.m 1 4]) 0,.ac (.ag [.aj<|.s 4,.m 1 4]) 1,.ac (.ag [.aj<|.s 5,.m 1 5]) 0,.ac (.ag [.aj<|.s 5,.m 1 5]) 1,.ac (.ag [.aj<|.s 6,.m 1 6]) 0,.ac (.ag [.aj<|.s 6,.m 1 6]) 1]) 8)]] .ret,[(2,(.ag 8))]⟩
def Ib:ZS Tryz.prog fresh sig [.fz] [] Tryz.f46=J DD:=Z2
def DF:Fn:=⟨11,[0,1,2,3,4,5,6,12,7,8,28],pQ [pR [(2,pS 0 7),(3,pS 1 2),pV 4<|pU 0,pV 5<|pI 0],pC [pK 11 61 [.mm 2 0 7]] [pV 6<|.s 11],pi 7 (.un .not<|.s 6)<|px [pV 4<|pU 0,pV 5<|pI 1],pC [pK 12 62 [.mm 2 0 7,.m 3 0]] [pV 8<|.ext (.s 12) 0,pV 9<|.ext (.s 12) 1],pQ [.be ⟨[.lt 13 []<|pl (.m 3 1)<|pI 0],[([(13,xw)],pg (.m 3 1)<|.s 9)],[pV 10<|.ite (.s 13) pT<|pg (.m 3 1)<|.s 9]⟩]<|pw (.s 10)<|px [pV 4<|pU 0,pV 5<|pI 6]]<|px [pV 4<|pa (.s 8)<|.bo .u64<|.m 3 1,pV 5<|pI 0],[(4,.v),(5,.v)]⟩
def Ie:ZS Tryz.prog fresh sig [.fz,.fz] [] Tryz.f49=J DF:=Z2
def DJ:Fn:=⟨4,[0,1,2,5],pQ [pR [(1,pS 0 7),pV 2<|pI 0],pQ [pC [pK 4 28 [.mm 1 0 7]] [pV 3<|.un .not<|.s 4]]<|pw (.s 3)<|px [pV 2<|pI 0]]<|px [pV 2<|pb (pb (.m 1 1)<|.m 1 3)<|.m 1 4],[(2,.v)]⟩
def Ij:ZS Tryz.prog fresh sig [.fz] [] Tryz.f56=J DJ:=Z2
def Jr:Fn:=⟨10,[0,1,2,4,5,9,8,11,13,15],pQ [pR [(2,pS 0 7),pV 3<|pU 0],pR [pV 4<|.m 2 0],pQ [pR [pV 6<|.s 1]]<|.block 0<|pQ [.block 4<|pQ [.block 3<|pQ [.block 2<|pQ [.block 1<|pQ [pQ [pi 5 (pe (.s 6)<|pI 2)<|.exit 1,pi 7 (pe (.s 6)<|pI 1)<|.exit 2,pi 8 (pe (.s 6)<|pI 4)<|.exit 3]<|pi 9 (pe (.s 6)<|pI 3)<|.exit 4]<|.exit 0]<|pR [pV 4<|pa (.s 4)<|.bo .u64<|pb (.m 2 1)<|.m 2 4],pR [pV 4<|pa (.s 4)<|.bo .u64<|pm (.m 2 2)<|.m 2 1]]<|.exit 0]<|pR [pV 4<|pa (.s 4)<|.bo .u64<|pb (.m 2 1)<|.m 2 6],pR [pV 4<|pa (.s 4)<|.bo .u64<|pm (pb (pI 1)<|.m 2 2)<|.m 2 1]]<|.exit 0]<|px [pV 3<|.s 4],[(3,.v)]⟩
def Ik:ZS Tryz.prog fresh sig [.fz,.fz] [] Tryz.f59=J Jr:=Z2
def DL:Fn:=⟨5,[0,1,2,35,53],pQ [pR [(1,pS 0 7),pV 2 pF],pQ [.be ⟨[.lt 5 []<|pl (.m 1 0)<|pU 1,.lt 6 []<|.ite (.s 5) pT<|pl (.m 1 1)<|pI 0,.lt 7 []<|.ite (.s 6) pT<|pj (.m 1 1)<|pI 4096,.lt 8 []<|.ite (.s 7) pT<|pj (.m 1 0)<|pb (pU 9223372036854775808)<|pm (pU 2)<|.bo .u64<|.m 1 1,.lt 9 []<|.ite (.s 8) pT<|pl (.m 1 2)<|pI 0],[([(5,xw)],pl (.m 1 1)<|pI 0),([(6,xw)],pj (.m 1 1)<|pI 4096),([(7,xw)],pj (.m 1 0)<|pb (pU 9223372036854775808)<|pm (pU 2)<|.bo .u64<|.m 1 1),([(8,xw)],pl (.m 1 2)<|pI 0),([(9,xw)],pj (.m 1 2)<|pI 1)],[pV 3<|.ite (.s 9) pT<|pj (.m 1 2)<|pI 1]⟩]<|pw (.s 3)<|px [pV 2 pF],pQ [.be ⟨[.lt 10 []<|pl (.m 1 3)<|pI 0,.lt 11 []<|.ite (.s 10) pT<|pl (.m 1 4)<|pI 0,.lt 12 []<|.ite (.s 11) pT<|pl (.m 1 5)<|pI 0],[([(10,xw)],pl (.m 1 4)<|pI 0),([(11,xw)],pl (.m 1 5)<|pI 0),([(12,xw)],pl (.m 1 6)<|pI 0)],[pV 4<|.ite (.s 12) pT<|pl (.m 1 6)<|pI 0]⟩]<|pw (.s 4)<|px [pV 2 pF],.be ⟨[.lt 13 []<|pL (.m 1 3)<|.m 1 1,.lt 14 []<|.ite (.s 13) (pL (.m 1 4)<|pb (.m 1 1)<|.m 1 3) pF,.lt 15 []<|.ite (.s 14) (pL (.m 1 5)<|.m 1 1) pF],[([(13,xk)],pL (.m 1 4)<|pb (.m 1 1)<|.m 1 3),([(14,xk)],pL (.m 1 5)<|.m 1 1),([(15,xk)],pL (.m 1 6)<|pb (.m 1 1)<|.m 1 5)],[pV 2<|.ite (.s 15) (pL (.m 1 6)<|pb (.m 1 1)<|.m 1 5) pF]⟩] .ret,[(2,.v)]⟩
def Im:ZS Tryz.prog fresh sig [.fz] [] Tryz.f61=J DL:=Z2
def qG:Fn:=⟨12,[0,1,2,4,5,6,7,28,27,33,45,50],pQ [pR [(2,pS 0 7),pV 3<|pU 0,pV 4<|pI 0],pR [pV 5<|pa (.m 2 0)<|.bo .u64<|pm (.m 2 2)<|.m 2 1],pR [pV 6<|pa (.m 2 0)<|.bo .u64<|pm (pb (pI 1)<|.m 2 2)<|.m 2 1],pQ [pR [pV 8<|.s 1]]<|.block 0<|pu 7 (pe (.s 8)<|pI 1) (px [pV 3<|.s 5,pV 4<|.m 2 3])<|pu 9 (pe (.s 8)<|pI 2) (px [pV 3<|pa (.s 5)<|.bo .u64<|pb (.m 2 1)<|.m 2 4,pV 4<|.m 2 4])<|pu 10 (pe (.s 8)<|pI 3) (px [pV 3<|.s 6,pV 4<|.m 2 5])<|pi 11 (pe (.s 8)<|pI 4)<|px [pV 3<|pa (.s 6)<|.bo .u64<|pb (.m 2 1)<|.m 2 6,pV 4<|.m 2 6]]<|px [pV 3<|pU 0,pV 4<|pI 0],[(3,.v),(4,.v)]⟩
def AZ:ZS Tryz.prog fresh sig [.fz,.fz] [] Tryz.f62=J qG:=Z2
structure Ly where
 V:Int
 cap:Int
 to:Int
 H:Int
 aa:Int
 ad:Int
 ae:Int
 deriving DecidableEq,Inhabited
def YF(l:Ly):V:=.agg [vu l.V,vi l.cap,vi l.to,vi l.H,vi l.aa,vi l.ad,vi l.ae]
@[simp]theorem Z4L l:Vu (YF l) 7=J (YF l):=rfl
@[simp]theorem Z3I l:(YF l).cells=[vu l.V,vi l.cap,vi l.to,vi l.H,vi l.aa,vi l.ad,vi l.ae]:=rfl
@[simp]theorem Z2P l:Ya (YF l) 0=J (vu l.V):=rfl
@[simp]theorem Z2Q l:Ya (YF l) 1=J (vi l.cap):=rfl
@[simp]theorem Z2R l:Ya (YF l) 2=J (vi l.to):=rfl
@[simp]theorem Z2S l:Ya (YF l) 3=J (vi l.H):=rfl
@[simp]theorem Z2T l:Ya (YF l) 4=J (vi l.aa):=rfl
@[simp]theorem Z2U l:Ya (YF l) 5=J (vi l.ad):=rfl
@[simp]theorem Z2V l:Ya (YF l) 6=J (vi l.ae):=rfl
def Ly.ah(l:Ly):Prop:=Zy l.V/\ZP l.cap/\ZP l.to/\ZP l.H/\ZP l.aa/\ZP l.ad/\ZP l.ae
def Ta(a b d:Int):Bool:=decide (0<=a)&&decide (0<=b)&&decide (a<=d)&&decide (b<=d-a)
def ZC(l:Ly):Bool:=decide (0<=l.cap)&&decide (l.cap<=4096)&&decide (1<=l.V)&&decide (l.V<=9223372036854775808-2*l.cap)&&(decide (l.to=0)||decide (l.to=1))&&Ta l.H l.aa l.cap&&Ta l.ad l.ae l.cap
theorem Xe{l}:ZC l=xk↔0<=l.cap/\l.cap<=4096/\1<=l.V/\l.V<=9223372036854775808-2*l.cap/\(l.to=0\/l.to=1)/\(0<=l.H/\0<=l.aa/\l.H<=l.cap/\l.aa<=l.cap-l.H)/\(0<=l.ad/\0<=l.ae/\l.ad<=l.cap/\l.ae<=l.cap-l.ad):=by
 simp[ZC,Ta,and_assoc]
theorem WU{l}:ZC l=xw↔ ¬(0<=l.cap/\l.cap<=4096/\1<=l.V/\l.V<=9223372036854775808-2*l.cap/\(l.to=0\/l.to=1)/\(0<=l.H/\0<=l.aa/\l.H<=l.cap/\l.aa<=l.cap-l.H)/\(0<=l.ad/\0<=l.ae/\l.ad<=l.cap/\l.ae<=l.cap-l.ad)):=by
 grind [Xe]
def FX{a b w:Int}(h:ZP a)(n:ZP b)(j:ZP w):VC Tryz.prog 45 xw [vi a,vi b,vi w]<|.bool<|Ta a b w:=by
 refine ZY Tryz.func45 follows Z2 Ia rfl ?_;obtain⟨k,l⟩:=h;obtain⟨o,p⟩:=j;by_cases d:0<=a;by_cases g:a<=w;have e:=ZA (w-a) Z0 Z0;by_cases f:0<=b<;>simp[Lt,Ta,d,g,f,e];by_cases f:0<=b<;>simp[Lt,Ta,d,g,f];simp[Lt,Ta,d]
def R7{l:Ly}(C:l.ah):VC Tryz.prog 28 xw [YF l]<|.bool<|ZC l:=by
 refine ZY Tryz.func28 follows Z2 Hz rfl ?_;obtain⟨⟨z,A⟩,B,G,u,w,x,y⟩:=C;obtain⟨f,g⟩:=B;simp[Dx];by_cases o:l.cap<0;grind [ZC,WU];by_cases p:4096<l.cap;grind [ZC,WU];by_cases q:l.V<1;grind [ZC,WU];have j:=ZO l.cap Z0 Z0;have k:=ZO (2*l.cap) Z0 Z0;have n:=ZO (9223372036854775808-2*l.cap) Z0 Z0;by_cases r:9223372036854775808-2*l.cap<l.V;grind [ZC,WU];by_cases a:l.to=0\/l.to=1
 .have d:=FX u w ⟨f,g⟩;have F:=FX x y ⟨f,g⟩;have D:ZC l=(Ta l.H l.aa l.cap&&Ta l.ad l.ae l.cap):=by
   obtain h|h:=a<;>simp[ZC,show 0<=l.cap by omega,show l.cap<=4096 by omega,show 1<=l.V by omega,show l.V<=9223372036854775808-2*l.cap by omega,h]
  rw[D];obtain a|a:=a;all_goals
   cases t:Ta l.H l.aa l.cap;rw[t]at d;simp[o,p,q,j,k,n,r,a];refine Zz d Z1 ?_;simp;rw[t]at d;simp[o,p,q,j,k,n,r,a];refine Zz d Z1 ?_;simp;refine Zz F Z1 ?_;simp
 simp_all[ZC,WU]
def PY{l:Ly}(j:l.ah):VC Tryz.prog 61 xw [YF l]<|.bool<|ZC l:=by
 refine ZY Tryz.func61 follows Z2 Im rfl ?_;obtain⟨⟨f,g⟩,h,B,a,z,d,A⟩:=j;obtain⟨k,n⟩:=h;simp[DL];by_cases u:l.V<1;grind [ZC,WU];by_cases r:l.cap<0;grind [ZC,WU];by_cases t:4096<l.cap;grind [ZC,WU];have o:=ZO l.cap Z0 Z0;have p:=ZO (2*l.cap) Z0 Z0;have q:=ZO (9223372036854775808-2*l.cap) Z0 Z0;by_cases w:9223372036854775808-2*l.cap<l.V;grind [ZC,WU];by_cases x:l.to<0;grind [ZC,WU];by_cases y:1<l.to;grind [ZC,WU];by_cases H:l.H<0;grind [ZC,WU];by_cases K:l.aa<0;grind [ZC,WU];by_cases L:l.ad<0;grind [ZC,WU];by_cases M:l.ae<0;grind [ZC,WU];obtain⟨C,D⟩:=a;obtain⟨F,G⟩:=d;have N:=ZA (l.cap-l.H) Z0 Z0;have O:=ZA (l.cap-l.ad) Z0 Z0;grind [ZC,Xe,WU]
def Xh(l:Ly):Int:=if ZC l then l.cap-l.H-l.aa else 0
def u8{l:Ly}(a:l.ah):VC Tryz.prog 56 xw [YF l]<|vi<|Xh l:=by
 refine ZY Tryz.func56 follows Z2 Ij rfl ?_;simp[DJ];refine Zz (R7 a) Z1 ?_;cases h:ZC l;simp[Xh,h];have g:=Xe.1 h;have d:=ZA (l.cap-l.H) Z0 Z0;have f:=ZA (l.cap-l.H-l.aa) Z0 Z0;simp_all[Xh]
def ZD(l:Ly)(part:Int):Int:=
 if part=1 then l.V+l.to*l.cap else if part=2 then l.V+l.to*l.cap+(l.cap-l.aa)else if part=3 then l.V+(1-l.to)*l.cap else l.V+(1-l.to)*l.cap+(l.cap-l.ae)
def ZX(l:Ly)(part:Int):Int:=if part=1 then l.H else if part=2 then l.aa else if part=3 then l.ad else l.ae
def z5{l}(a:ZC l=xk):(l.to*l.cap=0/\(1-l.to)*l.cap=l.cap)\/(l.to*l.cap=l.cap/\(1-l.to)*l.cap=0):=by
 grind [Xe]
def XW{l}(a:ZC l=xk)k:1<=ZD l k/\ZD l k+ZX l k<=9223372036854775808/\0<=ZX l k/\ZX l k<=4096:=by
 have h:=Xe.1 a;have d:=z5 a;unfold ZD ZX;omega
def KD{l:Ly}(d:ZC l=xk){k:Int}(y:1<=k/\k<=4):VC Tryz.prog 59 xw [YF l,vi k]<|vu<|ZD l k:=by
 refine ZY Tryz.func59 follows Z2 Ik rfl ?_;have h:=Xe.1 d;have z:=z5 d;have j:=ZA (l.to*l.cap) Z0 Z0;have n:=ZA (1-l.to) Z0 Z0;have o:=ZA ((1-l.to)*l.cap) Z0 Z0;have w:=ZA (l.cap-l.aa) Z0 Z0;have x:=ZA (l.cap-l.ae) Z0 Z0;have f:=ZO (l.to*l.cap) Z0 Z0;have g:=ZO ((1-l.to)*l.cap) Z0 Z0;have p:=ZO (l.cap-l.aa) Z0 Z0;have q:=ZO (l.cap-l.ae) Z0 Z0;have v1:=ZO (l.V+l.to*l.cap) Z0 Z0;have r:=ZO (l.V+(l.cap-l.aa)) Z0 Z0;have t:=ZO (l.V+(l.cap-l.aa)+l.to*l.cap) Z0 Z0;have v4:=ZO (l.V+(1-l.to)*l.cap) Z0 Z0;have u:=ZO (l.V+(l.cap-l.ae)) Z0 Z0;have v6:=ZO (l.V+(l.cap-l.ae)+(1-l.to)*l.cap) Z0 Z0;have a:k=1\/k=2\/k=3\/k=4:=Z0;obtain rfl|rfl|rfl|rfl:=a;simp[Jr,Qv,ZD,j,f,v1];simp[Jr,Qv,ZD,j,f,w,p,r,t];omega;simp[Jr,Qv,ZD,n,o,g,v4];simp[Jr,Qv,ZD,n,o,g,x,q,u,v6];omega
def WA(l:Ly):V:=.agg [vu<|ZD l 1,vi l.H,vu<|ZD l 2,vi l.aa,vu<|ZD l 3,vi l.ad,vu<|ZD l 4,vi l.ae]
def Fm{l:Ly}(a:ZC l=xk):VC Tryz.prog 46 xw [YF l]<|WA l:=by
 refine ZY Tryz.func46 follows Z2 Ib rfl ?_;simp[DD];refine Zz (KD a (k:=1) Z0) (by simp[YF]) ?_;simp;refine Zz (KD a (k:=2) Z0) (by simp[YF]) ?_;simp;refine Zz (KD a (k:=3) Z0) (by simp[YF]) ?_;simp;refine Zz (KD a (k:=4) Z0) (by simp[YF]) ?_;simp[WA]
@[simp]theorem JP l:ZX l 1=l.H:=rfl
@[simp]theorem JQ l:ZX l 2=l.aa:=rfl
@[simp]theorem JR l:ZX l 3=l.ad:=rfl
@[simp]theorem JS l:ZX l 4=l.ae:=rfl
def Y1(l:Ly)(part at_:Int):Int×Int:=
 if ZC l=xw then(0,1)else if part<1\/4<part then(0,6)else if at_<0\/ZX l part<=at_ then(0,6)else(ZD l part+at_,0)
def zE{l:Ly}(p:l.ah){part at_:Int}:VC Tryz.prog 31 xw [YF l,.agg [vi part,vi at_]]<|.am [vu (Y1 l part at_).1,vi (Y1 l part at_).2]:=by
 refine ZY Tryz.func31 follows Z2 I1 rfl ?_;simp[Dz];refine Zz (R7 p) Z1 ?_;cases d:ZC l;simp[Y1,d];simp;by_cases k:part<1;grind [Y1];by_cases n:4<part;simp_all[Y1];have o:part=1\/part=2\/part=3\/part=4:=Z0;simp[k,n];refine Zz (Fm d) Z1 ?_;obtain rfl|rfl|rfl|rfl:=o;have a:=XW d 1;simp only[JP]at a;simp[WA,Y4,ZA];by_cases f:at_<0;grind [Y1];by_cases g:l.H<=at_;simp_all[Y1];have h:=ZO at_ Z0 Z0;have j:=ZO (ZD l 1+at_) Z0 Z0;simp_all[Y1];have a:=XW d 2;simp only[JQ]at a;simp[WA,Y4,ZA];by_cases f:at_<0;grind [Y1];by_cases g:l.aa<=at_;simp_all[Y1];have h:=ZO at_ Z0 Z0;have j:=ZO (ZD l 2+at_) Z0 Z0;simp_all[Y1];have a:=XW d 3;simp only[JR]at a;simp[WA,Y4,ZA];by_cases f:at_<0;grind [Y1];by_cases g:l.ad<=at_;simp_all[Y1];have h:=ZO at_ Z0 Z0;have j:=ZO (ZD l 3+at_) Z0 Z0;simp_all[Y1];have a:=XW d 4;simp only[JS]at a;simp[WA,Y4,ZA];by_cases f:at_<0;grind [Y1];by_cases g:l.ae<=at_;simp_all[Y1];have h:=ZO at_ Z0 Z0;have j:=ZO (ZD l 4+at_) Z0 Z0;simp_all[Y1]
def LG{l:Ly}(d:ZC l=xk){k:Int}(x:1<=k/\k<=4):VC Tryz.prog 62 xw [YF l,vi k]<|.am [vu<|ZD l k,vi<|ZX l k]:=by
 refine ZY Tryz.func62 follows Z2 AZ rfl ?_;have h:=Xe.1 d;have y:=z5 d;have q:=ZA (l.to*l.cap) Z0 Z0;have r:=ZA (1-l.to) Z0 Z0;have t:=ZA ((1-l.to)*l.cap) Z0 Z0;have u:=ZA (l.cap-l.aa) Z0 Z0;have w:=ZA (l.cap-l.ae) Z0 Z0;have f:=ZO (l.to*l.cap) Z0 Z0;have g:=ZO ((1-l.to)*l.cap) Z0 Z0;have j:=ZO (l.cap-l.aa) Z0 Z0;have n:=ZO (l.cap-l.ae) Z0 Z0;have v1:=ZO (l.V+l.to*l.cap) Z0 Z0;have o:=ZO (l.V+l.to*l.cap+(l.cap-l.aa)) Z0 Z0;have v4:=ZO (l.V+(1-l.to)*l.cap) Z0 Z0;have p:=ZO (l.V+(1-l.to)*l.cap+(l.cap-l.ae)) Z0 Z0;have a:k=1\/k=2\/k=3\/k=4:=Z0;obtain rfl|rfl|rfl|rfl:=a;all_goals simp[qG,Qv,ZD,q,f,r,t,g,u,j,w,n,v1,o,v4,p]
def PS{l:Ly}(d:ZC l=xk){k:Int}(a:k<1\/4<k):VC Tryz.prog 62 xw [YF l,vi k]<|.am [vu 0,vi 0]:=by
 refine ZY Tryz.func62 follows Z2 AZ rfl ?_;simp[qG,Qv,show k≠1 by omega,show k≠2 by omega,show k≠3 by omega,show k≠4 by omega]
def PR{l:Ly}(p:l.ah){part at_:Int}:VC Tryz.prog 49 xw [YF l,.agg [vi part,vi at_]]<|.am [vu (Y1 l part at_).1,vi (Y1 l part at_).2]:=by
 refine ZY Tryz.func49 follows Z2 Ie rfl ?_;simp[DF];refine Zz (PY p) Z1 ?_;cases a:ZC l;simp[Y1,a];simp;by_cases n:part<1\/4<part;refine Zz (PS a n) Z1 ?_;by_cases d:at_<0;simp[Y1,a,n,d];simp[Y1,a,n,d,show 0<=at_ by omega];have o:part=1\/part=2\/part=3\/part=4:=Z0;obtain rfl|rfl|rfl|rfl:=o;have g:=XW a 1;simp only[JP]at g;refine Zz (LG a (k:=1) Z0) Z1 ?_;by_cases d:at_<0;simp[Y1,a,d];by_cases f:l.H<=at_;simp[Y1,a,d,f];have h:=ZO at_ Z0 Z0;have j:=ZO (ZD l 1+at_) Z0 Z0;simp[Y1,a,d,f,h,j];have g:=XW a 2;simp only[JQ]at g;refine Zz (LG a (k:=2) Z0) Z1 ?_;by_cases d:at_<0;simp[Y1,a,d];by_cases f:l.aa<=at_;simp[Y1,a,d,f];have h:=ZO at_ Z0 Z0;have j:=ZO (ZD l 2+at_) Z0 Z0;simp[Y1,a,d,f,h,j];have g:=XW a 3;simp only[JR]at g;refine Zz (LG a (k:=3) Z0) Z1 ?_;by_cases d:at_<0;simp[Y1,a,d];by_cases f:l.ad<=at_;simp[Y1,a,d,f];have h:=ZO at_ Z0 Z0;have j:=ZO (ZD l 3+at_) Z0 Z0;simp[Y1,a,d,f,h,j];have g:=XW a 4;simp only[JS]at g;refine Zz (LG a (k:=4) Z0) Z1 ?_;by_cases d:at_<0;simp[Y1,a,d];by_cases f:l.ae<=at_;simp[Y1,a,d,f];have h:=ZO at_ Z0 Z0;have j:=ZO (ZD l 4+at_) Z0 Z0;simp[Y1,a,d,f,h,j]
def YU(l:Ly)(a k:Int):Bool:=decide (ZD l k<=a)&&decide (a<ZD l k+ZX l k)
theorem Tf{l a k}:YU l a k=xk↔ZD l k<=a/\a<ZD l k+ZX l k:=by simp[YU]
def KR{l a k}:YU l a k=xw↔ ¬(ZD l k<=a/\a<ZD l k+ZX l k):=by grind [Tf]
def Y3(l:Ly)(a:Int):Int×Int×Int:=
 if ZC l=xw then(0,0,1)else if YU l a 1 then(1,a-ZD l 1,0)else if YU l a 2 then(2,a-ZD l 2,0)else if YU l a 3 then(3,a-ZD l 3,0)else if YU l a 4 then(4,a-ZD l 4,0)else(0,0,6)
def yf{l:Ly}(x:l.ah){a:Int}(w:Zy a):VC Tryz.prog 30 xw [YF l,vu a]<|.am [.agg [vi (Y3 l a).1,vi (Y3 l a).2.1],vi (Y3 l a).2.2]:=by
 refine ZY Tryz.func30 follows Z2 I0 rfl ?_;simp[Dy];refine Zz (R7 x) Z1 ?_;cases o:ZC l;simp[Y3,o];obtain⟨D,F⟩:=w;simp;refine Zz (Fm o) (by simp[YF]) ?_;simp;have r:∀k,1<=ZD l k/\ZD l k+ZX l k<=9223372036854775808/\0<=ZX l k/\ZX l k<=4096:=λk=>XW o k;have z:=r 1;have A:=r 2;have B:=r 3;have C:=r 4;simp only[JP,JQ,JR,JS]at z A B C;refine Kd 6 4 (λi=>(0<i->YU l a 1=xw)/\(1<i->YU l a 2=xw)/\(2<i->YU l a 3=xw)/\(3<i->YU l a 4=xw)) Z1 Z1 Z1 ?_;rintro i G ⟨n,p,t,y⟩;have u:i=0\/i=1\/i=2\/i=3\/i=4:=Z0;obtain rfl|rfl|rfl|rfl|rfl:=u;have h:=ZO l.H Z0 Z0;by_cases f:ZD l 1<=a;have j:=ZO (a-ZD l 1) Z0 Z0;by_cases g:a-ZD l 1<l.H;have q:=ZA (a-ZD l 1) Z0 Z0;have d:YU l a 1=xk:=Tf.2 ⟨f,by rw[JP];omega⟩;simp[WA,Y4,ZA,f,h,j,g,q,Y3,o,d];have d:YU l a 1=xw:=KR.2 (by rw[JP];omega);simp[WA,Y4,ZA,f,h,j,g,d];have d:YU l a 1=xw:=by simp[YU,f]
 simp[WA,Y4,ZA,f,d];have h:=ZO l.aa Z0 Z0;by_cases f:ZD l 2<=a;have j:=ZO (a-ZD l 2) Z0 Z0;by_cases g:a-ZD l 2<l.aa;have q:=ZA (a-ZD l 2) Z0 Z0;have d:YU l a 2=xk:=Tf.2 ⟨f,by rw[JQ];omega⟩;simp[WA,Y4,ZA,f,h,j,g,q,Y3,o,d,n Z0];have d:YU l a 2=xw:=KR.2 (by rw[JQ];omega);simp[WA,Y4,ZA,f,h,j,g,d,n Z0];have d:YU l a 2=xw:=by simp[YU,f]
 simp[WA,Y4,ZA,f,d,n Z0];have h:=ZO l.ad Z0 Z0;by_cases f:ZD l 3<=a;have j:=ZO (a-ZD l 3) Z0 Z0;by_cases g:a-ZD l 3<l.ad;have q:=ZA (a-ZD l 3) Z0 Z0;have d:YU l a 3=xk:=Tf.2 ⟨f,by rw[JR];omega⟩;simp[WA,Y4,ZA,f,h,j,g,q,Y3,o,d,n Z0,p Z0];have d:YU l a 3=xw:=KR.2 (by rw[JR];omega);simp[WA,Y4,ZA,f,h,j,g,d,n Z0,p Z0];have d:YU l a 3=xw:=by simp[YU,f]
 simp[WA,Y4,ZA,f,d,n Z0,p Z0];have h:=ZO l.ae Z0 Z0;by_cases f:ZD l 4<=a;have j:=ZO (a-ZD l 4) Z0 Z0;by_cases g:a-ZD l 4<l.ae;have q:=ZA (a-ZD l 4) Z0 Z0;have d:YU l a 4=xk:=Tf.2 ⟨f,by rw[JS];omega⟩;simp[WA,Y4,ZA,f,h,j,g,q,Y3,o,d,n Z0,p Z0,t Z0];have d:YU l a 4=xw:=KR.2 (by rw[JS];omega);simp[WA,Y4,ZA,f,h,j,g,d,n Z0,p Z0,t Z0];have d:YU l a 4=xw:=by simp[YU,f]
 simp[WA,Y4,ZA,f,d,n Z0,p Z0,t Z0];simp[Y3,o,n Z0,p Z0,t Z0,y Z0]
def p9:Fn:=⟨4,[0,1,4,6],pQ [pR [pV 2<|pI 0],pi 3 (pl (.s 0)<|pI 0)<|pR [pV 0<|.un .neg<|pa (.s 0)<|pI 1]]<|px [pV 2<|.cb .rem (.s 0)<|.s 1],[(2,.v)]⟩
def c9:ZS Tryz.prog fresh sig [.fz,.fz] [] Tryz.f9=J p9:=Z2
def Dk:Fn:=⟨10,[0,1,2,3,4,39,5,41,6,52],pQ [pR [(2,pS 0 10),(3,pS 1 10),pV 4 pF],pQ [.be ⟨[.lt 10 []<|pn (.m 2 0)<|.m 3 0,.lt 11 []<|.ite (.s 10) pT<|pn (.m 2 1)<|.m 3 1,.lt 12 []<|.ite (.s 11) pT<|pn (.m 2 2)<|.m 3 2,.lt 13 []<|.ite (.s 12) pT<|.gz xk (.m 2 3)<|.m 3 3],[([(10,xw)],pn (.m 2 1)<|.m 3 1),([(11,xw)],pn (.m 2 2)<|.m 3 2),([(12,xw)],.gz xk (.m 2 3)<|.m 3 3),([(13,xw)],pn (.m 2 4)<|.m 3 4)],[pV 5<|.ite (.s 13) pT<|pn (.m 2 4)<|.m 3 4]⟩]<|pw (.s 5)<|px [pV 4 pF],pQ [pR [pV 6<|pI 1]]<|.block 0<|.loop [0,1,2,3,4,5,6]<|pQ [pu 7 (pL (.s 6)<|pI 4) .skip<|.exit 0,.block 1<|pQ [pC [pK 14 24 [.mm 2 0 10,.s 6],pK 15 24 [.mm 3 0 10,.s 6],pK 16 23 [.s 14,.s 15]] [pV 8<|.s 16]]<|pi 9 (.un .not<|.s 8)<|px [pV 4 pF]]<|pc 6,pC [pK 17 23 [.m 2 9,.m 3 9]] [pV 4<|.s 17]] .ret,[(4,.v)]⟩
def Hk:ZS Tryz.prog fresh sig [.fz,.fz] [] Tryz.f10=J Dk:=Z2
def Dv:Fn:=⟨3,[0,1,2],pQ [pR [(1,pS 0 10),(2,.m [pU 0,pI 0,pI 0,pI 0,pI 0,pI 0,pI 0])]]<|px [(2,pM (.ag [.m 1 0,.m 1 1,.m 1 2,.len<|.m 1 5,.len<|.m 1 6,.len<|.m 1 7,.len<|.m 1 8]) 7)],[(2,(.ag 7))]⟩
def Hv:ZS Tryz.prog fresh sig [.fz] [] Tryz.f19=J Dv:=Z2
def qC:Fn:=⟨7,[0,1,4,10,5,14,25],pQ [pR [pV 2 pF],pi 3 (pn (.len<|.s 0)<|.len<|.s 1)<|px [pV 2 pF],pQ [pR [pV 4<|pI 0]]<|.block 0<|.loop [0,1,2,3,4]<|pQ [pu 5 (pl (.s 4)<|.len<|.s 0) .skip<|.exit 0,.block 1<|pi 6 (pn (.ac (.bc (.s 0) (.s 4) 1) 0)<|.ac (.bc (.s 1) (.s 4) 1) 0)<|px [pV 2 pF]]<|pc 4]<|px [pV 2 pT],[(2,.v)]⟩
def Hx:ZS Tryz.prog fresh sig [.fz,.fz] [] Tryz.f23=J qC:=Z2
def Lp:Fn:=⟨8,[0,1,2,4,6,5,10,14],pQ [pR [(2,pS 0 10),pV 3 pN],pQ [pR [pV 5<|.s 1]]<|.block 0<|pu 4 (pe (.s 5)<|pI 1) (px [pV 3<|.m 2 5])<|pu 6 (pe (.s 5)<|pI 2) (px [pV 3<|.m 2 6])<|pi 7 (pe (.s 5)<|pI 3)<|px [pV 3<|.m 2 7]]<|px [pV 3<|.m 2 8],[(3,.v)]⟩
def Hy:ZS Tryz.prog fresh sig [.fz,.fz] [] Tryz.f24=J Lp:=Z2
def Lq:Fn:=⟨4,[0,1,4,6],pQ [pR [pV 2<|pI 0],pi 3 (pl (.s 0)<|pI 0)<|pR [pV 0<|.un .neg<|pa (.s 0)<|pI 1]]<|px [pV 2<|.cb .rem (.s 0)<|.s 1],[(2,.v)]⟩
def AY:ZS Tryz.prog fresh sig [.fz,.fz] [] Tryz.f25=J Lq:=Z2
def qE:Fn:=⟨4,[0,1,4,6],pQ [pR [pV 2<|pI 0],pi 3 (pl (.s 0)<|pI 0)<|pR [pV 0<|.un .neg<|pa (.s 0)<|pI 1]]<|px [pV 2<|.cb .rem (.s 0)<|.s 1],[(2,.v)]⟩
def I5:ZS Tryz.prog fresh sig [.fz,.fz] [] Tryz.f35=J qE:=Z2
def Ls:Fn:=⟨9,[0,1,2,3,6,10,7,14,18],pQ [pR [(3,pS 0 10),(4,pZ)],pQ [pR [pV 6<|.s 1]]<|.block 0<|pu 5 (pe (.s 6)<|pI 1) (pR [(3,.m [.m 3 0,.m 3 1,.m 3 2,.m 3 3,.m 3 4,.aj<|.s 2,.m 3 6,.m 3 7,.m 3 8,.m 3 9])])<|pu 7 (pe (.s 6)<|pI 2) (pR [(3,.m [.m 3 0,.m 3 1,.m 3 2,.m 3 3,.m 3 4,.m 3 5,.aj<|.s 2,.m 3 7,.m 3 8,.m 3 9])])<|pu 8 (pe (.s 6)<|pI 3) (pR [(3,.m [.m 3 0,.m 3 1,.m 3 2,.m 3 3,.m 3 4,.m 3 5,.m 3 6,.aj<|.s 2,.m 3 8,.m 3 9])])<|pR [(3,.m [.m 3 0,.m 3 1,.m 3 2,.m 3 3,.m 3 4,.m 3 5,.m 3 6,.m 3 7,.aj<|.s 2,.m 3 9])]]<|px [(4,pM (.mm 3 0 10) 10)],[(4,(.ag 10))]⟩
def I8:ZS Tryz.prog fresh sig [.fz,.fz,.fz] [] Tryz.f38=J Ls:=Z2
def DG:Fn:=⟨3,[0,1,2],pQ [pR [(1,pS 0 10),(2,.m [pU 0,pI 0,pI 0,pI 0,pI 0,pI 0,pI 0])]]<|px [(2,pM (.ag [.m 1 0,.m 1 1,.m 1 2,.len<|.m 1 5,.len<|.m 1 6,.len<|.m 1 7,.len<|.m 1 8]) 7)],[(2,(.ag 7))]⟩
def If:ZS Tryz.prog fresh sig [.fz] [] Tryz.f50=J DG:=Z2
structure Hp where
 V:Int
 cap:Int
 to:Int
 M:Bool
 O:Int
 H:List Int
 aa:List Int
 ad:List Int
 ae:List Int
 E:List Int
 deriving DecidableEq,Inhabited
def ZF(h:Hp):V:=.agg [vu h.V,vi h.cap,vi h.to,.bool h.M,vi h.O,.sl<|h.H.map vu,.sl<|h.aa.map vu,.sl<|h.ad.map vu,.sl<|h.ae.map vu,.sl<|h.E.map vu]
@[simp]theorem Z4K(h:Hp):Vu (ZF h) 10=J (ZF h):=rfl
@[simp]theorem Z3r(h:Hp):(ZF h).cells=[vu h.V,vi h.cap,vi h.to,.bool h.M,vi h.O,.sl<|h.H.map vu,.sl<|h.aa.map vu,.sl<|h.ad.map vu,.sl<|h.ae.map vu,.sl<|h.E.map vu]:=rfl
@[simp]theorem Z2E(h:Hp):Ya (ZF h) 0=J (vu h.V):=rfl
@[simp]theorem Z2F(h:Hp):Ya (ZF h) 1=J (vi h.cap):=rfl
@[simp]theorem Z2G(h:Hp):Ya (ZF h) 2=J (vi h.to):=rfl
@[simp]theorem Z2H(h:Hp):Ya (ZF h) 3=J (.bool h.M):=rfl
@[simp]theorem Z2I(h:Hp):Ya (ZF h) 4=J (vi h.O):=rfl
@[simp]theorem Z2J(h:Hp):Ya (ZF h) 5=J (.sl<|h.H.map vu):=rfl
@[simp]theorem Z2K(h:Hp):Ya (ZF h) 6=J (.sl<|h.aa.map vu):=rfl
@[simp]theorem Z2L(h:Hp):Ya (ZF h) 7=J (.sl<|h.ad.map vu):=rfl
@[simp]theorem Z2M(h:Hp):Ya (ZF h) 8=J (.sl<|h.ae.map vu):=rfl
@[simp]theorem Z2N(h:Hp):Ya (ZF h) 9=J (.sl<|h.E.map vu):=rfl
def Zv(h:Hp):Ly:=⟨h.V,h.cap,h.to,I h.H,I h.aa,I h.ad,I h.ae⟩
structure Hp.ok (h:Hp):Prop where
 V:Zy h.V
 cap:ZP h.cap
 to:ZP h.to
 O:ZP h.O
 H:I h.H<=1000000
 aa:I h.aa<=1000000
 ad:I h.ad<=1000000
 ae:I h.ae<=1000000
 E:I h.E<=1000000
 dm:∀w∈h.H,Zy w
 db:∀w∈h.aa,Zy w
 gy:∀w∈h.ad,Zy w
 gw:∀w∈h.ae,Zy w
 cg:∀w∈h.E,Zy w
def KE{α:Type}{l:List α}(h:I l<=1000000):ZP (I l:Int):=⟨Z0,Z0⟩
def Hp.ok.al{h:Hp}(a:h.ok):(Zv h).ah:=⟨a.V,a.cap,a.to,KE a.H,KE a.aa,KE a.ad,KE a.ae⟩
def zo{h:Hp}:VC Tryz.prog 19 xw [ZF h]<|YF<|Zv h:=by
 refine ZY Tryz.func19 follows Z2 Hv rfl ?_;simp[Dv,YF,Zv]
def PT{h:Hp}:VC Tryz.prog 50 xw [ZF h]<|YF<|Zv h:=by
 refine ZY Tryz.func50 follows Z2 If rfl ?_;simp[DG,YF,Zv]
def Zw(h:Hp)(n:Int):List Int:=if n=1 then h.H else if n=2 then h.aa else if n=3 then h.ad else h.ae
@[simp]theorem Xn(h:Hp):Zw h 1=h.H:=rfl
@[simp]theorem Uq(h:Hp):Zw h 2=h.aa:=rfl
@[simp]theorem qN(h:Hp):Zw h 3=h.ad:=rfl
@[simp]theorem SU(h:Hp):Zw h 4=h.ae:=rfl
def UG{h:Hp}{n:Int}:VC Tryz.prog 24 xw [ZF h,vi n]<|.sl<|(Zw h n).map vu:=by
 refine ZY Tryz.func24 follows Z2 Hy rfl ?_;by_cases a:n=1;simp[Lp,Zw,a];by_cases d:n=2;simp[Lp,Zw,d];by_cases f:n=3<;>simp[Lp,Zw,a,d,f]
def Yr(h:Hp)(n:Int)(l:Z5):Hp:=if n=1 then {h with H:=l}else if n=2 then {h with aa:=l}else if n=3 then {h with ad:=l}else {h with ae:=l}
@[simp]theorem Z4U(h:Hp)(l:Z5):Yr h 1 l= {h with H:=l}:=rfl
@[simp]theorem Z4V(h:Hp)(l:Z5):Yr h 2 l= {h with aa:=l}:=rfl
@[simp]theorem Z4W(h:Hp)(l:Z5):Yr h 3 l= {h with ad:=l}:=rfl
@[simp]theorem Z4X(h:Hp)(l:Z5):Yr h 4 l= {h with ae:=l}:=rfl
def AE{h:Hp}{n:Int}{l:Z5}:VC Tryz.prog 38 xw [ZF h,vi n,.sl<|l.map vu]<|ZF<|Yr h n l:=by
 refine ZY Tryz.func38 follows Z2 I8 rfl ?_;by_cases a:n=1;simp[Ls,Yr,a,ZF];by_cases d:n=2;simp[Ls,Yr,d,ZF];by_cases f:n=3<;>simp[Ls,Yr,a,d,f,ZF]
theorem Z0V{α:Type}{a b:List α}{i:Nat}(h:a.take i=b.take i)(hx:a[i]?=b[i]?):a.take (i+1)=b.take (i+1):=by
 simp_all[Z7k]
def Z3R{α:Type}{a b:List α}{i:Nat}(h:a[i]? ≠b[i]?):a≠b:=λe=>h (by rw[e])
def Jm{a b:Z5}(k:I a<=1000000):VC Tryz.prog 23 xw [.sl<|a.map vu,.sl<|b.map vu]<|.bool<|decide (a=b):=by
 refine ZY Tryz.func23 follows Z2 Hx rfl ?_;by_cases g:I a=I b;simp[qC,g];refine Kd 4 (I b) (λi=>a.take i=b.take i) Z1 Z1 Z1 ?_;intro i l heq;have j:=ZA ((i:Int)+1) Z0 Z0;by_cases h:i<I b;have d:i<I a:=Z0;by_cases f:a[i]=b[i];simp[h,d,f,j];grind [Z0V];simp[h,d,f];grind;simp_all[Z7P,Z7t];simp[qC,show ¬((I a:Int)=(I b:Int))by omega];grind
def jF{a b:Hp}(f:a.ok):VC Tryz.prog 10 xw [ZF a,ZF b]<|.bool<|decide (a=b):=by
 refine ZY Tryz.func10 follows Z2 Hk rfl ?_;simp[Dk];have g:∀k,I (Zw a k)<=1000000:=λk=>by
  unfold Zw;split;exact f.H;split;exact f.aa;split;exact f.ad;exact f.ae
 by_cases j:a.V=b.V;case neg=>
  grind
 by_cases l:a.cap=b.cap;case neg=>
  grind
 by_cases o:a.to=b.to;case neg=>
  grind
 by_cases p:a.M=b.M;case neg=>
  grind
 by_cases q:a.O=b.O;case neg=>
  grind
 simp[j,l,o,p,q];refine TB (λ(i:Nat)=>[(6,.v<|vi ((i+1:Nat):Int))]) (λi=>i<=4/\(0<i->a.H=b.H)/\(1<i->a.aa=b.aa)/\(2<i->a.ad=b.ad)/\(3<i->a.ae=b.ae)) (Xa 6 5) 0 Z1 Z1 ?_;rintro i ⟨C,y,z,A,B⟩;have r:i=0\/i=1\/i=2\/i=3\/i=4:=Z0;obtain rfl|rfl|rfl|rfl|rfl:=r;simp;refine Zz (UG (h:=⟨b.V,b.cap,b.to,b.M,b.O,a.H,a.aa,a.ad,a.ae,a.E⟩) (n:=1)) Z67 ?_;simp;refine Zz (UG (h:=b) (n:=1)) Z67 ?_;simp;refine Zz (Jm (b:=b.H)<|g 1) Z1 ?_;by_cases d:a.H=b.H;simp[d,ZA];exact⟨1,by simp[d],Z1,Z69⟩;have:a≠b:=λe=>d (by rw[e]);simp_all;simp;refine Zz (UG (h:=⟨b.V,b.cap,b.to,b.M,b.O,a.H,a.aa,a.ad,a.ae,a.E⟩) (n:=2)) Z67 ?_;simp;refine Zz (UG (h:=b) (n:=2)) Z67 ?_;simp;refine Zz (Jm (b:=b.aa)<|g 2) Z1 ?_;by_cases d:a.aa=b.aa;simp[d,ZA];exact⟨2,Z5i,Z1,Z69⟩;have:a≠b:=λe=>d (by rw[e]);simp_all;simp;refine Zz (UG (h:=⟨b.V,b.cap,b.to,b.M,b.O,a.H,a.aa,a.ad,a.ae,a.E⟩) (n:=3)) Z67 ?_;simp;refine Zz (UG (h:=b) (n:=3)) Z67 ?_;simp;refine Zz (Jm (b:=b.ad)<|g 3) Z1 ?_;by_cases d:a.ad=b.ad;simp[d,ZA];exact⟨3,Z5i,Z1,Z69⟩;have:a≠b:=λe=>d (by rw[e]);simp_all;simp;refine Zz (UG (h:=⟨b.V,b.cap,b.to,b.M,b.O,a.H,a.aa,a.ad,a.ae,a.E⟩) (n:=4)) Z67 ?_;simp;refine Zz (UG (h:=b) (n:=4)) Z67 ?_;simp;refine Zz (Jm (b:=b.ae)<|g 4) Z1 ?_;by_cases d:a.ae=b.ae;simp[d,ZA];exact⟨4,Z5i,Z1,Z69⟩;have:a≠b:=λe=>d (by rw[e]);simp_all;simp;refine Zz (Jm (b:=b.E) f.E) Z1 ?_;by_cases d:a.E=b.E;have:a=b:=by
  have t:=y Z0;have u:=z Z0;have w:=A Z0;have x:=B Z0;obtain⟨_,_,_,_,_,_,_,_,_,_⟩:=a;obtain⟨_,_,_,_,_,_,_,_,_,_⟩:=b;simp only at j l o p q t u w x d;subst j l o p q t u w x d;rfl
 simp_all;have:a≠b:=λe=>d (by rw[e]);simp_all
def pick(c n:Int):Int:=(if c<0 then-(c+1)else c) %n
def Wl{c n:Int}(a:0<n):0<=pick c n/\pick c n<n:=⟨Z8H _ Z0,Z8q _ a⟩
def Jv{c n:Int}(a:ZP c)(g:0<n):VC Tryz.prog 35 xw [vi c,vi n]<|vi<|pick c n:=by
 refine ZY Tryz.func35 follows Z2 I5 rfl ?_;obtain⟨d,f⟩:=a;by_cases h:c<0;simp[qE,h];simp(disch:=omega) only[ZA];refine⟨Z0,?_⟩;unfold pick;grind;simp[qE,h];refine⟨Z0,?_⟩;simp_all[pick,Z6h,Z72]
def S8{c n:Int}(a:ZP c)(g:0<n):VC Tryz.prog 25 xw [vi c,vi n]<|vi<|pick c n:=by
 refine ZY Tryz.func25 follows Z2 AY rfl ?_;obtain⟨d,f⟩:=a;by_cases h:c<0;simp[Lq,h];simp(disch:=omega) only[ZA];refine⟨Z0,?_⟩;unfold pick;grind;simp[Lq,h];refine⟨Z0,?_⟩;simp_all[pick,Z6h,Z72]
def Ea{c n:Int}(a:ZP c)(g:0<n):VC Tryz.prog 9 xw [vi c,vi n]<|vi<|pick c n:=by
 refine ZY Tryz.func9 follows Z2 c9 rfl ?_;obtain⟨d,f⟩:=a;by_cases h:c<0;simp[p9,h];simp(disch:=omega) only[ZA];refine⟨Z0,?_⟩;unfold pick;grind;simp[p9,h];refine⟨Z0,?_⟩;simp_all[pick,Z6h,Z72]
def DA:Fn:=⟨13,[0,1,4,5,6,7,16,8,9,30,10,78,97],pQ [pR [(2,.m [pN,pN])],pR [pV 3<|.mn (.len<|.s 0)<|pI 10],pR [(4,.m [pN,pN])],pQ [pR [pV 5<|pI 0]]<|.block 0<|.loop [0,1,2,3,4,5]<|pQ [pu 6 (pl (.s 5)<|.s 3) .skip<|.exit 0,.block 1<|pQ [pR [(7,.m [pN,pN])],pQ [pR [pV 8<|pI 0]]<|.block 2<|.loop [0,1,2,3,4,5,6,7,8]<|pQ [pQ [.be ⟨[.lt 13 []<|pl (.s 8)<|.len<|.ac (.bc (.s 0) (.s 5) 2) 0],[([(13,xk)],pl (.s 8)<|pI 4)],[pV 9<|.ite (.s 13) (pl (.s 8)<|pI 4) pF]⟩]<|.cond (.s 9) .skip<|.exit 2,.block 3<|pC [pK 14 25 [.ac (.bc (.ac (.bc (.s 0) (.s 5) 2) 0) (.s 8) 1) 0,pa (.s 3)<|pI 1]] [(7,.m [.ct (.m 7 0) (.lit [pb (.s 14)<|pI 1]) 1,.m 7 1])]]<|pc 8,pR [(7,.m [.m 7 0,.ct pN (.ig (.ac (.bc (.s 0) (.s 5) 2) 1) (pI 0) (.mn (.len<|.ac (.bc (.s 0) (.s 5) 2) 1)<|pI 4) 1) 1])]]<|pR [(4,.m [.ct (.m 4 0) (.lit [.mm 7 0 2]) 2,.m 4 1])]]<|pc 5,pQ [pR [pV 10<|pI 0]]<|.block 4<|.loop [0,1,2,3,4,5,6,10]<|pQ [pQ [.be ⟨[.lt 15 []<|pl (.s 10)<|.len<|.s 1],[([(15,xk)],pl (.s 10)<|pI 5)],[pV 11<|.ite (.s 15) (pl (.s 10)<|pI 5) pF]⟩]<|.cond (.s 11) .skip<|.exit 4,.block 5<|pC [pK 16 25 [.ac (.bc (.s 1) (.s 10) 1) 0,pa (.s 3)<|pI 1]] [(4,.m [.m 4 0,.ct (.m 4 1) (.lit [pb (.s 16)<|pI 1]) 1])]]<|pc 10,pi 12 (pe (.len<|.m 4 1)<|pI 0)<|pR [(4,.m [.m 4 0,.ct (.m 4 1) (.lit [pb (.s 3)<|pI 1]) 1])]]<|px [(2,pM (.mm 4 0 2) 2)],[(2,(.ag 2))]⟩
def I3:ZS Tryz.prog fresh sig [.fz,.fz] [] Tryz.f33=J DA:=Z2
def qD:Fn:=⟨10,[0,1,2,3,6,7,8,14,9,31],pQ [pR [(3,pS 0 7),pV 4<|pI 0,pV 5 pF],pR [pV 6<|.s 1],pi 7 (pj (.len<|.m 3 2)<|pI 0)<|pR [pV 6<|.ac (.bc (.m 3 2) (.cb .rem (.s 1)<|.len<|.m 3 2) 1) 0],pC [pK 10 35 [.s 6,pI 3]] [pV 8<|.s 10],pQ [.be ⟨[.lt 11 []<|pe (.s 8)<|pI 2],[([(11,xk)],.un .not<|.s 2)],[pV 9<|.ite (.s 11) (.un .not<|.s 2) pF]⟩]<|pw (.s 9)<|pR [pV 8<|pI 1],pC [pK 12 35 [.cb .quo (.s 6)<|pI 3,pI 2]] [pV 4<|.s 8,pV 5<|pe (.s 12)<|pI 1]] .ret,[(4,.v),(5,.v)]⟩
def I4:ZS Tryz.prog fresh sig [.fz,.fz,.fz] [] Tryz.f34=J qD:=Z2
def DB:Fn:=⟨15,[0,1,2,3,4,5,6,8,9,10,11,12,44,13,76],pQ [pR [(4,pS 0 14),(5,pS 1 2),(6,pS 2 2),(7,.m [pU 0,pI 0,pI 0,pF,pI 0,pN,pN,pN,pN,pN,pN,pN,pN,pN])],pC [pK 15 24 [.mm 4 0 10,.m 5 0]] [pV 8<|.ct pN (.s 15) 1],pC [pK 16 47 [.ag [pa (.len<|.m 6 0)<|.len<|.m 6 1,.len<|.m 6 0]]] [pV 9<|.ext (.s 16) 0,pV 10<|.ext (.s 16) 1],.be ⟨[],[([],.bc (.s 8) (.m 5 1) 1)],[pV 8<|.gl (.s 8) (.m 5 1) 0<|.aj<|.s 9]⟩,pQ [pR [pV 11<|pI 0]]<|.block 0<|.loop [0,1,2,3,4,5,6,7,8,9,10,11]<|pQ [pu 12 (pl (.s 11)<|.len<|.m 6 0) .skip<|.exit 0,.block 1<|.be ⟨[pK 17 48 [.mm 4 0 14,.ag [.m 5 0,pa (pa (.m 5 1)<|pI 1)<|.s 11],.ac (.bc (.m 6 0) (.s 11) 1) 0,pa (.s 3)<|.s 11]],[([],.bc (.s 8) (pa (pa (.m 5 1)<|pI 1)<|.s 11) 1)],[pV 8<|.gl (.s 8) (pa (pa (.m 5 1)<|pI 1)<|.s 11) 0<|.aj<|.s 17]⟩]<|pc 11,pQ [pR [pV 13<|pI 0]]<|.block 2<|.loop [0,1,2,3,4,5,6,7,8,9,10,11,12,13]<|pQ [pu 14 (pl (.s 13)<|.len<|.m 6 1) .skip<|.exit 2,.block 3<|.be ⟨[],[([],.bc (.s 8) (pa (pa (pa (.m 5 1)<|pI 1)<|.len<|.m 6 0)<|.s 13) 1)],[pV 8<|.gl (.s 8) (pa (pa (pa (.m 5 1)<|pI 1)<|.len<|.m 6 0)<|.s 13) 0<|.ac (.bc (.m 6 1) (.s 13) 1) 0]⟩]<|pc 13,pC [pK 18 38 [.mm 4 0 10,.m 5 0,.s 8]] [(4,.m [.ac (.sz (.s 18) 10) 0,.ac (.sz (.s 18) 10) 1,.ac (.sz (.s 18) 10) 2,.ac (.sz (.s 18) 10) 3,.ac (.sz (.s 18) 10) 4,.ac (.sz (.s 18) 10) 5,.ac (.sz (.s 18) 10) 6,.ac (.sz (.s 18) 10) 7,.ac (.sz (.s 18) 10) 8,.ac (.sz (.s 18) 10) 9,.m 4 10,.m 4 11,.m 4 12,.m 4 13])]]<|px [(7,pM (.mm 4 0 14) 14)],[(7,(.ag 14))]⟩
def I6:ZS Tryz.prog fresh sig [.fz,.fz,.fz,.fz] [] Tryz.f36=J DB:=Z2
def qF:Fn:=⟨10,[0,1,2,3,4,11,5,6,7,8],pQ [pR [(2,pS 0 14),(3,pS 1 2),pV 4<|pU 0],pi 5 (pe (.m 3 0)<|pI 0)<|px [pV 4<|pU 0],pC [pK 10 50 [.mm 2 0 10],pK 11 49 [.s 10,.mm 3 0 2]] [pV 6<|.ext (.s 11) 0,pV 7<|.ext (.s 11) 1],pC [pK 12 51 [.s 6]] [pV 8<|.ext (.s 12) 0,pV 9<|.ext (.s 12) 1]]<|px [pV 4<|.s 8],[(4,.v)]⟩
def I7:ZS Tryz.prog fresh sig [.fz,.fz] [] Tryz.f37=J qF:=Z2
def To:Fn:=⟨10,[0,1,2,3,4,5,8,10,13,54],pQ [pR [(4,pS 0 14),(5,pS 1 2),pV 6<|pU 0],pi 7 (pl (.s 2)<|pI 0)<|px [pV 6<|pU 0],pi 8 (pj (.m 5 0)<|pI 2)<|pQ [pC [pK 10 37 [.mm 4 0 14,.bp (.bc (.m 4 13) (.s 2) 2) 0 2]] [pV 6<|.s 10]] .ret,pQ [.be ⟨[.lt 11 []<|pe (.m 5 0)<|pI 1,.lt 12 []<|.ite (.s 11) (pg (.m 5 1)<|.m 4 4) pF,.lt 13 [(12,xk)]<|pe (.ac (.bc (.m 4 12) (.s 2) 2) 0)<|pI 0,.lt 14 [(12,xk),(13,xw)]<|pj (.ac (.bc (.m 4 13) (.s 2) 2) 0)<|pI 0],[([(11,xk)],pg (.m 5 1)<|.m 4 4),([(12,xk),(13,xw),(14,xk)],pe (.cb .rem (.s 3)<|pI 2)<|pI 0),([(12,xk),(13,xw)],.ite (.s 14) (pe (.cb .rem (.s 3)<|pI 2)<|pI 0) pF),([(12,xk)],.ite (.s 13) pT<|.ite (.s 14) (pe (.cb .rem (.s 3)<|pI 2)<|pI 0) pF)],[pV 9<|.ite (.s 12) (.ite (.s 13) pT<|.ite (.s 14) (pe (.cb .rem (.s 3)<|pI 2)<|pI 0) pF) pF]⟩]<|pw (.s 9)<|pQ [pC [pK 15 37 [.mm 4 0 14,.bp (.bc (.m 4 13) (.s 2) 2) 0 2]] [pV 6<|.s 15]] .ret,pC [pK 16 37 [.mm 4 0 14,.bp (.bc (.m 4 12) (.s 2) 2) 0 2]] [pV 6<|.s 16]] .ret,[(6,.v)]⟩
def Id:ZS Tryz.prog fresh sig [.fz,.fz,.fz,.fz] [] Tryz.f48=J To:=Z2
structure Nd where
 Z:List Int
 data:List Int
 deriving DecidableEq,Inhabited
structure Gr where
 nodes:List Nd
 E:List Int
 deriving DecidableEq,Inhabited
def YV(n:Nd):V:=.agg [.sl<|n.Z.map vi,.sl<|n.data.map vu]
def UQ(g:Gr):V:=.agg [.sl<|g.nodes.map YV,.sl<|g.E.map vi]
@[simp]theorem Z3Q(n:Nd):(YV n).cells=[.sl<|n.Z.map vi,.sl<|n.data.map vu]:=rfl
@[simp]theorem Z4y(l:List Nd):Xy 2 (l.map YV)=xk:=JT λ_=>rfl
@[simp]theorem Z3i(n:Nd):Ug (YV n) 0 2=J (YV n):=rfl
@[simp]theorem Z2W(n:Nd):Ya (YV n) 0=J (.sl<|n.Z.map vi):=rfl
@[simp]theorem Z2X(n:Nd):Ya (YV n) 1=J (.sl<|n.data.map vu):=rfl
@[simp]theorem Z4M(n:Nd):Vu (YV n) 2=J (YV n):=rfl
@[simp]theorem Z3h(g:Gr):Ug (UQ g) 0 2=J (UQ g):=rfl
@[simp]theorem Z2C(g:Gr):Ya (UQ g) 0=J (.sl<|g.nodes.map YV):=rfl
@[simp]theorem Z2D(g:Gr):Ya (UQ g) 1=J (.sl<|g.E.map vi):=rfl
@[simp]theorem Z4J(g:Gr):Vu (UQ g) 2=J (UQ g):=rfl
@[simp]theorem Z3p(g:Gr):(UQ g).cells=[.sl<|g.nodes.map YV,.sl<|g.E.map vi]:=rfl
@[simp]theorem Z4D{k:IntKind}{l:List V}(j n:Nat):Rf n (.sl l) (.int k 0) (.int k (j:Int))=if j<=I l/\Xy n l=xk then J (.sl<|l.take j)else U:=by
 have:=Z0v (k:=k) (l:=l) 0 j n;simpa using this
def rp(n:Nat)(p:Int):Int:=pick p (n+1) -1
def Uo(n:Nat)(x:Nd):Nd:=⟨(x.Z.take 4).map<|rp n,x.data.take 4⟩
def V5(l:List Nd):Nat:=min (I l) 10
def Y2(l:List Nd)(a:Z5):Gr:=⟨(l.take<|V5 l).map<|Uo<|V5 l,if a.take 5=[]then [(V5 l:Int) -1]else(a.take 5).map (rp<|V5 l)⟩
def Gq{l:List Nd}{a:Z5}(hl:∀x∈l,∀p∈x.Z,ZP p)(hr:∀p∈a,ZP p):VC Tryz.prog 33 xw [.sl<|l.map YV,.sl<|a.map vi]<|UQ<|Y2 l a:=by
 refine ZY Tryz.func33 follows Z2 I3 rfl ?_;have S:V5 l<=10:=by grind [V5]
 have a1:V5 l<=I l:=by grind [V5]
 have z:(if(10:Int)< (I l:Int)then(10:Int)else(I l:Int))=(V5 l:Int):=by
  unfold V5;split<;>omega
 simp[DA,z];generalize hn:V5 l=n at*;have C:=ZA ((n:Int)+1) Z0 Z0;refine Ag (λt=>∃i:Nat,i<=n/\t=[.v<|.sl<|l.map YV,.v<|.sl<|a.map vi,.m [.sl [],.sl []],.v<|vi n,.m [.sl<|((l.take i).map<|Uo n).map YV,.sl []],.v<|vi i]) (λt=>match ZJ t 5 with|.v (.int _ i)=>n-i.toNat|_=>0) ?_ ?_;exact⟨0,Z1,Z1⟩
 .rintro t ⟨i,hi,rfl⟩;have hw:=ZA ((i:Int)+1) Z0 Z0;by_cases h:i<n
  .have r:i<I l:=Z0;have P:l[i]?=J l[i]:=Z6b r;simp[h];generalize A:l[i]=x at P;have Q:∀p∈x.Z,ZP p:=hl x<|Z6n P;have F:(if(4:Int)< (I x.data:Int)then(4:Int)else(I x.data:Int))=((min (I x.data) 4:Nat):Int):=by split<;>omega
   refine Ag (λt=>∃k:Nat,k<=I x.Z/\k<=4/\t=[.v<|.sl<|l.map YV,.v<|.sl<|a.map vi,.m [.sl [],.sl []],.v<|vi n,.m [.sl<|((l.take i).map<|Uo n).map YV,.sl []],.v<|vi i,.v<|.bool xk,.m [.sl<|((x.Z.take k).map<|rp n).map vi,.sl []],.v<|vi k]) (λt=>match ZJ t 8 with|.v (.int _ i)=>4-i.toNat|_=>0) ?_ ?_;exact⟨0,Z1,Z1,Z1⟩
   .rintro t ⟨k,G,Z,rfl⟩;have w:=ZA ((k:Int)+1) Z0 Z0;by_cases W:k<I x.Z/\k<4;obtain⟨f,Y⟩:=W;have M:x.Z[k]?=J x.Z[k]:=Z6b f;have g:(k:Int)<4:=Z0;simp[r,A,f,g,C];refine Zz (S8 (Q _<|Z6E f) Z0) Z1 ?_;have N:=Wl (c:=x.Z[k]) (n:=(n:Int)+1) Z0;have y:=ZA (pick x.Z[k] ((n:Int)+1) -1) Z0 Z0;simp[w,y];refine⟨by grind [Ye],⟨k+1,Z0,Z0,?_,Z1⟩,Z0⟩;rw[Z7k,Z6G,M];rfl
    .have d:(x.Z.take k)=x.Z.take 4:=by
      by_cases f:k<I x.Z;grind;grind
     have o:(l.take<|i+1).map (YV∘Uo n)=(l.take i).map (YV∘Uo n)++[V.agg [.sl<|(x.Z.take k).map<|vi∘rp n,.sl<|(x.data.take<|min (I x.data) 4).map vu]]:=by
      rw[Z7k,P,Z7I,d];have L:x.data.take (min (I x.data) 4)=x.data.take 4:=by
       by_cases hd:I x.data<=4;grind;grind
      rw[L];simp[YV,Uo]
     have B:Xy 1 ((x.data.take<|min (I x.data) 4).map vu)=xk:=Qi _;have u:min (I x.data) 4<=Ye:=by grind [Ye]
     have H:min i (I l)+1<=Ye:=by grind [Ye]
     have K:min (I x.data) 4<=I x.data:=Z0;simp only[List.map_take]at o B;have g:k<I x.Z->¬(k:Int)<4:=Z0;by_cases f:k<I x.Z
     all_goals (
      simp[r,A,f,g,F,u,H,B,hw,K];exact⟨⟨i+1,Z0,o.symm,Z1⟩,Z0⟩)
  .have:i=n:=Z0;subst this;simp;have D:=ZA ((i:Int) -1) Z0 Z0;refine Ag (λt=>∃k:Nat,k<=I a/\k<=5/\t=[.v<|.sl<|l.map YV,.v<|.sl<|a.map vi,.m [.sl [],.sl []],.v<|vi i,.m [.sl<|(l.take i).map<|YV∘Uo i,.sl<|(a.take k).map<|vi∘rp i],.v<|vi i,.v<|.bool xw,.no,.no,.no,.v<|vi k]) (λt=>match ZJ t 10 with|.v (.int _ i)=>5-i.toNat|_=>0) ?_ ?_;exact⟨0,Z1,Z1,Z1⟩
   .rintro t ⟨k,G,a0,rfl⟩;have w:=ZA ((k:Int)+1) Z0 Z0;by_cases X:k<I a/\k<5;obtain⟨f,Y⟩:=X;have M:a[k]?=J a[k]:=Z6b f;have g:(k:Int)<5:=Z0;simp[f,g,C];refine Zz (S8 (hr _<|Z6E f) Z0) Z1 ?_;have N:=Wl (c:=a[k]) (n:=(i:Int)+1) Z0;have y:=ZA (pick a[k] ((i:Int)+1) -1) Z0 Z0;simp[w,y];refine⟨by grind [Ye],⟨k+1,Z0,Z0,?_,Z1⟩,Z0⟩;rw[Z7k,Z6G,M];rfl
    .have d:(a.take k)=a.take 5:=by
      by_cases f:k<I a;grind;grind
     have g:k<I a->¬(k:Int)<5:=Z0;have R:Y2 l a=⟨(l.take i).map<|Uo i,if a.take 5=[]then [(i:Int) -1]else(a.take 5).map (rp i)⟩:=by
      unfold Y2;rw[hn]
     have q:I (a.take k)=k:=by rw[Z7O];omega
     by_cases T:k=0;subst T;have j:a.take 5=[]:=by rw[<-d];rfl
     rw[R,Z6k j];have f:¬0<I a:=Z0;have u:1<=Ye:=by simp[Ye]
     simp[f,UQ,D,u]
     .have j:a.take 5≠[]:=by
       rw[<-d];intro h;rw[h]at q;simp at q;omega
      rw[R,Z6h j,<-d];have O:¬a=[]:=by intro h;rw[h]at G;simp at G;omega
      by_cases f:k<I a;all_goals simp[f,g,UQ,T,O]
def EU{n:Nat}{p:Int}: -1<=rp n p/\rp n p<n:=by
 have:=Wl (c:=p) (n:=(n:Int)+1) Z0;grind [rp]
def J8(l:List Nd)(a:Z5):(Y2 l a).nodes.length=V5 l:=by
 simp[Y2,V5]
def L3(l:List Nd)(a:Z5):V5 l<=10/\(Y2 l a).E.length<=5/\∀x∈(Y2 l a).nodes,I x.Z<=4/\I x.data<=4:=by
 refine⟨by grind [V5],?_,λx d=> ?_⟩;grind [Y2];simp only[Y2,Z6F]at d;obtain⟨y,_,rfl⟩:=d;grind [Uo,List.length_map,List.length_take]
def p5:Fn:=⟨5,[0,1,2,3,10],pQ [pR [(1,pS 0 7),(2,pZ)],pC [pK 5 14 [.mm 1 0 7,pT]] [(3,pS 5 14)],pi 4 (pe (.len<|.m 3 5)<|pI 0)<|pQ [pC [pK 6 15 [.mm 1 0 7]] [(2,pS 6 10)]] .ret,pC [pK 7 16 [.mm 3 0 14,.mm 1 0 7]] [(2,pS 7 10)]] .ret,[(2,(.ag 10))]⟩
def c5:ZS Tryz.prog fresh sig [.fz] [] Tryz.f5=J p5:=Z2
def Ds:Fn:=⟨19,[0,1,2,4,5,6,7,8,26,9,10,11,12,13,57,81,14,82,165],pQ [pR [(2,pS 0 7),(3,.m [pU 0,pI 0,pI 0,pF,pI 0,pN,pN,pN,pN,pN,pN,pN,pN,pN])],.be ⟨[pK 19 33 [.m 2 0,.m 2 1]],[([],.ag [pU 0,pI 0,pI 0,pF,pI 0,pN,pN,pN,pN,pN,.ac (.sz (.s 19) 2) 0,.ac (.sz (.s 19) 2) 1,pN,pN])],[(4,.m [pU 0,pI 0,pI 0,pF,pI 0,pN,pN,pN,pN,pN,.ac (.sz (.s 19) 2) 0,.ac (.sz (.s 19) 2) 1,pN,pN])]⟩,pR [(5,.m [pI 0,pI 0,pI 0,pI 0,pI 0])],pR [pV 6<|pI 0],pQ [pR [pV 7<|pI 0]]<|.block 0<|.loop [0,1,2,3,4,5,6,7]<|pQ [pu 8 (pl (.s 7)<|.len<|.m 4 10) .skip<|.exit 0,.block 1<|pQ [pC [pK 20 34 [.mm 2 0 7,.s 7,.s 1]] [pV 9<|.ext (.s 20) 0,pV 10<|.ext (.s 20) 1],pR [pV 11<|pa (pa (pI 1)<|.len<|.ac (.bc (.m 4 10) (.s 7) 2) 0)<|.len<|.ac (.bc (.m 4 10) (.s 7) 2) 1],pR [(12,pM (.ag [pI 0,pI 0]) 2)],pR [(13,pM (.ag [pI 0,pI 0]) 2)],pu 14 (pl (.s 9)<|pI 2) (pQ [.be ⟨[],[([],.ai (.c<|.agg [(.bool xk),(.bool xk),(.bool xk),(.bool xk),(.bool xk)]) (pb (pI 2)<|.s 9) 5 1 xw)],[(12,pM (.ag [pb (pI 2)<|.s 9,.aj<|.ai (.mm 5 0 5) (pb (pI 2)<|.s 9) 5 1 xw]) 2)]⟩]<|.be ⟨[],[([],.ai (.c<|.agg [(.bool xk),(.bool xk),(.bool xk),(.bool xk),(.bool xk)]) (pb (pI 2)<|.s 9) 5 1 xw)],[(5,pM (.dk (.mm 5 0 5) (pb (pI 2)<|.s 9) 5 1<|pa (.ai (.mm 5 0 5) (pb (pI 2)<|.s 9) 5 1 xw)<|.s 11) 5)]⟩)<|pR [pV 6<|pa (.s 6)<|.s 11],pQ [pC [.lt 21 []<|pj (.s 9)<|pI 0] [pV 15<|.ite (.s 21) (.s 1) pF]]<|pw (.s 15)<|pQ [pR [pV 16<|pI 3],pi 17 (.s 10)<|pR [pV 16<|pI 4],.be ⟨[],[([],.ai (.c<|.agg [(.bool xk),(.bool xk),(.bool xk),(.bool xk),(.bool xk)]) (.s 16) 5 1 xw)],[(13,pM (.ag [.aj<|.s 16,.aj<|.ai (.mm 5 0 5) (.s 16) 5 1 xw]) 2)]⟩]<|.be ⟨[],[([],.ai (.c<|.agg [(.bool xk),(.bool xk),(.bool xk),(.bool xk),(.bool xk)]) (.s 16) 5 1 xw)],[(5,pM (.dk (.mm 5 0 5) (.s 16) 5 1<|pa (.ai (.mm 5 0 5) (.s 16) 5 1 xw)<|.s 11) 5)]⟩,pR [(4,.m [.m 4 0,.m 4 1,.m 4 2,.m 4 3,.m 4 4,.m 4 5,.m 4 6,.m 4 7,.m 4 8,.m 4 9,.m 4 10,.m 4 11,.ct (.m 4 12) (.lit [.mm 12 0 2]) 2,.m 4 13])]]<|pR [(4,.m [.m 4 0,.m 4 1,.m 4 2,.m 4 3,.m 4 4,.m 4 5,.m 4 6,.m 4 7,.m 4 8,.m 4 9,.m 4 10,.m 4 11,.m 4 12,.ct (.m 4 13) (.lit [.mm 13 0 2]) 2])]]<|pc 7,.be ⟨[pK 22 35 [.m 2 6,pI 2]],[([],.ai (.c<|.agg [(.bool xk),(.bool xk),(.bool xk),(.bool xk),(.bool xk)]) (pI 1) 5 1 xw),([],.ai (.c<|.agg [(.bool xk),(.bool xk),(.bool xk),(.bool xk),(.bool xk)]) (pI 2) 5 1 xw),([],.ai (.c<|.agg [(.bool xk),(.bool xk),(.bool xk),(.bool xk),(.bool xk)]) (pI 3) 5 1 xw),([],.ai (.c<|.agg [(.bool xk),(.bool xk),(.bool xk),(.bool xk),(.bool xk)]) (pI 4) 5 1 xw),([],.ag [pU 0,pI 0,.aj<|.s 22,.aj<|.s 1,pI 0,.mk (.int .u64 0)<|.ai (.mm 5 0 5) (pI 1) 5 1 xw,.mk (.int .u64 0)<|.ai (.mm 5 0 5) (pI 2) 5 1 xw,.mk (.int .u64 0)<|.ai (.mm 5 0 5) (pI 3) 5 1 xw,.mk (.int .u64 0)<|.ai (.mm 5 0 5) (pI 4) 5 1 xw,pN])],[(4,.m [pU 0,pI 0,.aj<|.s 22,.aj<|.s 1,pI 0,.mk (.int .u64 0)<|.ai (.mm 5 0 5) (pI 1) 5 1 xw,.mk (.int .u64 0)<|.ai (.mm 5 0 5) (pI 2) 5 1 xw,.mk (.int .u64 0)<|.ai (.mm 5 0 5) (pI 3) 5 1 xw,.mk (.int .u64 0)<|.ai (.mm 5 0 5) (pI 4) 5 1 xw,pN,.m 4 10,.m 4 11,.m 4 12,.m 4 13])]⟩,.be ⟨[pK 23 35 [.m 2 4,pI 12]],[([],.ai (.c<|.agg [(.bool xk),(.bool xk),(.bool xk),(.bool xk),(.bool xk)]) (pI 1) 5 1 xw),([],.ai (.c<|.agg [(.bool xk),(.bool xk),(.bool xk),(.bool xk),(.bool xk)]) (pI 2) 5 1 xw),([],.ai (.c<|.agg [(.bool xk),(.bool xk),(.bool xk),(.bool xk),(.bool xk)]) (pI 3) 5 1 xw),([],.ai (.c<|.agg [(.bool xk),(.bool xk),(.bool xk),(.bool xk),(.bool xk)]) (pI 4) 5 1 xw)],[(4,.m [.m 4 0,pa (.mx (pa (pa (.ai (.mm 5 0 5) (pI 1) 5 1 xw)<|.ai (.mm 5 0 5) (pI 2) 5 1 xw)<|.s 6)<|pa (.ai (.mm 5 0 5) (pI 3) 5 1 xw)<|.ai (.mm 5 0 5) (pI 4) 5 1 xw)<|.s 23,.m 4 2,.m 4 3,.m 4 4,.m 4 5,.m 4 6,.m 4 7,.m 4 8,.m 4 9,.m 4 10,.m 4 11,.m 4 12,.m 4 13])]⟩,pR [(4,.m [pa (pU 1)<|.cb .rem (.m 2 3)<|pb (pU 9223372036854775808)<|pm (pU 2)<|.bo .u64<|.m 4 1,.m 4 1,.m 4 2,.m 4 3,.m 4 4,.m 4 5,.m 4 6,.m 4 7,.m 4 8,.m 4 9,.m 4 10,.m 4 11,.m 4 12,.m 4 13])],.be ⟨[],[([],.ai (.c<|.agg [(.bool xk),(.bool xk),(.bool xk),(.bool xk),(.bool xk)]) (pI 1) 5 1 xw)],[(4,.m [.m 4 0,.m 4 1,.m 4 2,.m 4 3,.aj<|.ai (.mm 5 0 5) (pI 1) 5 1 xw,.m 4 5,.m 4 6,.m 4 7,.m 4 8,.m 4 9,.m 4 10,.m 4 11,.m 4 12,.m 4 13])]⟩,pQ [.be ⟨[.lt 24 []<|.s 1],[([(24,xk)],.ai (.c<|.agg [(.bool xk),(.bool xk),(.bool xk),(.bool xk),(.bool xk)]) (pI 1) 5 1 xw),([(24,xk)],pj (.ai (.mm 5 0 5) (pI 1) 5 1 xw)<|pI 0)],[pV 18<|.ite (.s 24) (pj (.ai (.mm 5 0 5) (pI 1) 5 1 xw)<|pI 0) pF]⟩]<|pw (.s 18)<|.be ⟨[pK 25 35 [.m 2 5,.ai (.mm 5 0 5) (pI 1) 5 1 xw]],[([],.ai (.c<|.agg [(.bool xk),(.bool xk),(.bool xk),(.bool xk),(.bool xk)]) (pI 1) 5 1 xw)],[(4,.m [.m 4 0,.m 4 1,.m 4 2,.m 4 3,.aj<|.s 25,.m 4 5,.m 4 6,.m 4 7,.m 4 8,.m 4 9,.m 4 10,.m 4 11,.m 4 12,.m 4 13])]⟩]<|px [(3,pM (.mm 4 0 14) 14)],[(3,(.ag 14))]⟩
def Hs:ZS Tryz.prog fresh sig [.fz,.fz] [] Tryz.f14=J Ds:=Z2
def Lo:Fn:=⟨3,[0,1,2],pQ [pR [(1,pS 0 7),(2,pZ)],pC [pK 3 14 [.mm 1 0 7,pF],pK 4 16 [.s 3,.mm 1 0 7]] [(2,pS 4 10)]] .ret,[(2,(.ag 10))]⟩
def TO:ZS Tryz.prog fresh sig [.fz] [] Tryz.f15=J Lo:=Z2
def Dt:Fn:=⟨17,[0,1,2,3,4,5,16,6,31,59,83,7,8,9,125,10,134],pQ [pR [(2,pS 0 14),(3,pS 1 7),(4,pZ)],pQ [pR [pV 5<|pI 0]]<|.block 0<|.loop [0,1,2,3,4,5]<|pQ [pu 6 (pl (.s 5)<|.len<|.m 2 10) .skip<|.exit 0,.block 1<|pQ [pR [(7,pM (.bp (.bc (.m 2 10) (.s 5) 2) 0 2) 2)],pi 8 (pj (.ac (.bc (.m 2 12) (.s 5) 2) 0)<|pI 0)<|pC [pK 17 36 [.mm 2 0 14,.bp (.bc (.m 2 12) (.s 5) 2) 0 2,.mm 7 0 2,pa (.m 3 4)<|.s 5]] [(2,pS 17 14)],pQ [.be ⟨[.lt 18 []<|pj (.ac (.bc (.m 2 13) (.s 5) 2) 0)<|pI 0],[([(18,xk)],pe (.ac (.bc (.m 2 12) (.s 5) 2) 0)<|pI 0)],[pV 9<|.ite (.s 18) (pe (.ac (.bc (.m 2 12) (.s 5) 2) 0)<|pI 0) pF]⟩]<|pw (.s 9)<|pC [pK 19 36 [.mm 2 0 14,.bp (.bc (.m 2 13) (.s 5) 2) 0 2,.mm 7 0 2,pI 0]] [(2,pS 19 14)],.be ⟨[.lt 20 []<|pj (.ac (.bc (.m 2 13) (.s 5) 2) 0)<|pI 0],[([(20,xk)],pj (.ac (.bc (.m 2 12) (.s 5) 2) 0)<|pI 0)],[pV 10<|.ite (.s 20) (pj (.ac (.bc (.m 2 12) (.s 5) 2) 0)<|pI 0) pF]⟩]<|pw (.s 10)<|pQ [pC [pK 21 24 [.mm 2 0 10,.ac (.bc (.m 2 13) (.s 5) 2) 0]] [pV 11<|.ct pN (.s 21) 1],.be ⟨[pK 22 37 [.mm 2 0 14,.bp (.bc (.m 2 12) (.s 5) 2) 0 2]],[([],.bc (.s 11) (.ac (.bc (.m 2 13) (.s 5) 2) 1) 1)],[pV 11<|.gl (.s 11) (.ac (.bc (.m 2 13) (.s 5) 2) 1) 0<|.aj<|.s 22]⟩]<|pC [pK 23 38 [.mm 2 0 10,.ac (.bc (.m 2 13) (.s 5) 2) 0,.s 11]] [(2,.m [.ac (.sz (.s 23) 10) 0,.ac (.sz (.s 23) 10) 1,.ac (.sz (.s 23) 10) 2,.ac (.sz (.s 23) 10) 3,.ac (.sz (.s 23) 10) 4,.ac (.sz (.s 23) 10) 5,.ac (.sz (.s 23) 10) 6,.ac (.sz (.s 23) 10) 7,.ac (.sz (.s 23) 10) 8,.ac (.sz (.s 23) 10) 9,.m 2 10,.m 2 11,.m 2 12,.m 2 13])]]<|pc 5,pR [pV 12 pN],pQ [pR [pV 13<|pI 0]]<|.block 2<|.loop [0,1,2,3,4,5,6,12,13]<|pQ [pu 14 (pl (.s 13)<|.len<|.m 2 11) .skip<|.exit 2,.block 3<|pQ [pR [pV 15<|pU 0],pi 16 (pg (.ac (.bc (.m 2 11) (.s 13) 1) 0)<|pI 0)<|pC [pK 24 37 [.mm 2 0 14,.bp (.bc (.m 2 12) (.ac (.bc (.m 2 11) (.s 13) 1) 0) 2) 0 2]] [pV 15<|.s 24]]<|pR [pV 12<|.ct (.s 12) (.lit [.aj<|.s 15]) 1]]<|pc 13,pR [(2,.m [.m 2 0,.m 2 1,.m 2 2,.m 2 3,.m 2 4,.m 2 5,.m 2 6,.m 2 7,.m 2 8,.aj<|.s 12,.m 2 10,.m 2 11,.m 2 12,.m 2 13])]]<|px [(4,pM (.mm 2 0 10) 10)],[(4,(.ag 10))]⟩
def Ht:ZS Tryz.prog fresh sig [.fz,.fz] [] Tryz.f16=J Dt:=Z2
end Vm
end
section
namespace Vm
open Go Go.Proofs
structure Pl where
 part:Int
 Y:Int
 deriving DecidableEq,Inhabited
def XP(p:Pl):V:=.agg [vi p.part,vi p.Y]
@[simp]theorem Z4o p:(XP p).cells=[vi p.part,vi p.Y]:=rfl
@[simp]theorem Z3l p:Ug (XP p) 0 2=J (XP p):=rfl
@[simp]theorem Z33 p:Ya (XP p) 0=J (vi p.part):=rfl
@[simp]theorem Z34 p:Ya (XP p) 1=J (vi p.Y):=rfl
@[simp]theorem Z4O p:Vu (XP p) 2=J (XP p):=rfl
@[simp]theorem Z4B(l:List Pl):Xy 2 (l.map XP)=xk:=JT λ_=>rfl
structure Rw where
 nodes:List Nd
 E:List Int
 di:List Int
 V:Int
 ba:Int
 O:Int
 to:Int
 deriving Inhabited
def Wn(x:Rw):V:=.agg [.sl<|x.nodes.map YV,.sl<|x.E.map vi,.sl<|x.di.map vi,vu x.V,vi x.ba,vi x.O,vi x.to]
@[simp]theorem Z4P x:Vu (Wn x) 7=J (Wn x):=rfl
@[simp]theorem Z4v x:(Wn x).cells=[.sl<|x.nodes.map YV,.sl<|x.E.map vi,.sl<|x.di.map vi,vu x.V,vi x.ba,vi x.O,vi x.to]:=rfl
@[simp]theorem Z35 x:Ya (Wn x) 0=J (.sl<|x.nodes.map YV):=rfl
@[simp]theorem Z36 x:Ya (Wn x) 1=J (.sl<|x.E.map vi):=rfl
@[simp]theorem Z37 x:Ya (Wn x) 2=J (.sl<|x.di.map vi):=rfl
@[simp]theorem Z38 x:Ya (Wn x) 3=J (vu x.V):=rfl
@[simp]theorem Z39 x:Ya (Wn x) 4=J (vi x.ba):=rfl
@[simp]theorem Z3a x:Ya (Wn x) 5=J (vi x.O):=rfl
@[simp]theorem Z3b x:Ya (Wn x) 6=J (vi x.to):=rfl
structure Rw.ok (x:Rw):Prop where
 Z:∀n∈x.nodes,∀p∈n.Z,ZP p
 data:∀n∈x.nodes,∀p∈n.data,Zy p
 E:∀p∈x.E,ZP p
 di:∀p∈x.di,ZP p
 V:Zy x.V
 ba:ZP x.ba
 O:ZP x.O
 to:ZP x.to
def Vs(x:Rw)(i:Nat):Int:=if I x.di=0 then i else(x.di[i%I x.di]?).getD 0
def WD(x:Rw)(i:Nat)(cycle:Bool):Int:=if pick (Vs x i) 3=2/\cycle=xw then 1 else pick (Vs x i) 3
def Wf(x:Rw)(i:Nat):Bool:=decide (pick ((Vs x i).tdiv 3) 2=1)
def TQ x i cycle:WD x i cycle=0\/WD x i cycle=1\/(WD x i cycle=2/\cycle=xk):=by
 have:=Wl (c:=Vs x i) (n:=3) Z0;unfold WD;grind
def IQ{x:Rw}(hx:x.ok){i:Nat}(D:i<=1000){cycle:Bool}:VC Tryz.prog 34 xw [Wn x,vi i,.bool cycle]<|.am [vi<|WD x i cycle,.bool<|Wf x i]:=by
 refine ZY Tryz.func34 follows Z2 I4 rfl ?_;have t:ZP<|Vs x i:=by
  unfold Vs;split;exact⟨Z0,Z0⟩;rename_i h;have:i%I x.di<I x.di:=Z9k _ Z0;rw[Z6b this];exact hx.di _<|Z6E this
 have g:=Jv (c:=Vs x i) (n:=3) t Z0;have p:ZP<|(Vs x i).tdiv 3:=by
  obtain⟨C,f⟩:=t;unfold ZP;rw[Int.tdiv_eq_ediv];have:Int.sign 3=1:=rfl;split<;>omega
 have d:=ZA _ p.1 p.2;have a:=Jv (c:=(Vs x i).tdiv 3) (n:=2) p Z0;have u:∀(b:Bool),(decide (pick ((Vs x i).tdiv 3) 2=1)=b)->Wf x i=b:=λb h=>h;by_cases q:I x.di=0;have k:Vs x i=i:=by simp[Vs,q]
 rw[k]at g a d;rw[Z95 Z0]at a d;simp[qD,q];refine Zz g Z1 ?_;by_cases f:pick (i:Int) 3=2;cases cycle;simp[f,d];refine Zz a Z1 ?_;simp[WD,Wf,k,f];simp[f,d];refine Zz a Z1 ?_;simp[WD,Wf,k,f];simp[f,d];refine Zz a Z1 ?_;simp[WD,Wf,k,f];have l:i%I x.di<I x.di:=Z9k _ Z0;have y:x.di[i%I x.di]?=J x.di[i%I x.di]:=Z6b l;have k:Vs x i=x.di[i%I x.di]:=by simp[Vs,q,y]
 have A:(i:Int).tmod (I x.di:Int)=((i%I x.di:Nat):Int):=by
  rw[Z72 Z0];rfl
 rw[k]at g a d;have w:0<I x.di:=Z0;have r:x.di≠[]:=λe=>Z5i;have B:((i:Int) % (I x.di:Int))=((i%I x.di:Nat):Int):=rfl;generalize o:x.di[i%I x.di]=c at*;generalize z:i%I x.di=j at*;simp[qD,w,r,A,l,o];refine Zz g Z1 ?_;by_cases f:pick c 3=2;cases cycle;simp[f,d];refine Zz a Z1 ?_;simp[WD,Wf,k,f];simp[f,d];refine Zz a Z1 ?_;simp[WD,Wf,k,f];simp[f,d];refine Zz a Z1 ?_;simp[WD,Wf,k,f]
def ZN(n:Nd):Nat:=1+I n.Z+I n.data
structure St8 where
 n1:Nat
 n2:Nat
 n3:Nat
 n4:Nat
 wt:Nat
 ap:List Pl
 ad:List Pl
def YX(x:Rw)(cycle:Bool)(sz:Nat)(i:Nat)(s:St8):St8:=
 let k:=WD x i cycle;let a:=Wf x i;let o:Bool:=decide (0<k)&&cycle
 {n1:=if k=1 then s.n1+sz else s.n1
  n2:=if k=0 then s.n2+sz else s.n2
  n3:=if o&& !a then s.n3+sz else s.n3
  n4:=if o&&a then s.n4+sz else s.n4
  wt:=if k=2 then s.wt+sz else s.wt
  ap:=s.ap++[if k=0 then⟨2,s.n2⟩else if k=1 then⟨1,s.n1⟩else⟨0,0⟩]
  ad:=s.ad++[if o then(if a then⟨4,s.n4⟩else⟨3,s.n3⟩)else⟨0,0⟩]}
def Y5(x:Rw)(cycle:Bool)(g:Gr):Nat->St8
 |0=>⟨0,0,0,0,0,[],[]⟩
 |i+1=>YX x cycle (ZN<|(g.nodes[i]?).getD default) i<|Y5 x cycle g i
def Z0G{x cycle sz i}(h:sz<=9)s(d:s.n1+s.n2+s.wt<=9*i)(h2:s.n3+s.n4<=9*i)(f:I s.ap=i)(g:I s.ad=i):
  (YX x cycle sz i s).n1+(YX x cycle sz i s).n2+(YX x cycle sz i s).wt<=9*(i+1)/\(YX x cycle sz i s).n3+(YX x cycle sz i s).n4<=9*(i+1)/\(YX x cycle sz i s).ap.length=i+1/\(YX x cycle sz i s).ad.length=i+1:=by
 obtain a|a|⟨a,rfl⟩:=TQ x i cycle;grind [YX];grind [Wf,YX];grind [Wf,YX]
def Ql{x cycle g}(a:∀n∈g.nodes,ZN n<=9):∀i,i<=I g.nodes->(Y5 x cycle g i).n1+(Y5 x cycle g i).n2+(Y5 x cycle g i).wt<=9*i/\(Y5 x cycle g i).n3+(Y5 x cycle g i).n4<=9*i/\(Y5 x cycle g i).ap.length=i/\(Y5 x cycle g i).ad.length=i
 |0,_=>by simp[Y5]
 |i+1,k=>by
  let⟨d,f,h,j⟩:=Ql (x:=x) (cycle:=cycle) a i Z0;simp[Y5,Z6b (Z0:i<I g.nodes)];simp_all[Z0G]
structure Bt where
 h:Hp
 g:Gr
 ap:List Pl
 ad:List Pl
def Xq(b:Bt):List V:=[vu b.h.V,vi b.h.cap,vi b.h.to,.bool b.h.M,vi b.h.O,.sl<|b.h.H.map vu,.sl<|b.h.aa.map vu,.sl<|b.h.ad.map vu,.sl<|b.h.ae.map vu,.sl<|b.h.E.map vu,.sl<|b.g.nodes.map YV,.sl<|b.g.E.map vi,.sl<|b.ap.map XP,.sl<|b.ad.map XP]
def X9(b:Bt):V:=.agg [vu b.h.V,vi b.h.cap,vi b.h.to,.bool b.h.M,vi b.h.O,.sl<|b.h.H.map vu,.sl<|b.h.aa.map vu,.sl<|b.h.ad.map vu,.sl<|b.h.ae.map vu,.sl<|b.h.E.map vu,.sl<|b.g.nodes.map YV,.sl<|b.g.E.map vi,.sl<|b.ap.map XP,.sl<|b.ad.map XP]
def Yh(x:Rw)(cycle:Bool):Bt:=
 let g:=Y2 x.nodes x.E;let s:=Y5 x cycle g<|I g.nodes;let cap:Int:=max ((s.n1:Int)+s.n2+s.wt) ((s.n3:Int)+s.n4)+pick x.ba 12
 ⟨⟨1+x.V% (9223372036854775808-2*cap),cap,pick x.to 2,cycle,if cycle=xk/\0<s.n1 then pick x.O s.n1 else s.n1,List.replicate s.n1 0,List.replicate s.n2 0,List.replicate s.n3 0,List.replicate s.n4 0,[]⟩,g,s.ap,s.ad⟩
def Fr{x:Rw}(hx:x.ok){cycle:Bool}:VC Tryz.prog 14 xw [Wn x,.bool cycle]<|X9<|Yh x cycle:=by
 refine ZY Tryz.func14 follows Z2 Hs rfl ?_;simp[Ds];refine Zz (Gq hx.Z hx.E) Z1 ?_;obtain⟨O,P,D⟩:=L3 x.nodes x.E;have Q:=J8 x.nodes x.E;unfold Yh;generalize Y2 x.nodes x.E=g at*;have p:∀n∈g.nodes,ZN n<=9:=λn d=>by have:=D n d;unfold ZN;omega
 simp
 refine U6 7 (I g.nodes) (λi=>[(4,.m [.int .u64 0,.int .i64 0,.int .i64 0,.bool xw,.int .i64 0,.sl [],.sl [],.sl [],.sl [],.sl [],.sl<|g.nodes.map YV,.sl<|g.E.map vi,.sl<|(Y5 x cycle g i).ap.map XP,.sl<|(Y5 x cycle g i).ad.map XP]),
  (5,.m [vi 0,vi (Y5 x cycle g i).n1,vi (Y5 x cycle g i).n2,vi (Y5 x cycle g i).n3,vi (Y5 x cycle g i).n4]),(6,.v<|vi (Y5 x cycle g i).wt),(7,.v<|vi i)]) (λ_=>True) (by simp[Y5]) (λi=>Z1) trivial ?_
 rintro i T-;have q:=ZA ((i:Int)+1) Z0 Z0;obtain⟨s1,s2,s3,s4⟩:=Ql (x:=x) (cycle:=cycle) p i T;by_cases h:i<I g.nodes;have d:g.nodes[i]?=J g.nodes[i]:=Z6b h;have r:=p _<|Z6E h;simp only[Y5,d,Z6K];generalize Y5 x cycle g i=s at*;generalize g.nodes[i]=n at*;have R:=IQ hx (i:=i) Z0 (cycle:=cycle);have F:=TQ x i cycle;have j:=ZA (1+(I n.Z:Int)) (by unfold ZN at r;omega) (by unfold ZN at r;omega);have f:=ZA (1+(I n.Z:Int)+I n.data) (by unfold ZN at r;omega) (by unfold ZN at r;omega);have l:(1+(I n.Z:Int)+I n.data)=(ZN n:Nat):=by unfold ZN;omega
 rw[l]at f;simp[h];refine Zz R Z1 ?_;generalize M:ZN n=sz at*;unfold YX;generalize Wf x i=L at*;generalize WD x i cycle=k at*;have w:=ZA ((s.n1:Int)+sz) Z0 Z0;have y:=ZA ((s.n2:Int)+sz) Z0 Z0;have z:=ZA ((s.n3:Int)+sz) Z0 Z0;have A:=ZA ((s.n4:Int)+sz) Z0 Z0;have B:=ZA ((s.wt:Int)+sz) Z0 Z0;have t:I s.ap+1<=Ye:=Z5N;have u:I s.ad+1<=Ye:=Z5N;obtain rfl|rfl|⟨rfl,rfl⟩:=F;cases cycle<;>simp[d,Yk d,j,l,f,Y4,Ua,setCells,ZA,w,y,z,A,B,t,u,XP,q];cases cycle;simp[d,Yk d,j,l,f,Y4,Ua,setCells,ZA,w,y,z,A,B,t,u,XP,q];cases L<;>simp[d,Yk d,j,l,f,Y4,Ua,setCells,ZA,w,y,z,A,B,t,u,XP,q];cases L<;>simp[d,Yk d,j,l,f,Y4,Ua,setCells,ZA,w,y,z,A,B,t,u,XP,q];have:i=I g.nodes:=Z0;subst this;generalize X:Y5 x cycle g (I g.nodes)=s at*;have K:=Jv (c:=x.to) (n:=2) hx.to Z0;have H:=Jv (c:=x.ba) (n:=12) hx.ba Z0;have Y:=Wl (c:=x.ba) (n:=12) Z0;simp;refine Zz K Z1 ?_;have Z:s.n1<=Ye:=Z5N;have q2:s.n2<=Ye:=Z5N;have q3:s.n3<=Ye:=Z5N;have q4:s.n4<=Ye:=Z5N;simp[Y4,Z,q2,q3,q4];refine Zz H Z1 ?_;have j:=ZA ((s.n1:Int)+s.n2) Z0 Z0;have f:=ZA ((s.n1:Int)+s.n2+s.wt) Z0 Z0;have w3:=ZA ((s.n3:Int)+s.n4) Z0 Z0;have o:(if(s.n1:Int)+s.n2+s.wt< (s.n3:Int)+s.n4 then(s.n3:Int)+s.n4 else(s.n1:Int)+s.n2+s.wt)=max ((s.n1:Int)+s.n2+s.wt) ((s.n3:Int)+s.n4):=by split<;>omega
 obtain⟨cap,a⟩:∃cap:Int,max ((s.n1:Int)+s.n2+s.wt) ((s.n3:Int)+s.n4)+pick x.ba 12=cap:=⟨_,rfl⟩;have S:0<=cap/\cap<=200:=Z0;have w4:=ZA cap Z0 Z0;have w5:=ZO cap Z0 Z0;have w6:=ZO (2*cap) Z0 Z0;have w7:=ZO (9223372036854775808-2*cap) Z0 Z0;obtain⟨N,b2⟩:=hx.V;have w8:x.V.tmod (9223372036854775808-2*cap)=x.V% (9223372036854775808-2*cap):=Z72 N;have h1:=Z8H x.V (Z0:(9223372036854775808-2*cap)≠0);have h2:=Z8q x.V (Z0:0< (9223372036854775808-2*cap));have w9:=ZO (1+x.V% (9223372036854775808-2*cap)) Z0 Z0;have G:¬((9223372036854775808-2*cap)=0):=Z0;simp[Y4,j,f,w3,o,a,w4,w5,w6,w7,w8,w9,G];cases cycle;simp[X9,a];by_cases C:0<s.n1;have W:=Jv (c:=x.O) (n:=(s.n1:Int)) hx.O Z0;simp[C];refine Zz W Z1 ?_;simp[X9,a,C,Y4];simp[X9,a,C]
end Vm
namespace Vm
open Go Go.Proofs
@[simp]theorem Z4I b:Vu (X9 b) 14=J (X9 b):=rfl
@[simp]theorem Z2b b:(X9 b).cells=Xq b:=rfl
@[simp]theorem Z2B b i:Ya (X9 b) i=(Xq b)[i]?.bind YS:=rfl
def E5 s p:0<=(Xg s p).1/\(Xg s p).1<100000000:=by
 grind [Xg,Yq]
def GR l(g:l.ah)p a:0<=(Y1 l p a).1/\(Y1 l p a).1<=9223372036854775807:=by
 unfold Y1;split;simp;rename_i f;have d:ZC l=xk:=Z5y;split;simp;split;simp;have:=XW d p;omega
def PE{a}:0<=(X6 a).1/\(X6 a).1<18446744073709551616:=by
 unfold X6;split;simp;omega
def YC(h:Hp)(p:Pl):Int:=if p.part=0 then 0 else(X6 (Y1 (Zv h) p.part p.Y).1).1
theorem jv h p:Zy<|YC h p:=by
 unfold YC;split;exact⟨Z0,Z0⟩;exact PE
def JI{b:Bt}(f:(Zv b.h).ah){p:Pl}:VC Tryz.prog 37 xw [X9 b,XP p]<|vu<|YC b.h p:=by
 refine ZY Tryz.func37 follows Z2 I7 rfl ?_;by_cases d:p.part=0;simp[qF,Xq,YC,d];have g:=GR (Zv b.h) f p.part p.Y;simp[qF,Xq,d];refine Zz (PT (h:=b.h)) Z67 ?_;simp;refine Zz (PR f (part:=p.part) (at_:=p.Y)) Z1 ?_;simp;refine Zz (PV (a:=(Y1 (Zv b.h) p.part p.Y).1) ⟨g.1,Z0⟩) Z1 ?_;simp[YC,d]
def WV(b:Bt)(p:Pl)(to tw:Int):Int:=
 if to<0 then 0 else if 2<p.part then YC b.h<|(b.ad[to.toNat]?).getD ⟨0,0⟩
 else if p.part=1/\b.h.O<=p.Y/\(((b.ap[to.toNat]?).getD ⟨0,0⟩).part=0\/0< ((b.ad[to.toNat]?).getD ⟨0,0⟩).part/\tw%2=0)then YC b.h ((b.ad[to.toNat]?).getD ⟨0,0⟩)
 else YC b.h<|(b.ap[to.toNat]?).getD ⟨0,0⟩
theorem Z0z b p to tw:Zy<|WV b p to tw:=by
 unfold WV;split;exact⟨Z0,Z0⟩;grind [jv]
def FD(t:Int):t.tmod 2=0↔t%2=0:=by
 grind
def Z0A{b:Bt}(q:(Zv b.h).ah){p:Pl}{to tw:Int}(z:to<I b.ap)(h2:to<I b.ad):VC Tryz.prog 48 xw [X9 b,XP p,vi to,vi tw]<|vu<|WV b p to tw:=by
 refine ZY Tryz.func48 follows Z2 Id rfl ?_;by_cases u:to<0;simp[To,Xq,WV,u];obtain⟨t,rfl⟩:=Z6q (Z0:0<=to);have d:b.ap[t]?=J (b.ap[t]'Z0):=Z6b Z0;have a:b.ad[t]?=J (b.ad[t]'Z0):=Z6b Z0;generalize b.ap[t]'Z0=x at*;generalize b.ad[t]'Z0=y at*;unfold WV;simp only[Z6p,d,a,Z6K,Z6h u];by_cases f:2<p.part;simp[To,Xq,f,a];refine Zz (JI q (p:=y)) (by simp[X9]) ?_;simp;have l:=JI q (p:=x);have w:=JI q (p:=y);by_cases j:p.part=1;by_cases k:b.h.O<=p.Y;by_cases n:x.part=0;simp[To,Xq,f,j,k,n,d,a];refine Zz w (by simp[X9]) ?_;simp;by_cases r:0<y.part;by_cases o:tw%2=0;have g:=(FD tw).2 o;simp[To,Xq,f,j,k,n,r,o,g,d,a];refine Zz w (by simp[X9]) ?_;simp;have g:=mt (FD tw).1 o;simp[To,Xq,f,j,k,n,r,o,g,d,a];refine Zz l (by simp[X9]) ?_;simp;simp[To,Xq,f,j,k,n,r,d,a];refine Zz l (by simp[X9]) ?_;simp;simp[To,Xq,f,j,k,d,a];refine Zz l (by simp[X9]) ?_;simp;simp[To,Xq,f,j,d,a];refine Zz l (by simp[X9]) ?_;simp
@[simp]theorem PM x y:V.put (vu x) 0 [vu y]=vu y:=rfl
def jJ{l pre:List Int}{m}(h:I pre=m)(a:m<I l)z:(pre++l.drop m).set m z=pre++[z]++l.drop (m+1):=by
 subst h;rw[Z9A _ _ Z0,Z80,Z7a a,Z6Y];rfl
def XL(b:Bt)(p:Pl)(a:Nat)(d:List Int)(tw:Int):List Int:=(List.range<|I d).map λi=>WV b ⟨p.part,((a+1+i:Nat):Int)⟩ ((d[i]?).getD 0)<|IntKind.i64.wrap<|tw+i
def Th(b:Bt)(p:Pl)(a:Nat)(n:Nd)(tw:Int):List Int:=
 let l:=Zw b.h p.part
 l.take a++[(Xg ((I n.Z:Int)+I n.data)<|I n.Z).1]++XL b p a n.Z tw++n.data++l.drop (a+ZN n)
def XY(b:Bt)(p:Pl)(n:Nd)(tw:Int):Bt:= {b with h:=Yr b.h p.part (Th b p p.Y.toNat n tw)}
def C6{b:Bt}(hb:(Zv b.h).ah){p:Pl}{n:Nd}{tw:Int}{a:Nat}(ha:p.Y=a)(a5:I (Zw b.h p.part)<=1000000)(d:a+ZN n<=I (Zw b.h p.part))
  (h1:∀q∈n.Z,q<I b.ap/\q<I b.ad):VC Tryz.prog 36 xw [X9 b,XP p,YV n,vi tw]<|X9<|XY b p n tw:=by
 refine ZY Tryz.func36 follows Z2 I6 rfl ?_;have P:I (Zw b.h p.part)<=Ye:=Z5N;have w1:=ZA ((I n.Z:Int)+I n.data) Z5L Z5L;unfold XY;rw[show p.Y.toNat=a by omega];simp[DB,Xq];refine Zz (UG (h:=b.h) (n:=p.part)) Z67 ?_;simp[P,w1];refine Zz (PU (s:=(I n.Z:Int)+I n.data) (p:=I n.Z)) Z1 ?_;have R:a< I (Zw b.h p.part):=Z5L;simp[ha,R];generalize Z:Zw b.h p.part=l at*;generalize Y:(Xg ((I n.Z:Int)+I n.data)<|I n.Z).1=A at*;have D:(l.map vu).set a (vu A)=((l.take a++[A])++l.drop (a+1)).map vu:=by
  rw[<-Z8j];congr 1;have:=jJ (l:=l) (pre:=l.take a) (m:=a) Z5j R A;rw[Z88]at this;exact this
 simp only[PM,D];have H:=ZA ((a:Int)+1) Z0 Z0;have a7:I n.Z<=I l:=Z5L;have S:I (XL b p a n.Z tw)=I n.Z:=by simp[XL]
 refine U6 11 (I n.Z) (λk=>[(8,.v<|.sl<|((l.take a++[A]++(XL b p a n.Z tw).take k)++l.drop (a+1+k)).map vu),(11,.v<|vi k)]) (λ_=>True) Z1 (λi=>Z1) trivial ?_;rintro k hk-;have L:=ZA ((k:Int)+1) Z0 Z0;have a1:=ZA ((a:Int)+1+k) Z0 Z0;by_cases o:k<I n.Z;have N:n.Z[k]?=J n.Z[k]:=Z6b o;obtain⟨q1,q2⟩:=h1 _<|Z6E o;have t:=Z0A hb (p:=⟨p.part,((a+1+k:Nat):Int)⟩) (to:=n.Z[k]) (tw:=IntKind.i64.wrap<|tw+k) q1 q2;have a0:(XL b p a n.Z tw)[k]?=J (WV b ⟨p.part,((a+1+k:Nat):Int)⟩ n.Z[k]<|IntKind.i64.wrap<|tw+k):=by
  simp[XL,o]
 generalize n.Z[k]=q at*;generalize WV b ⟨p.part,((a+1+k:Nat):Int)⟩ q (IntKind.i64.wrap<|tw+k)=z at*;have G:(XL b p a n.Z tw).take (k+1)=(XL b p a n.Z tw).take k++[z]:=by rw[Z7k,a0];rfl
 have r:I (l.take a++[A]++(XL b p a n.Z tw).take k)=a+1+k:=by simp[S];omega
 have Q:a+1+k<I l:=Z5L;have F:=jJ (l:=l) r Q z;generalize C:l.take a++[A]++(XL b p a n.Z tw).take k=pre at*;have g:∃x,((pre++l.drop (a+1+k)).map vu)[a+1+k]?=J (vu x):=by
  refine⟨l[a+1+k],?_⟩;rw[Z6G,Z6v Z0,r,Z80,Z7a Q];rfl
 have f:((pre++l.drop (a+1+k)).map vu).set (a+1+k) (vu z)=(pre++[z]++l.drop (a+1+(k+1))).map vu:=by
  rw[<-Z8j,F];rfl
 obtain⟨m,B⟩:∃m:Nat,a+1+k=m:=⟨_,rfl⟩;have u:(a:Int)+1+k=m:=Z0;have w:=ZA (m:Int) Z0 Z0;rw[show a+1+(k+1)=a+1+k+1 by omega]at f⊢;rw[B]at g f t⊢;generalize X:(pre++l.drop m).map vu=LL at g f⊢;rw[G];obtain⟨y,hy⟩:=g;simp[o,N,Yk N,H,a1,u,w];refine Zz t (by simp[X9]) ?_;simp[hy,f,L,o,H,u,w];rw[<-C];simp;have:k=I n.Z:=Z0;subst this;rw[show(XL b p a n.Z tw).take (I n.Z)=XL b p a n.Z tw from Z7t Z0];have a2:=ZA ((a:Int)+1+I n.Z) Z0 Z0;have a3:∀j:Nat,j<=1000+I n.data->IntKind.i64.wrap ((a:Int)+1+I n.Z+j)=(a:Int)+1+I n.Z+j:=λj hj=>ZA _ Z0 Z5L;generalize T:l.take a++[A]++XL b p a n.Z tw=M at*;have W:I M=a+1+I n.Z:=by rw[<-T];simp[S];omega
 simp;refine U6 13 (I n.data) (λk=>[(8,.v<|.sl<|((M++n.data.take k)++l.drop (a+1+I n.Z+k)).map vu),(13,.v<|vi k)]) (λ_=>True) Z1 (λi=>Z1) trivial ?_;rintro k hk-;have L:=ZA ((k:Int)+1) Z0 Z5L;by_cases o:k<I n.data;have N:n.data[k]?=J n.data[k]:=Z6b o;generalize n.data[k]=z at*;have G:n.data.take (k+1)=n.data.take k++[z]:=by rw[Z7k,N];rfl
 have r:I (M++n.data.take k)=a+1+I n.Z+k:=by simp[W];omega
 have Q:a+1+I n.Z+k<I l:=Z5L;have F:=jJ (l:=l) r Q z;generalize C:M++n.data.take k=pre at*;have g:∃x,((pre++l.drop (a+1+I n.Z+k)).map vu)[a+1+I n.Z+k]?=J (vu x):=by
  refine⟨l[a+1+I n.Z+k],?_⟩;rw[Z6G,Z6v Z0,r,Z80,Z7a Q];rfl
 have f:((pre++l.drop (a+1+I n.Z+k)).map vu).set (a+1+I n.Z+k) (vu z)=(pre++[z]++l.drop (a+1+I n.Z+k+1)).map vu:=by
  rw[<-Z8j,F]
 rw[show a+1+I n.Z+(k+1)=a+1+I n.Z+k+1 by omega];have a4:=a3 k Z0;obtain⟨m,B⟩:∃m:Nat,a+1+I n.Z+k=m:=⟨_,rfl⟩;have u:(a:Int)+1+I n.Z+k=m:=Z0;have w:=ZA (m:Int) Z0 Z0;rw[B]at g f⊢;generalize X:(pre++l.drop m).map vu=LL at g f⊢;rw[G];obtain⟨y,hy⟩:=g;simp[o,N,Yk N,H,a2,a4,u,w,hy,f,L];rw[<-C];simp;have:k=I n.data:=Z0;subst this;rw[show n.data.take (I n.data)=n.data from Z7P];have K:=AE (h:=b.h) (n:=p.part) (l:=M++n.data++l.drop (a+1+I n.Z+I n.data));have O:Th b p a n tw=M++n.data++l.drop (a+1+I n.Z+I n.data):=by
  unfold Th;rw[Z,Y];dsimp only;rw[T,show a+ZN n=a+1+I n.Z+(I n.data) by unfold ZN;omega]
 rw[O];generalize M++n.data++l.drop (a+1+I n.Z+I n.data)=a6 at*;simp;refine Zz K Z67 ?_;simp[X9]
end Vm
namespace Vm
open Go Go.Proofs
def Rm(h:Hp):Prop:=(∀k,∀w∈Zw h k,Zy w)/\∀w∈h.E,Zy w
structure BOk (b:Bt):Prop where
 al:(Zv b.h).ah
 hl:I b.ap=I b.g.nodes
 ol:I b.ad=I b.g.nodes
 nn:I b.g.nodes<=10
 ptr:∀n∈b.g.nodes,∀q∈n.Z,q< (I b.g.nodes:Int)
 ro:∀n∈b.g.nodes,∀q∈n.data,Zy q
 rz:∀q∈b.g.E,q< (I b.g.nodes:Int)
 rl:I b.g.E<=5
 ap:∀(i:Nat) (p:Pl) (n:Nd),b.ap[i]?=J p->b.g.nodes[i]?=J n->p=⟨0,0⟩\/∃a:Nat,p.Y=a/\(p.part=1\/p.part=2)/\a+ZN n<=I (Zw b.h p.part)
 ad:∀(i:Nat) (p:Pl) (n:Nd),b.ad[i]?=J p->b.g.nodes[i]?=J n->p=⟨0,0⟩\/∃a:Nat,p.Y=a/\(p.part=3\/p.part=4)/\a+ZN n<=I (Zw b.h p.part)
 len:∀k,I (Zw b.h k)<=1000
 dr:Rm b.h
theorem Ju{h h'}(a:Zv h'=Zv h)k:I (Zw h' k)=I (Zw h k):=by
 grind [Zv,Zw]
def BOk.keep{b}(hb:BOk b){h'}(hl:Zv h'=Zv b.h)(hw:Rm h'):BOk {b with h:=h'} where
 al:=by show(Zv h').ah;rw[hl];exact hb.al
 hl:=hb.hl
 ol:=hb.ol
 nn:=hb.nn
 ptr:=hb.ptr
 ro:=hb.ro
 rz:=hb.rz
 rl:=hb.rl
 ap:=λi p n hp hn=>by
  obtain h|⟨a,h1,h2,h3⟩:=hb.ap i p n hp hn;grind;grind [Ju]
 ad:=λi p n hp hn=>by
  obtain h|⟨a,h1,h2,h3⟩:=hb.ad i p n hp hn;grind;grind [Ju]
 len:=λk=>by show I (Zw h' k)<=1000;rw[Ju hl];exact hb.len k
 dr:=hw
def Qs{h p l}(d:I l=I (Zw h p)):Zv (Yr h p l)=Zv h:=by
 unfold Yr Zw at*;split;simp_all[Zv];split;simp_all[Zv];rename_i a;split;simp_all[Zv];simp_all[Zv]
def Z1s{h p l}(a:Rm h)(k:∀w∈l,Zy w):Rm<|Yr h p l:=by
 have d:=a.1 1;have f:=a.1 2;have g:=a.1 3;have j:=a.1 4;grind [Rm,Zw,Yr]
def Ni{b p a n tw}(d:a+ZN n<=I (Zw b.h p.part)):I (Th b p a n tw)=I (Zw b.h p.part):=by
 grind [Th,ZN,XL]
def Nj{b p a n tw}(f:Rm b.h)(g:∀q∈n.data,Zy q):∀w∈Th b p a n tw,Zy w:=by
 intro w d;unfold Th at d;simp only[Z6Q,Z86]at d;obtain(((d|d)|d)|d)|d:=d;exact f.1 _ w<|Z7i d;subst d;have:=E5 ((I n.Z:Int)+I n.data)<|I n.Z;exact⟨this.1,Z0⟩;simp[XL]at d;grind [Z0z];grind;exact f.1 _ w<|Z8x d
def VP(x:Rw)(b:Bt)(i:Nat)(n:Nd)(p:Pl):Bt:=if 0<p.part then XY b p n (IntKind.i64.wrap<|x.ba+i)else b
def VR(b:Bt)(n:Nd)(p o:Pl):Bt:=if 0<o.part/\p.part=0 then XY b o n 0 else b
def Vz(b:Bt)(p o:Pl):Bt:=if 0<o.part/\0<p.part then {b with h:=Yr b.h o.part ((Zw b.h o.part).set o.Y.toNat<|YC b.h p)}else b
def RF(x:Rw)(b:Bt)(i:Nat):Bt:=
 let n:=(b.g.nodes[i]?).getD default;let p:=(b.ap[i]?).getD ⟨0,0⟩;let o:=(b.ad[i]?).getD ⟨0,0⟩
 Vz (VR (VP x b i n p) n p o) p o
structure Like (b b':Bt):Prop where
 g:b'.g=b.g
 ap:b'.ap=b.ap
 ad:b'.ad=b.ad
 al:Zv b'.h=Zv b.h
 dr:Rm b'.h
 O:b'.h.O=b.h.O
 M:b'.h.M=b.h.M
def Like.ok{b a}(o:Like b a)(n:BOk b):BOk a:=by
 let⟨q,p,d,f⟩:=a;obtain⟨g,h,j,k,l,_⟩:=o;subst g h j;exact n.keep k l
theorem Like.trans{a b c}(h:Like a b)(k:Like b c):Like a c:=⟨k.g.trans h.g,k.ap.trans h.ap,k.ad.trans h.ad,k.al.trans h.al,k.dr,k.O.trans h.O,k.M.trans h.M⟩
def zi h p l:(Yr h p l).O=h.O/\(Yr h p l).M=h.M:=by
 unfold Yr;grind
def Cf{b}(a:BOk b){p l}(d:I l=I (Zw b.h p))(f:∀w∈l,Zy w):Like b {b with h:=Yr b.h p l}:=
 ⟨rfl,rfl,rfl,Qs d,Z1s a.dr f,(zi _ _ _).1,(zi _ _ _).2⟩
def KX{b}(a:BOk b):Like b b:=⟨rfl,rfl,rfl,rfl,a.dr,rfl,rfl⟩
def Ce{b}(d:BOk b){p:Pl}{n tw}{a:Nat}(f:p.Y=a)(g:a+ZN n<=I (Zw b.h p.part))(j:∀q∈n.data,Zy q):Like b<|XY b p n tw:=by
 unfold XY;rw[f];exact Cf d (Ni g)<|Nj d.dr j
def yQ{x b}(d:BOk b){i n p}(k:b.g.nodes[i]?=J n)(l:b.ap[i]?=J p):Like b<|VP x b i n p:=by
 unfold VP;split;rename_i f;obtain rfl|⟨a,h,o,j⟩:=d.ap i p n l k;simp at f;exact Ce d h j<|d.ro n Z5h;exact KX d
def yR{b}(d:BOk b){i:Nat}{n p o}(k:b.g.nodes[i]?=J n)(l:b.ad[i]?=J o):Like b<|VR b n p o:=by
 unfold VR;split;rename_i f;obtain rfl|⟨a,h,q,j⟩:=d.ad i o n l k;simp at f;exact Ce d h j<|d.ro n Z5h;exact KX d
def No{b}(a:BOk b){p o}:Like b<|Vz b p o:=by
 unfold Vz;split;refine Cf a Z1 λw d=> ?_;obtain h|rfl:=Z6Z d;exact a.dr.1 _ w h;exact jv _ _;exact KX a
def Np{x b}(a:BOk b){i}(f:i<I b.g.nodes):Like b<|RF x b i:=by
 have h:b.g.nodes[i]?=J b.g.nodes[i]:=Z1;have l:b.ap[i]?=J (b.ap[i]'(by rw[a.hl];exact f)):=Z1;have k:b.ad[i]?=J (b.ad[i]'(by rw[a.ol];exact f)):=Z1;unfold RF;simp[h,l,k];have d:=yQ (x:=x) a h l;have j:=yR (p:=b.ap[i]'(by rw[a.hl];exact f)) (d.ok a) (by rw[d.g];exact h) (by rw[d.ad];exact k);exact(d.trans j).trans (No<|j.ok<|d.ok a)
def VQ(x:Rw)(b:Bt):Nat->Bt
 |0=>b
 |i+1=>RF x (VQ x b i) i
def J5{x b}(a:BOk b):∀i,i<=I b.g.nodes->Like b (VQ x b i)
 |0,_=>KX a
 |i+1,d=>by
  have h:=J5 (x:=x) a i Z0;exact h.trans<|Np (h.ok a) (by rw[h.g];omega)
def Yn(x:Rw)(b:Bt):Hp:=
 let a:=VQ x b<|I b.g.nodes
 {a.h with E:=b.g.E.map λr=>if 0<=r then YC a.h ((b.ap[r.toNat]?).getD ⟨0,0⟩)else 0}
def Bo{x:Rw}(hx:x.ok){b:Bt}(H:BOk b):VC Tryz.prog 16 xw [X9 b,Wn x]<|ZF<|Yn x b:=by
 refine ZY Tryz.func16 follows Z2 Ht rfl ?_;simp[Dt,Xq];refine U6 5 (I b.g.nodes) (λi=>[(2,.m<|Xq<|VQ x b i),(5,.v<|vi i)]) (λ_=>True) (by simp[VQ,Xq]) (λi=>Z1) trivial ?_;rintro i hi-;have F:=J5 (x:=x) H i hi;have O:=ZA ((i:Int)+1) (by have:=H.nn;omega) (by have:=H.nn;omega);by_cases h:i<I b.g.nodes;have f:=F.ok H;simp only[VQ];have z:i< (VQ x b i).g.nodes.length:=by rw[F.g];exact h
 generalize a5:VQ x b i=c at*;have t:c.g.nodes[i]?=J c.g.nodes[i]:=Z6b z;have y:c.ap[i]?=J (c.ap[i]'(by rw[f.hl];exact z)):=Z6b _;have w:c.ad[i]?=J (c.ad[i]'(by rw[f.ol];exact z)):=Z6b _;unfold RF;simp only[t,y,w,Z6K];generalize c.g.nodes[i]=n at*;generalize c.ap[i]'(by rw[f.hl];exact z)=p at*;generalize c.ad[i]'(by rw[f.ol];exact z)=o at*;have Z:∀q∈n.Z,q< (I c.ap:Int)/\q< (I c.ad:Int):=λq hq=>by
  have:=f.ptr n (Z6n t) q hq;rw[f.hl,f.ol];exact⟨this,this⟩
 have kA:=yQ (x:=x) f t y;have bA:=kA.ok f;have kO:=yR (p:=p) bA (by rw[kA.g];exact t) (by rw[kA.ad];exact w);have bO:=kO.ok bA;have K:I c.g.nodes=I b.g.nodes:=by rw[F.g]
 have a7:c.g=b.g:=F.g;have X:0<p.part->VC Tryz.prog 36 xw [X9 c,XP p,YV n,vi<|IntKind.i64.wrap<|x.ba+i] (X9<|XY c p n<|IntKind.i64.wrap<|x.ba+i):=λS=>by
  obtain rfl|⟨a,P,h2,Q⟩:=f.ap i p n y t;simp at S;exact C6 f.al P (by have:=f.len p.part;omega) Q Z
 have R:0<o.part->VC Tryz.prog 36 xw [X9 c,XP o,YV n,vi 0] (X9<|XY c o n 0):=λS=>by
  obtain rfl|⟨a,P,h2,Q⟩:=f.ad i o n w t;simp at S;exact C6 f.al P (by have:=f.len o.part;omega) Q Z
 have a3:p.part=0\/0<p.part:=by
  obtain rfl|⟨a,P,h2,Q⟩:=f.ap i p n y t;exact .inl rfl;exact .inr Z0
 have Y:o.part=0\/0<o.part:=by
  obtain rfl|⟨a,P,h2,Q⟩:=f.ad i o n w t;exact .inl rfl;exact .inr Z0
 obtain u|u:=a3;obtain j|j:=Y;simp[Xq,h,z,K,t,y,w,Yk t,Yk y,Yk w,VP,VR,Vz,u,j,O];have a8:¬0<p.part:=Z0;have A:Like c<|XY c o n 0:=by
  have:=yR (p:=p) f t w;unfold VR at this;rwa[Z6k ⟨j,u⟩]at this
 have a2:=R j;simp[Xq,h,z,K,t,y,w,Yk t,Yk y,Yk w,VP,VR,Vz,u,j,O];generalize XY c o n 0=d at*;obtain⟨L,M,N,d4,d5,_,_⟩:=A;refine Zz a2 (by simp[X9]) ?_;simp[Xq,L,M,N,t,y,w,Yk t,Yk y,Yk w,u,j,O,h];have C:¬p.part=0:=Z0;have A:Like c<|XY c p n<|IntKind.i64.wrap<|x.ba+i:=by
  have:=yQ (x:=x) f t y;unfold VP at this;rwa[Z6k u]at this
 have W:=X u;have bd:=A.ok f;obtain j|j:=Y;simp[Xq,h,z,K,t,y,w,Yk t,Yk y,Yk w,VP,VR,Vz,u,j,C,O];generalize XY c p n (IntKind.i64.wrap<|x.ba+i)=d at*;obtain⟨L,M,N,d4,d5,_,_⟩:=A;refine Zz W (by simp[X9]) ?_;simp[Xq,L,M,N,t,y,w,Yk t,Yk y,Yk w,u,j,C,O,h];simp[Xq,h,z,K,t,y,w,Yk t,Yk y,Yk w,VP,VR,Vz,u,j,C,O];generalize XY c p n (IntKind.i64.wrap<|x.ba+i)=d at*;obtain⟨L,M,N,d4,d5,_,_⟩:=A;refine Zz W (by simp[X9]) ?_;simp[Xq,L,M,N,t,y,w,Yk t,Yk y,Yk w,u,j,C,O,h];obtain rfl|⟨a,P,h2,Q⟩:=f.ad i o n w t;simp at j;have a6:=bd.len o.part;have B:I (Zw d.h o.part)<=Ye:=Z5N;have a1:a< I (Zw d.h o.part):=by
  have:=Ju d4 o.part;unfold ZN at Q;omega
 refine Zz (UG (h:=d.h) (n:=o.part)) Z67 ?_;simp[B,y];refine Zz (JI (b:=⟨d.h,c.g,c.ap,c.ad⟩) bd.al (p:=p)) Z1 ?_;simp[P,a1,w,Yk w];have G:=AE (h:=d.h) (n:=o.part) (l:=(Zw d.h o.part).set a<|YC d.h p);rw[Z8j]at G;refine Zz G Z67 ?_;simp[O,h,L,M,N];have:i=I b.g.nodes:=Z0;subst this;have bd:=F.ok H;unfold Yn;generalize VQ x b (I b.g.nodes)=d at*;obtain⟨L,M,N,d4,d5,_,_⟩:=F;simp[Xq,L,M,N];refine U6 13 (I b.g.E) (λk=>[(12,.v<|.sl ((b.g.E.take k).map λr=>vu (if 0<=r then YC d.h ((b.ap[r.toNat]?).getD ⟨0,0⟩)else 0))),(13,.v<|vi k)]) (λ_=>True) Z1 (λi=>Z1) trivial ?_;rintro k hk-;have a9:=H.rl;have a0:=ZA ((k:Int)+1) Z0 Z0;by_cases D:k<I b.g.E;have T:b.g.E[k]?=J b.g.E[k]:=Z6b D;have b0:=H.rz _<|Z6E D;generalize b.g.E[k]=r at*;have a4:b.g.E.take (k+1)=b.g.E.take k++[r]:=by rw[Z7k,T];rfl
 have B:min k (I b.g.E)+1<=Ye:=Z5N;by_cases S:0<=r;obtain⟨q,rfl⟩:=Z6q S;have hq:b.ap[q]?=J (b.ap[q]'(by rw[H.hl];omega)):=Z6b _;generalize b.ap[q]'(by rw[H.hl];omega)=p at*;simp[D,T,Yk T,hq,Yk hq];refine Zz (JI (b:=⟨d.h,b.g,b.ap,b.ad⟩) bd.al (p:=p)) Z1 ?_;simp[a0,B,D];rw[Z7k,Z6G,T];simp[hq];simp[D,T,Yk T,S,a0,B,a4,D];have:k=I b.g.E:=Z0;subst this;simp[ZF]
end Vm
namespace Vm
open Go Go.Proofs
def PIn(s:St8)(p:Pl)(sz:Nat):Prop:=p=⟨0,0⟩\/∃a:Nat,p.Y=a/\((p.part=1/\a+sz<=s.n1)\/(p.part=2/\a+sz<=s.n2))
def POl(s:St8)(p:Pl)(sz:Nat):Prop:=p=⟨0,0⟩\/∃a:Nat,p.Y=a/\((p.part=3/\a+sz<=s.n3)\/(p.part=4/\a+sz<=s.n4))
def Z0H{x cycle sz i s}:s.n1<=(YX x cycle sz i s).n1/\s.n2<=(YX x cycle sz i s).n2/\s.n3<=(YX x cycle sz i s).n3/\s.n4<=(YX x cycle sz i s).n4:=by
 grind [YX]
def PIn.mono{s t p sz}(h:PIn s p sz)(g:s.n1<=t.n1)(h2:s.n2<=t.n2):PIn t p sz:=by
 obtain h|⟨a,d,⟨f,h⟩|⟨f,h⟩⟩:=h;exact .inl h;exact .inr ⟨a,d,Z0⟩;exact .inr ⟨a,d,Z0⟩
def POl.mono{s t p sz}(h:POl s p sz)(g:s.n3<=t.n3)(h2:s.n4<=t.n4):POl t p sz:=by
 obtain h|⟨a,d,⟨f,h⟩|⟨f,h⟩⟩:=h;exact .inl h;exact .inr ⟨a,d,Z0⟩;exact .inr ⟨a,d,Z0⟩
def Fp{x cycle g}(h:∀n∈g.nodes,ZN n<=9):∀i,i<=I g.nodes->∀(j:Nat) n,g.nodes[j]?=J n->
  (∀p,(Y5 x cycle g i).ap[j]?=J p->PIn (Y5 x cycle g i) p (ZN n))/\(∀p,(Y5 x cycle g i).ad[j]?=J p->POl (Y5 x cycle g i) p (ZN n))
 |0,_,j,n,l=>⟨λp a=>by simp[Y5]at a,λp a=>by simp[Y5]at a⟩
 |i+1,C,j,n,l=>by
  let⟨o,q⟩:=Fp (x:=x) (cycle:=cycle) h i Z0 j n l;let⟨_,_,u,w⟩:=Ql (x:=x) (cycle:=cycle) h i Z0;have f:g.nodes[i]?=J g.nodes[i]:=Z1;simp[Y5,f,Z6K];generalize Y5 x cycle g i=s at*;let⟨y,z,A,B⟩:=Z0H (x:=x) (cycle:=cycle) (sz:=ZN g.nodes[i]) (i:=i) (s:=s);have t:j<I g.nodes:=Z5h;constructor;intro p a;by_cases r:j<i;have:s.ap[j]?=J p:=by
   simp[YX]at a;rwa[Z6B Z0]at a
  exact(o p this).mono y z;by_cases d:j=i;subst d;simp[YX]at a;rw[Z6v Z0,u,Z80]at a;simp[Z6c]at a;unfold PIn;obtain k|k|⟨k,rfl⟩:=TQ x j cycle;grind [YX];grind [YX];simp_all;grind [YX,List.getElem?_eq_some_iff];intro p a;by_cases r:j<i;have:s.ad[j]?=J p:=by
   simp[YX]at a;rwa[Z6B Z0]at a
  exact(q p this).mono A B;by_cases d:j=i;subst d;simp[YX]at a;rw[Z6v Z0,w,Z80]at a;grind [List.getElem?_cons_zero,Option.some.injEq,POl,decide,WD,Wf,YX];grind [YX,List.getElem?_eq_some_iff]
def Cv l a:∀n∈(Y2 l a).nodes,∀q∈n.Z,-1<=q/\q< ((Y2 l a).nodes.length:Int):=by
 intro n d q f;rw[J8];simp only[Y2,Z6F]at d;obtain⟨y,_,rfl⟩:=d;simp only[Uo,Z6F]at f;obtain⟨p,_,rfl⟩:=f;exact EU
def NV l a:∀q∈(Y2 l a).E,-1<=q/\q< ((Y2 l a).nodes.length:Int):=by
 intro q d;rw[J8];simp only[Y2]at d;split at d;grind;simp only[Z6F]at d;obtain⟨p,_,rfl⟩:=d;exact EU
def NT l a(f:∀n∈l,∀q∈n.data,Zy q):∀n∈(Y2 l a).nodes,∀q∈n.data,Zy q:=by
 intro n d q g;simp only[Y2]at d;grind [Uo,List.mem_of_mem_take]
def Qm{x}(hx:x.ok)cycle:BOk (Yh x cycle)/\ZP (Yh x cycle).h.O/\ZC (Zv (Yh x cycle).h)=xk:=by
 let⟨w,u,y⟩:=L3 x.nodes x.E;have z:=J8 x.nodes x.E;have L:=Cv x.nodes x.E;have M:=NV x.nodes x.E;have A:=NT x.nodes x.E hx.data;unfold Yh;generalize Y2 x.nodes x.E=g at*;have t:∀n∈g.nodes,ZN n<=9:=λn K=>by grind [ZN]
 let⟨N,O,D,F⟩:=Ql (x:=x) (cycle:=cycle) t (I g.nodes) Z0;have r:=Fp (x:=x) (cycle:=cycle) t (I g.nodes) Z0;dsimp only;generalize Y5 x cycle g (I g.nodes)=s at*;have B:=Wl (c:=x.ba) (n:=12) Z0;have C:=Wl (c:=x.to) (n:=2) Z0;obtain⟨cap,q⟩:∃cap,max ((s.n1:Int)+s.n2+s.wt) ((s.n3:Int)+s.n4)+pick x.ba 12=cap:=⟨_,rfl⟩;rw[q];have G:=Z8H x.V (Z0:(9223372036854775808-2*cap)≠0);have H:=Z8q x.V (Z0:0< (9223372036854775808-2*cap));generalize x.V% (9223372036854775808-2*cap)=base at*;have l:ZP (if cycle=xk/\0<s.n1 then pick x.O s.n1 else s.n1):=by
  split;rename_i h;have:=Wl (c:=x.O) (n:=s.n1) Z0;exact⟨Z0,Z0⟩;exact⟨Z0,Z0⟩
 refine⟨⟨?_,?_,?_,?_,?_,?_,?_,?_,?_,?_,?_,?_⟩,l,?_⟩;refine⟨⟨?_,?_⟩,⟨?_,?_⟩,⟨?_,?_⟩,⟨?_,?_⟩,⟨?_,?_⟩,⟨?_,?_⟩,⟨?_,?_⟩⟩<;>simp[Zv]<;>omega;exact D;exact F;simp_all;grind;exact A;simp_all;exact u;intro i p n j f;rcases(r i n f).1 p j with h|⟨a,o,⟨d,h⟩|⟨d,h⟩⟩;grind;exact .inr ⟨a,o,.inl d,Z5i⟩;exact .inr ⟨a,o,.inr d,Z5i⟩;intro i p n j f;rcases(r i n f).2 p j with h|⟨a,o,⟨d,h⟩|⟨d,h⟩⟩;grind;exact .inr ⟨a,o,.inl d,Z5i⟩;exact .inr ⟨a,o,.inr d,Z5i⟩;grind [Zw];refine⟨λk=> ?_,Z1⟩;grind [List.replicate,Zy,Zw];refine Xe.2 ?_;simp[Zv,Z9z];omega
def z1(x:Rw):Hp:=Yn x<|Yh x xw
def VV(x:Rw):Hp:=if(Yh x xk).h.H.length=0 then z1 x else Yn x<|Yh x xk
def GO{x:Rw}(hx:x.ok):VC Tryz.prog 15 xw [Wn x]<|ZF<|z1 x:=by
 refine ZY Tryz.func15 follows Z2 TO rfl ?_;simp[Lo];refine Zz (Fr hx (cycle:=xw)) (by simp[Wn]) ?_;simp;refine Zz (Bo hx (Qm hx xw).1) Z1 ?_;simp;rfl
def Gs{x:Rw}(hx:x.ok):VC Tryz.prog 5 xw [Wn x]<|ZF<|VV x:=by
 refine ZY Tryz.func5 follows Z2 c5 rfl ?_;simp[p5];refine Zz (Fr hx (cycle:=xk)) (by simp[Wn]) ?_;unfold VV;by_cases a:(Yh x xk).h.H.length=0;simp[Xq,a];refine Zz (GO hx) Z1 ?_;simp;rfl;simp[Xq,a];refine Zz (Bo hx (Qm hx xk).1) Z1 ?_;simp;rfl
def zZ{x b}(k:BOk b)(z:ZP b.h.O):(Yn x b).ok/\Zv (Yn x b)=Zv b.h/\(Yn x b).O=b.h.O/\(Yn x b).M=b.h.M:=by
 have f:=J5 (x:=x) k (I b.g.nodes) Z0;have t:=f.ok k;unfold Yn;let⟨j,F,G,H,K,L,M,N,O,u,a,d⟩:=t;have A:=a 1;have B:=a 2;have C:=a 3;have D:=a 4;have n:=d.1 1;have o:=d.1 2;have p:=d.1 3;have q:=d.1 4;simp[Xn,Uq,qN,SU]at A B C D n o p q;have y:=k.rl;refine⟨⟨j.1,j.2.1,j.2.2.1,by rw[f.O];exact z,?_,?_,?_,?_,?_,n,o,p,q,?_⟩,f.al,f.O,f.M⟩;grind;grind;grind;grind;simp;omega;intro w l;simp[Z6F]at l;obtain⟨r,_,rfl⟩:=l;split;exact jv _ _;exact⟨Z0,Z0⟩
end Vm
end
section

end
section
namespace Vm
open Go Go.Proofs
structure Ob where
 Y:Int
 size:Int
 Z:Int
 gone:Bool
 target:Int
 deriving DecidableEq,Inhabited
def ZU(o:Ob):V:=.agg [vi o.Y,vi o.size,vi o.Z,.bool o.gone,vu o.target]
@[simp]theorem Z4N(o:Ob):Vu (ZU o) 5=J (ZU o):=rfl
@[simp]theorem Z3j(o:Ob):Ug (ZU o) 0 5=J (ZU o):=rfl
@[simp]theorem Z3S(o:Ob):(ZU o).cells=[vi o.Y,vi o.size,vi o.Z,.bool o.gone,vu o.target]:=rfl
@[simp]theorem Z2Y(o:Ob):Ya (ZU o) 0=J (vi o.Y):=rfl
@[simp]theorem Z2Z(o:Ob):Ya (ZU o) 1=J (vi o.size):=rfl
@[simp]theorem Z30(o:Ob):Ya (ZU o) 2=J (vi o.Z):=rfl
@[simp]theorem Z31(o:Ob):Ya (ZU o) 3=J (.bool o.gone):=rfl
@[simp]theorem Z32(o:Ob):Ya (ZU o) 4=J (vu o.target):=rfl
@[simp]theorem Z3k(o:Ob):Ug (ZU o) 1 2=J (Rc o.size o.Z):=rfl
abbrev Z8:=List Ob
@[simp]theorem Z4A(l:Z8):Xy 5 (l.map ZU)=xk:=JT λ_=>rfl
def XR(s:Int×Int):V:=Rc s.1 s.2
@[simp]theorem Z4w(s:Int×Int):(XR s).cells=[vi s.1,vi s.2]:=rfl
@[simp]theorem Z4Q(s:Int×Int):Vu (XR s) 2=J (XR s):=rfl
@[simp]theorem Z3m(s:Int×Int):Ug (XR s) 0 2=J (XR s):=rfl
@[simp]theorem Z3c(s:Int×Int):Ya (XR s) 0=J (vi s.1):=rfl
@[simp]theorem Z3d(s:Int×Int):Ya (XR s) 1=J (vi s.2):=rfl
@[simp]theorem Z4C(l:List<|Int×Int):Xy 2 (l.map XR)=xk:=JT λ_=>rfl
def WG(w:Int):Bool:=decide (w=0)||decide ((adr w).2=0)
def Xp(l:Z5)(gone:Bool)(ptrs:Int)(i:Nat):Bool:=
 match l with
 | []=>xk
 |w::l=>(!gone||decide (w=0))&&(!decide ((i:Int)<ptrs)||WG w)&&Xp l gone ptrs (i+1)
def Z0E{l:Z5}{gone:Bool}{ptrs:Int}{i:Nat}{w:Int}(h:l[i]?=J w):Xp (l.drop i) gone ptrs i=((!gone||decide (w=0))&&(!decide ((i:Int)<ptrs)||WG w)&&Xp (l.drop<|i+1) gone ptrs (i+1)):=by
 obtain⟨a,d⟩:=Z6d.1 h;rw[Z7a a,d];rfl
def XZ(shs:List<|Int×Int)(old:Bool)(at_ a:Nat)(w:Int):Option<|Ob×Nat:=
 if old=xk/\(adr w).2=0 then
  match shs[a]? with
  |none=>U
  |some s=>if Yo s.1 s.2 then J (⟨at_,s.1,s.2,xk,(adr w).1⟩,a+1)else U
 else if(ZW w).2.2=0 then J (⟨at_,(ZW w).1,(ZW w).2.1,xw,0⟩,a)else U
def A9{w:Int}(h:(ZW w).2.2=0):Yo (ZW w).1 (ZW w).2.1=xk:=by
 unfold ZW at*;grind
def Lc{shs:List (Int×Int)}{old:Bool}{at_ d:Nat}{w:Int}{o:Ob}{t:Nat}(h:XZ shs old at_ d w=J (o,t)):Yo o.size o.Z=xk/\o.Y=at_:=by
 unfold XZ at h;split at h;grind;split at h;rename_i a;cases h;exact⟨A9 a,rfl⟩;cases h
def Xi(ws:Z5)(shs:List<|Int×Int)(old:Bool):Nat->Nat->Nat->List Ob->List Ob×Int
 |0,_,_,_=>([],3)
 |f+1,at_,d,a=>
  match ws[at_]? with
  |none=>if d<(I shs) then([],3)else(a,0)
  |some w=>match XZ shs old at_ d w with
   |none=>([],3)
   |some (o,t)=>
    if(I ws:Int)<at_+1+o.size then([],2)
    else if Xp ((ws.drop<|at_+1).take o.size.toNat) o.gone o.Z 0=xw then([],3)
    else Xi ws shs old f (at_+1+o.size.toNat) t<|a++[o]
def ZQ(ws:Z5)(shs:List<|Int×Int)(old:Bool):List Ob×Int:=Xi ws shs old (I ws+1) 0 0 []
def Rr(n:Nat)(o:Ob):Prop:=(∃a:Nat,o.Y=a/\(a:Int)+1+o.size<=n)/\Yo o.size o.Z=xk
def Ot{shs:List (Int×Int)}{old:Bool}{at_ d:Nat}{w:Int}{o:Ob}{t:Nat}(a:Zy w)(h:XZ shs old at_ d w=J (o,t)):Zy o.target:=by
 unfold XZ at h;split at h;split at h;cases h;split at h;cases h;obtain⟨f,g⟩:=a;show 0<=(adr w).1/\(adr w).1<18446744073709551616;grind [adr];cases h;split at h;cases h;show(0:Int)<=0/\(0:Int)<18446744073709551616;omega;cases h
def FR{ws:Z5}{shs:List (Int×Int)}{old:Bool}(k:∀w∈ws,Zy w):∀(f at_ l:Nat) (d:Z8),(∀o∈d,Rr (I ws) o/\Zy o.target)->∀o∈(Xi ws shs old f at_ l d).1,Rr (I ws) o/\Zy o.target
 |0,_,_,_,_=>by simp[Xi]
 |f+1,at_,l,d,a=>by
  simp only[Xi];split;split;simp;exact a;rename_i w q;split;simp;rename_i o t j;split;simp;rename_i u;split;simp;refine FR k f _ _ _ λr g=> ?_;obtain h|h:=Z6Q.1 g;exact a r h;simp only[Z86]at h;subst h;obtain⟨n,p⟩:=Lc j;exact⟨⟨⟨at_,p,Z0⟩,n⟩,Ot (k w<|Z6n q) j⟩
def Qq{ws:Z5}{shs:List (Int×Int)}{old:Bool}(a:∀w∈ws,Zy w):∀o∈(ZQ ws shs old).1,Rr (I ws) o/\Zy o.target:=FR a _ _ _ _ Z1
def FS{ws:Z5}{shs:List (Int×Int)}{old:Bool}:∀(f at_ g:Nat) (a:Z8),at_<=I ws->I a<=at_->(Xi ws shs old f at_ g a).1.length<=I ws
 |0,_,_,_,_,_=>by simp[Xi]
 |f+1,at_,g,a,k,d=>by
  simp only[Xi];split;split;simp;simp only;omega;split;simp;rename_i o t h;split;simp;rename_i l;split;simp;have j:=Yq.1 (Lc h).1;refine FS f _ _ _ Z0 Z5j
def Qr{ws:Z5}{shs:List (Int×Int)}{old:Bool}:(ZQ ws shs old).1.length<=I ws:=FS _ _ _ _ Z0 Z1
end Vm
end
section

end
section
namespace Vm
open Go Go.Proofs
def YP(h:Hp)(part at_:Int):Int:=(Y1 (Zv h) part at_).1
def YA(h:Hp)(part:Int)(l:Z8)(a:Int):Option Ob:=l.find? λo=>YP h part o.Y==a
theorem AS{h:Hp}{part a:Int}{l:Z8}{o:Ob}(d:YA h part l a=J o):o∈l:=Z8z d
def WK(h:Hp)(ws:Z5)(low:Z8):Nat->Nat->List (Int×Int)->Option (List<|Int×Int)
 |0,_,_=>U
 |f+1,i,a=>
  match ws[i]? with
  |none=>J a
  |some w=>if(adr w).2=0 then(match YA h 1 low (adr w).1 with|none=>U|some o=>WK h ws low f (i+1+o.size.toNat)<|a++[(o.size,o.Z)])
   else if(ZW w).2.2=0 then WK h ws low f (i+1+(ZW w).1.toNat) a else U
def Va(h:Hp)(ws:Z5)(low:Z8):Option<|List<|Int×Int:=WK h ws low (I ws+1) 0 []
structure Pts where
 H:List Ob
 aa:List Ob
 ad:List Ob
 ae:List Ob
 deriving Inhabited
def Pts.at(p:Pts)(k:Int):List Ob:=if k=1 then p.H else if k=2 then p.aa else if k=3 then p.ad else p.ae
@[simp]theorem Pts.lw(p:Pts):p.at 1=p.H:=rfl
@[simp]theorem Pts.rm(p:Pts):p.at 2=p.aa:=rfl
@[simp]theorem Pts.ng(p:Pts):p.at 3=p.ad:=rfl
@[simp]theorem Pts.nh(p:Pts):p.at 4=p.ae:=rfl
structure Pts.ok (p:Pts) (h:Hp):Prop where
 ob:∀k,∀o∈p.at k,Rr (I<|Zw h k) o/\Zy o.target
 len:∀k,I (p.at k)<=1000000
def Xd(h:Hp):Option Pts:=
 let low:=ZQ h.H [] xw;let high:=ZQ h.aa [] xw
 if low.2≠0\/high.2≠0 then U else
 let p:=Va h h.ad low.1;let q:=Va h h.ae low.1;let d:=ZQ h.ad (p.getD []) xk;let a:=ZQ h.ae (q.getD []) xk
 if p=U\/q=U\/d.2≠0\/a.2≠0 then U else J ⟨low.1,high.1,d.1,a.1⟩
def OY{h:Hp}(a:h.ok){p:Pts}(f:Xd h=J p):p.ok h:=by
 unfold Xd at f;dsimp only at f;split at f;cases f;split at f;cases f;cases f;refine⟨λk o d=> ?_,λk=> ?_⟩;unfold Pts.at at d;unfold Zw;split at d;rename_i e;rw[Z6k e];exact Qq a.dm o d;rename_i g;rw[Z6h g];split at d;rename_i e;rw[Z6k e];exact Qq a.db o d;rename_i j;rw[Z6h j];split at d;rename_i e;rw[Z6k e];exact Qq a.gy o d;rename_i e;rw[Z6h e];exact Qq a.gw o d;unfold Pts.at;split;exact Z6H Qr a.H;split;exact Z6H Qr a.aa;split;exact Z6H Qr a.ad;exact Z6H Qr a.ae
def Xs(h:Hp)(p:Pts)(w one a:Int):Bool:=decide (w=0)||(decide ((adr w).2=0)&&((YA h one (p.at one) (adr w).1).isSome||(YA h a (p.at a) (adr w).1).isSome))
def Wc(o:Ob):Nat:=if o.gone then 0 else 1+o.size.toNat
def Yi(l:Z8):Nat:=(l.map Wc).sum
def G7{l:Z8}{i:Nat}{o:Ob}(h:l[i]?=J o):Yi (l.take<|i+1)=Yi (l.take i)+Wc o:=by
 simp_all[Yi,Z7k,Z7I,List.sum_append]
def Qu{l:Z8}(h:∀o∈l,Yo o.size o.Z=xk):Yi l<=256*I l:=by
 induction l with
 |nil=>simp[Yi]
 |cons o l a=>
  grind [Yq,Wc,Yi,List.length_cons]
def Yt(p:Pts):Nat:=Yi p.ad+Yi p.ae
def X1(l:Z8)(a:Int):Nat:=I (l.filter λo=>o.gone&&decide (o.target=a))
def U4(p:Pts)(a:Int):Nat:=X1 p.ad a+X1 p.ae a
def UV(h:Hp):Bool:=
 ZC (Zv h)&&decide (I h.E<=16)&&decide (0<=h.O)&&decide (h.O<=I h.H)&&
  (if h.M then decide (h.O<I h.H)else decide (h.O=I h.H)&&decide (I h.ad=0)&&decide (I h.ae=0))
def VG(h:Hp)(p:Pts)(part:Int)(k:Nat):Bool:=
 let w:=((Zw h part)[k]?).getD 0;let a:=Xs h p w 1 2;let from_:=Xs h p w 3 4
 if 2<part then from_ else if part=1/\h.O<=k then a||from_ else a
def Lb(h:Hp)(p:Pts)(part:Int)(o:Ob):Bool:=(List.range o.Z.toNat).all λj=>VG h p part<|o.Y.toNat+1+j
def Wm(h:Hp)(p:Pts)(part:Int):Bool:=(p.at part).all<|Lb h p part
def AK{α:Type}{q:α->Bool}{l:List α}{i:Nat}{x:α}(h:l[i]?=J x):(l.take<|i+1).all q=((l.take i).all q&&q x):=by
 rw[Z7k,h,List.all_append];simp
def AJ{α:Type}{q:α->Bool}{l:List α}{i:Nat}{x:α}(h:l[i]?=J x)(a:q x=xw):l.all q=xw:=by
 grind
def Se(h:Hp)(p:Pts)(o:Ob):Bool:=decide (U4 p (YP h 1 o.Y)=1)
def Tr(h:Hp)(p:Pts):Bool:=
 (!h.M||p.H.all (Se h p))&&h.E.all (λw=>Xs h p w 1 2)&&Wm h p 1&&Wm h p 2&&Wm h p 3&&Wm h p 4&&decide ((I h.H:Int)+I h.aa+Yt p<=h.cap)
def Yp(h:Hp):Bool:=UV h&&match Xd h with
 |none=>xw
 |some p=>Tr h p
def X0{h:Hp}(a:h.ok)(k:Int):(∀w∈Zw h k,Zy w)/\I (Zw h k)<=1000000:=by
 unfold Zw;split;exact⟨a.dm,a.H⟩;split;exact⟨a.db,a.aa⟩;split;exact⟨a.gy,a.ad⟩;exact⟨a.gw,a.ae⟩
def u6{h:Hp}(a:Yp h=xk):∃p,Xd h=J p/\Tr h p=xk/\UV h=xk:=by
 unfold Yp at a;grind
def RX(h:Hp)(part:Int):List Ob×Int:=if Yp h=xk/\1<=part/\part<=4 then(((Xd h).getD default).at part,0)else([],1)
def Ka(h:Hp):Int:=if Yp h then Yt ((Xd h).getD default)else 0
end Vm
end
section

end
section
namespace Vm
open Go Go.Proofs
def Kk{w}(a:Zy w):Zy (adr w).1:=by
 grind [Zy,adr]
def Mc{l a}(h:(Y3 l a).2.2=0):ZC l=xk/\1<=(Y3 l a).1/\(Y3 l a).1<=4/\0<=(Y3 l a).2.1/\(Y3 l a).2.1<ZX l (Y3 l a).1/\a=ZD l (Y3 l a).1+(Y3 l a).2.1:=by
 unfold Y3 at*;cases k:ZC l;grind;simp[Z96,Z7K]at h⊢;by_cases d:YU l a 1=xk;rw[Z6k d];have:=Tf.1 d;grind;by_cases f:YU l a 2=xk;rw[Z6k f];have:=Tf.1 f;grind;by_cases g:YU l a 3=xk;rw[Z6k g];have:=Tf.1 g;grind;by_cases j:YU l a 4=xk;rw[Z6k j];have:=Tf.1 j;grind;simp_all
theorem Uy{h k}(a:1<=k/\k<=4):ZX (Zv h) k=I (Zw h k):=by
 have:k=1\/k=2\/k=3\/k=4:=Z0;obtain rfl|rfl|rfl|rfl:=this<;>rfl
def Hp.zero:Hp:=⟨0,0,0,xw,0,[],[],[],[],[]⟩
def zr(ws:List Int)(a:Nat):Nat->List Int
 |0=>ws
 |i+1=>(zr ws a i).set (a+i) 0
@[simp]theorem Kg ws a n:I (zr ws a n)=I ws:=by
 induction n with
 |zero=>rfl
 |succ n d=>simp[zr,d]
def Xl(h:Hp)(part:Int)(a n:Nat):Hp:= {h with H:=h.H++((Zw h part).take<|a+n).drop a}
def TW(h:Hp)(part:Int)(a n:Nat):Int×Hp×Int:=
 if I (Zw h part)<a+n then(0,Hp.zero,2)
 else if Xh (Zv h)<n then(0,Hp.zero,7)
 else
  let d:=(X6 (Y1 (Zv<|Xl h part a n) 1<|I h.H).1).1
  (d,Yr (Xl h part a n) part<|(zr (Zw h part) a n).set a d,0)
def AH{l k a}:Zy (Y1 l k a).1:=by
 unfold Y1;cases d:ZC l;simp[Zy];simp[Z7K];split;simp[Zy];split;simp[Zy];have:=XW d k;grind [Zy]
def GS{l k a}:0<=(Y1 l k a).1/\(Y1 l k a).1<9223372036854775808:=by
 unfold Y1;cases d:ZC l;simp;simp[Z7K];split;simp;split;simp;have:=XW d k;omega
def Ev{a}:Zy (X6 a).1:=by
 grind [X6,Zy]
def fwd(h:Hp)(w:Int):Int×Hp×Int:=
 if ZC (Zv h)=xw then(0,Hp.zero,1)
 else if w=0 then(0,h,0)
 else if(adr w).2≠0 then(0,Hp.zero,3)
 else if(Y3 (Zv h) (adr w).1).2.2≠0 then(0,Hp.zero,6)
 else if(Y3 (Zv h) (adr w).1).1<3 then(w,h,0)
 else if(adr<|(Zw h (Y3 (Zv h) (adr w).1).1).getD (Y3 (Zv h) (adr w).1).2.1.toNat 0).2=0 then((Zw h (Y3 (Zv h) (adr w).1).1).getD (Y3 (Zv h) (adr w).1).2.1.toNat 0,h,0)
 else if(ZW<|(Zw h (Y3 (Zv h) (adr w).1).1).getD (Y3 (Zv h) (adr w).1).2.1.toNat 0).2.2≠0 then(0,Hp.zero,3)
 else TW h (Y3 (Zv h) (adr w).1).1 (Y3 (Zv h) (adr w).1).2.1.toNat<|(ZW<|(Zw h (Y3 (Zv h) (adr w).1).1).getD (Y3 (Zv h) (adr w).1).2.1.toNat 0).1.toNat+1
end Vm
namespace Vm
open Go Go.Proofs
@[simp]theorem Z1N k a b c d e f:Y4 (.agg [.int k a,.int k b,.int k c,.int k d,.int k e,.int k f]) (.int .i64 0) 6 1 xw=J (.int k a):=rfl
@[simp]theorem Z1T a b c d e f:Y4 (.agg [.bool a,.bool b,.bool c,.bool d,.bool e,.bool f]) (.int .i64 0) 6 1 xw=J (.bool a):=rfl
@[simp]theorem Z1O k a b c d e f:Y4 (.agg [.int k a,.int k b,.int k c,.int k d,.int k e,.int k f]) (.int .i64 1) 6 1 xw=J (.int k b):=rfl
@[simp]theorem Z1U a b c d e f:Y4 (.agg [.bool a,.bool b,.bool c,.bool d,.bool e,.bool f]) (.int .i64 1) 6 1 xw=J (.bool b):=rfl
@[simp]theorem Z1P k a b c d e f:Y4 (.agg [.int k a,.int k b,.int k c,.int k d,.int k e,.int k f]) (.int .i64 2) 6 1 xw=J (.int k c):=rfl
@[simp]theorem Z1V a b c d e f:Y4 (.agg [.bool a,.bool b,.bool c,.bool d,.bool e,.bool f]) (.int .i64 2) 6 1 xw=J (.bool c):=rfl
@[simp]theorem Z1Q k a b c d e f:Y4 (.agg [.int k a,.int k b,.int k c,.int k d,.int k e,.int k f]) (.int .i64 3) 6 1 xw=J (.int k d):=rfl
@[simp]theorem Z1W a b c d e f:Y4 (.agg [.bool a,.bool b,.bool c,.bool d,.bool e,.bool f]) (.int .i64 3) 6 1 xw=J (.bool d):=rfl
@[simp]theorem Z1R k a b c d e f:Y4 (.agg [.int k a,.int k b,.int k c,.int k d,.int k e,.int k f]) (.int .i64 4) 6 1 xw=J (.int k e):=rfl
@[simp]theorem Z1X a b c d e f:Y4 (.agg [.bool a,.bool b,.bool c,.bool d,.bool e,.bool f]) (.int .i64 4) 6 1 xw=J (.bool e):=rfl
@[simp]theorem Z1S k a b c d e f:Y4 (.agg [.int k a,.int k b,.int k c,.int k d,.int k e,.int k f]) (.int .i64 5) 6 1 xw=J (.int k f):=rfl
@[simp]theorem Z1Y a b c d e f:Y4 (.agg [.bool a,.bool b,.bool c,.bool d,.bool e,.bool f]) (.int .i64 5) 6 1 xw=J (.bool f):=rfl
end Vm
namespace Vm
open Go Go.Proofs
def Z1r{h}(A:h.ok){k l}(o:I l<=1000000)(h2:∀w∈l,Zy w):(Yr h k l).ok:=by
 let⟨a,d,f,g,p,q,r,t,j,u,x,y,z,n⟩:=A;unfold Yr;split;exact⟨a,d,f,g,o,q,r,t,j,h2,x,y,z,n⟩;split;exact⟨a,d,f,g,p,o,r,t,j,u,h2,y,z,n⟩;split;exact⟨a,d,f,g,p,q,o,t,j,u,x,h2,z,n⟩;exact⟨a,d,f,g,p,q,r,o,j,u,x,y,h2,n⟩
end Vm
end
section
namespace Vm
open Go Go.Proofs
def Rj{n:Nat}{x:V}(h:YQ Tryz.prog (n+1) 3 x):∃m,x=vi m/\ZP m:=by
 obtain⟨m,rfl,a,d⟩:=FE Tryz.underlying3 h;exact⟨m,rfl,a,d⟩
def ze{n:Nat}{x:V}(h:YQ Tryz.prog (n+1) 24 x):∃m,x=vu m/\Zy m:=by
 obtain⟨m,rfl,a,d⟩:=FE Tryz.underlying24 h;exact⟨m,rfl,a,Int.lt_of_le_of_lt d Z5q⟩
def A8{n:Nat}{x:V}(h:YQ Tryz.prog (n+2) 23 x):∃l:Z5,x=.sl (l.map vi)/\I l<=maxLen/\∀p∈l,ZP p:=
 A7 Tryz.underlying23 h λy a=>Rj a
def Z1e{n:Nat}{x:V}(h:YQ Tryz.prog (n+2) 29 x):∃l:Z5,x=.sl (l.map vu)/\I l<=maxLen/\∀p∈l,Zy p:=
 A7 Tryz.underlying29 h λy a=>ze a
def Nd.ah(x:Nd):Prop:=(I x.Z<=maxLen/\∀p∈x.Z,ZP p)/\I x.data<=maxLen/\∀p∈x.data,Zy p
def Z1b{n:Nat}{x:V}(h:YQ Tryz.prog (n+3) 130 x):∃a:Nd,x=YV a/\a.ah:=by
 obtain⟨q,rfl,o,d⟩:=FF Tryz.underlying130 h
 match q,o with
 | [a,b],_=>
   obtain⟨p,rfl,g,j⟩:=A8<|d 0 _ a rfl rfl;obtain⟨f,rfl,k,l⟩:=Z1e<|d 1 _ b rfl rfl;exact⟨⟨p,f⟩,rfl,⟨g,j⟩,k,l⟩
def Z1c{n:Nat}{x:V}(h:YQ Tryz.prog (n+4) 22 x):∃l:List Nd,x=.sl (l.map YV)/\I l<=maxLen/\∀a∈l,a.ah:=
 A7 Tryz.underlying22 h λy d=>Z1b d
def Z1d{n:Nat}{x:V}(h:YQ Tryz.prog (n+5) 26 x):∃r:Rw,x=Wn r/\r.ok:=by
 obtain⟨F,rfl,B,j⟩:=FF Tryz.underlying26 h
 match F,B with
 | [a,b,c,d,e,f,g],_=>
   obtain⟨C,rfl,_,o⟩:=Z1c<|j 0 _ a rfl rfl;obtain⟨D,rfl,_,t⟩:=A8<|j 1 _ b rfl rfl;obtain⟨q,rfl,_,u⟩:=A8<|j 2 _ c rfl rfl;obtain⟨d,rfl,w⟩:=ze<|j 3 _ d rfl rfl;obtain⟨e,rfl,y⟩:=Rj<|j 4 _ e rfl rfl;obtain⟨f,rfl,z⟩:=Rj<|j 5 _ f rfl rfl;obtain⟨g,rfl,A⟩:=Rj<|j 6 _ g rfl rfl;exact⟨⟨C,D,q,d,e,f,g⟩,rfl,λn k p l=>(o n k).1.2 p l,λn k p l=>(o n k).2.2 p l,t,u,w,y,z,A⟩
def own:ownKnob Tryz.prog.godebug=U:=Z2
def laidOut:laidOutB Tryz.prog=xk:=Z2
def Bw:∀l:Z5,flat (l.map vi)=l.map vi
 | []=>rfl
 |a::l=>by rw[Z6R,TV,Bw l];rfl
def Z1a{n:Nat}{x:V}(h:YQ Tryz.prog (n+2) 27 x):∃l:Z5,x=.agg (l.map vi)/\I l=5/\∀p∈l,ZP p:=by
 obtain⟨j,rfl,f,d⟩:=Z19 Tryz.underlying27 h;obtain⟨l,rfl,a⟩:=yS (enc:=vi) (Q:=ZP) λy g=>Rj<|d y g;exact⟨l,by rw[Bw],Z5y,a⟩
def Hp.fh:Hp.zero.ok:=by
 refine⟨?_,?_,?_,?_,?_,?_,?_,?_,?_,?_,?_,?_,?_,?_⟩<;>simp[Hp.zero,Zy,ZP]
def CD{h:Hp}(d:h.ok){part:Int}{a n:Nat}(o:a+n<=I (Zw h part))(h2:(n:Int)<=Xh (Zv h))(p:0<n):(Xl h part a n).ok:=by
 have g:ZC (Zv h)=xk:=by
  cases j:ZC<|Zv h;have:Xh (Zv h)=0:=by unfold Xh;rw[j];rfl
  omega;rfl
 have l:Xh (Zv h)=(Zv h).cap- (Zv h).H- (Zv h).aa:=by unfold Xh;rw[g];rfl
 have k:=Xe.1 g;have q:(Zv h).H=I h.H:=rfl;have r:(Zv h).aa=I h.aa:=rfl;refine⟨d.V,d.cap,d.to,d.O,?_,d.aa,d.ad,d.ae,d.E,?_,d.db,d.gy,d.gw,d.cg⟩;simp only[Xl,Z6L,Z9s,Z7O];omega;intro w f;simp only[Xl]at f;obtain f|f:=Z6Q.1 f;exact d.dm w f;exact(X0 d part).1 w (Z7i<|Z8x f)
def Gc{ws:Z5}{a:Nat}(h:∀w∈ws,Zy w):∀n,∀w∈zr ws a n,Zy w
 |0=>h
 |n+1=>by
  intro w d;obtain d|d:=Z6Z d;exact Gc h n w d;subst d;unfold Zy;omega
def Mu{h:Hp}(f:h.ok){part:Int}{a n:Nat}(g:0<n):(TW h part a n).2.1.ok/\Zy (TW h part a n).1:=by
 unfold TW;split;exact⟨Hp.fh,Z68⟩;split;exact⟨Hp.fh,Z68⟩;rename_i k l;have j:=X0 f part;refine⟨Z1r (CD f Z0 Z0 g) Z5j ?_,Ev⟩;intro w d;obtain d|d:=Z6Z d;exact Gc j.1 _ w d;subst d;exact Ev
def QV{h:Hp}(a:h.ok){w:Int}(j:Zy w):(fwd h w).2.1.ok/\Zy (fwd h w).1:=by
 unfold fwd;split;exact⟨Hp.fh,Z68⟩;split;exact⟨a,Z68⟩;split;exact⟨Hp.fh,Z68⟩;split;exact⟨Hp.fh,Z68⟩;split;exact⟨a,j⟩;split;refine⟨a,?_⟩;generalize (Y3 (Zv h) (adr w).1).2.1.toNat=k;have g:=(X0 a (Y3 (Zv h) (adr w).1).1).1;generalize Zw h (Y3 (Zv h) (adr w).1).1=d at*;by_cases f:k<I d;have e:d.getD k 0=d[k]:=by simp[List.getD,f]
 simp only[e];exact g _<|Z6E f;have e:d.getD k 0=0:=by simp[List.getD,f]
 simp only[e];unfold Zy;omega;split;exact⟨Hp.fh,Z68⟩;exact Mu a Z0
def MU{x:Rw}(hx:x.ok):(VV x).ok/\ZC (Zv<|VV x)=xk/\(VV x).E.length<=5:=by
 have key:∀c,(Yn x<|Yh x c).ok/\ZC (Zv<|Yn x<|Yh x c)=xk/\(Yn x<|Yh x c).E.length<=5:=λc=>by
  obtain⟨a,d,f⟩:=Qm hx c;obtain⟨g,h,_,_⟩:=zZ (x:=x) a d;refine⟨g,by rw[h];exact f,?_⟩;simp only[Yn,Z6D];exact a.rl
 unfold VV z1;split;exact key xw;exact key xk
end Vm
end
section
namespace Vm
open Go Go.Proofs
structure Stands (ws:List Int) (old:Bool) (o:Ob):Prop where
 gd:0<=o.Y
 shape:Yo o.size o.Z=xk
 ah:o.Y+1+o.size<=I ws
 ew:Xp ((ws.drop<|o.Y.toNat+1).take o.size.toNat) o.gone o.Z 0=xk
 cm:∃w,ws[o.Y.toNat]?=J w/\(if o.gone then old=xk/\(adr w).2=0/\o.target=(adr w).1 else(old=xk->¬(adr w).2=0)/\ZW w=(o.size,o.Z,0)/\o.target=0)
def Tiles(ws:List Int)(old:Bool):Nat->List Ob->Prop
 |a,[]=>I ws<=a
 |a,o::l=>o.Y=a/\Stands ws old o/\Tiles ws old (a+1+o.size.toNat) l
def Oq{ws shs old a g t w o}(k:ws[a]?=J w)(f:XZ shs old a g w=J (o,t))(h:¬(I ws:Int)<a+1+o.size)
  (j:¬Xp ((ws.drop<|a+1).take o.size.toNat) o.gone o.Z 0=xw):o.Y=a/\Stands ws old o:=by
 have d:=Lc f;refine⟨d.2,?_,d.1,?_,?_,w,?_,?_⟩;omega;omega;simp_all;simp_all;unfold XZ at f;grind
def FU{ws shs old}:∀f a j d l,Xi ws shs old f a j d=(l,0)->∃r,l=d++r/\Tiles ws old a r
 |0,_,_,_,_,h=>by simp[Xi]at h
 |f+1,a,j,d,l,h=>by
  unfold Xi at h;split at h;rename_i p;split at h;grind;simp[and_true]at h;subst h;exact⟨[],Z1,Z8c.1 p⟩;rename_i w x;split at h;grind;rename_i o t q;split at h;grind;rename_i k;split at h;grind;rename_i n;obtain⟨r,rfl,u⟩:=FU f _ _ _ _ h;have g:=Oq x q k n;exact⟨o::r,Z1,g.1,g.2,u⟩
def Tz{ws shs old l}(h:ZQ ws shs old=(l,0)):Tiles ws old 0 l:=by
 let⟨r,a,d⟩:=FU _ _ _ _ _ h;simp_all
def Tiles.aq{ws old}:∀ {a} {l:List Ob},Tiles ws old a l->∀o∈l,Stands ws old o/\a<=o.Y
 |_,[],_,_,h=>Z5V
 |a,o::l,h,x,d=>by
  obtain rfl|d:=Z6S.1 d;exact⟨h.2.1,by rw[h.1];omega⟩;have:=Tiles.aq h.2.2 x d;grind
def Tiles.apart{ws old}:∀ {a} {l:List Ob},Tiles ws old a l->∀o∈l,∀q∈l,o=q\/o.Y+1+o.size<=q.Y\/q.Y+1+q.size<=o.Y
 |_,[],_,_,h,_,_=>Z5V
 |a,x::l,h,o,f,q,d=>by
  have e:=h.1;obtain rfl|f:=Z6S.1 f;obtain rfl|d:=Z6S.1 d;simp;have:=(Tiles.aq h.2.2 q d).2;omega;obtain d|d:=Z6S.1 d;have:=(Tiles.aq h.2.2 o f).2;grind;exact Tiles.apart h.2.2 o f q d
structure RightH (h:Hp) (p:Pts):Prop where
 eh:Xd h=J p
 da:UV h=xk
 ok:Tr h p=xk
 H:Tiles h.H xw 0 p.H
 aa:Tiles h.aa xw 0 p.aa
 ad:Tiles h.ad xk 0 p.ad
 ae:Tiles h.ae xk 0 p.ae
def u4{h}(l:Yp h=xk):∃p,RightH h p:=by
 let⟨p,a,j,k⟩:=u6 l;refine⟨p,a,k,j,?_,?_,?_,?_⟩;all_goals
  unfold Xd at a;dsimp only at a;split at a;cases a;split at a;cases a;rename_i f;cases a;have c3:(ZQ h.H [] xw).2=0/\(ZQ h.aa [] xw).2=0:=by
   refine⟨Z0,Z0⟩
  have c4:∀x:Int,¬x≠0->x=0:=Z0;have g:=c4 _ (λd=>f<|.inr<|.inr<|.inr d);first|exact Tz (Z8P rfl c3.1)|exact Tz (Z8P rfl c3.2)|exact Tz (Z8P rfl<|c4 _ (λd=>f<|.inr<|.inr<|.inl d))|exact Tz<|Z8P rfl g
def RightH.af{h p}(r:RightH h p){k}(a:1<=k/\k<=4):Tiles (Zw h k) (decide (2<k)) 0<|p.at k:=by
 have:k=1\/k=2\/k=3\/k=4:=Z0;obtain rfl|rfl|rfl|rfl:=this;exact r.H;exact r.aa;exact r.ad;exact r.ae
def RightH.al{h p}(r:RightH h p):ZC (Zv h)=xk:=by
 have:=r.da;simp_all[UV,Z6l]
def ZG(l:Ly)(k a:Int):Int:=2*(ZD l k+a)+1
theorem WM{l}(d:ZC l=xk){k a}(f:0<=a):adr (ZG l k a)=(ZD l k+a,0):=by
 have:=XW d k;unfold adr ZG;grind
theorem TI{l}(g:ZC l=xk){k a}(f:1<=k/\k<=4)(d:0<=a/\a<ZX l k):Y1 l k a=(ZD l k+a,0):=by
 simp_all[Y1,Z6h]
theorem Td{l}(g:ZC l=xk){k a}(j:1<=k/\k<=4)(d:0<=a/\a<ZX l k):Y3 l (ZD l k+a)=(k,a,0):=by
 have h:=Xe.1 g;have n:=z5 g;unfold Y3 YU;have f:k=1\/k=2\/k=3\/k=4:=Z0;obtain rfl|rfl|rfl|rfl:=f;grind;simp[ZD,ZX]at d⊢;grind;simp[ZD,ZX]at d⊢;grind;simp[ZD,ZX]at d⊢;grind
end Vm
namespace Vm
open Go Go.Proofs
def QU{g}(a:ZC (Zv g)=xk):fwd g 0=(0,g,0):=by simp[fwd,a]
def jw{l}(f:ZC l=xk){k a}(d:0<=a):¬ZG l k a=0:=by
 grind [ZG]
def fwd_here{g}(h:ZC (Zv g)=xk){k a:Int}(f:1<=k/\k<=2)(d:0<=a/\a< I (Zw g k)):fwd g (ZG (Zv g) k a)=(ZG (Zv g) k a,g,0):=by
 grind [WM,Td,Uy,fwd]
def fwd_gone{g}(d:ZC (Zv g)=xk){k}{a:Nat}(p:3<=k/\k<=4){u}(o:(Zw g k)[a]?=J u)(f:(adr u).2=0):fwd g (ZG (Zv g) k a)=(u,g,0):=by
 have q:a< I (Zw g k):=Z5h;have h:=jw d (k:=k) (a:=a) Z0;have j:=WM d (k:=k) (a:=a) Z0;have l:=Td d (k:=k) (a:=a) Z0 (by rw[Uy Z0];omega);have n:(Zw g k).getD a 0=u:=by simp[o]
 unfold fwd;simp[-List.getD_eq_getElem?_getD,d,h,j,l,show ¬k<3 by omega,n,f]
def Yd(g:Hp)(k:Int)(a n:Nat):Hp:=Yr (Xl g k a n) k<|(zr (Zw g k) a n).set a<|ZG (Zv g) 1<|I g.H
def RV{g k a n}(d:a+n<=I (Zw g k)):Zv (Xl g k a n)= {Zv g with H:=(I g.H+n:Nat)}:=by
 simp_all[Zv,Xl,Ly.mk.injEq,true_and,and_true]
theorem CE{g}(f:ZC (Zv g)=xk){k a n}(d:a+n<=I (Zw g k))(j:n<=Xh (Zv g)):ZC (Zv<|Xl g k a n)=xk:=by
 rw[RV d];have e:Xh (Zv g)=(Zv g).cap- (Zv g).H- (Zv g).aa:=by unfold Xh;rw[f];rfl
 have h:(Zv g).H=I g.H:=rfl;grind [Xe]
def Ja{g k}(f:3<=k/\k<=4){a n}(d:a+n<=I (Zw g k)):Zv (Yd g k a n)= {Zv g with H:=(I g.H+n:Nat)}:=by
 rw[<-RV d];apply Qs;rw[Z7g,Kg];have:k=3\/k=4:=Z0;obtain rfl|rfl:=this<;>rfl
def CB{g}(j:ZC (Zv g)=xk){k}(f:3<=k/\k<=4){a n}(d:a+n<=I (Zw g k))(h:n<=Xh (Zv g)):ZC (Zv<|Yd g k a n)=xk:=by
 rw[Ja f d,<-RV d];grind [CE]
def R4{g k}(d:3<=k/\k<=4){a n}(f:a+n<=I (Zw g k))j b:ZG (Zv<|Yd g k a n) j b=ZG (Zv g) j b:=by
 rw[Ja d f];rfl
def fwd_wait{g}(h:ZC (Zv g)=xk){k a}(C:3<=k/\k<=4){u}(B:(Zw g k)[a]?=J u)(q:¬(adr u).2=0){n:Nat}{pt}(p:ZW u=((n:Int),pt,0))
  (j:a+(n+1)<=I (Zw g k)) (A:((n+1:Nat):Int)<=Xh (Zv g)):fwd g (ZG (Zv g) k a)=(ZG (Zv g) 1<|I g.H,Yd g k a<|n+1,0):=by
 have r:=jw h (k:=k) (a:=a) Z0;have t:=WM h (k:=k) (a:=a) Z0;have w:=Td h (k:=k) (a:=a) Z0 (by grind [Uy]);have x:(Zw g k).getD a 0=u:=by simp[List.getD,B]
 have f:=CE h j A;have y:Y1 (Zv<|Xl g k a<|n+1) 1 (I g.H)=(ZD (Zv g) 1+I g.H,0):=by
  have:=TI f (k:=1) (a:=(I g.H:Int)) Z0 (by rw[RV j];simp[ZX,Z7m];omega);rw[this,RV j];rfl
 have d:=XW f 1;rw[RV j]at d;simp only[ZX,Z7m]at d;have l:ZD {Zv g with H:=(I g.H+(n+1):Nat)} 1=ZD (Zv g) 1:=rfl;rw[l]at d;have z:X6 (ZD (Zv g) 1+I g.H)=(ZG (Zv g) 1<|I g.H,0):=by
  unfold X6 ZG;rw[Z6h Z0]
 unfold fwd;have o:¬k<3:=Z0;simp only[h,r,t,w,Z6h o,Z96,Z7K,Z9L,Z9l,Z6p,x,q,p];unfold TW;rw[Z6h Z0,Z6h Z0];simp[y,z];rfl
theorem Ak{ws a}:∀n j,j<a\/a+n<=j->(zr ws a n)[j]?=ws[j]?
 |0,_,_=>rfl
 |n+1,j,h=>by
  unfold zr;rw[Z6W Z0];exact Ak n j Z0
def Jb{g k}(o:3<=k/\k<=4){a n}(p:0<n){j}(l:3<=j/\j<=4){b}(h:j≠k\/b<a\/a+n<=b):(Zw (Yd g k a n) j)[b]?=(Zw g j)[b]? :=by
 have f:k=3\/k=4:=Z0;have d:j=3\/j=4:=Z0;obtain rfl|rfl:=f<;>obtain rfl|rfl:=d<;>simp[Yd,Xl,SU]
 grind [Ak];grind [Ak]
def qi{g k}(l:3<=k/\k<=4){a n j}(h:3<=j/\j<=4):I (Zw (Yd g k a n) j)=I (Zw g j):=by
 have f:k=3\/k=4:=Z0;have d:j=3\/j=4:=Z0;obtain rfl|rfl:=f<;>obtain rfl|rfl:=d<;>simp[Yd,Xl]
def CA{g k}(h:3<=k/\k<=4){a n}(f:a+n<=I (Zw g k))(j:0<n):(Zw (Yd g k a n) k)[a]?=J (ZG (Zv g) 1<|I g.H):=by
 have d:k=3\/k=4:=Z0;obtain rfl|rfl:=d<;>simp[SU]at f<;>simp[Yd,SU]<;>exact Z7b (by rw[Kg];omega)
def Cz{g k}(h:3<=k/\k<=4){a n}(f:a+n<=I (Zw g k)):(Yd g k a n).H.length=I g.H+n/\(Yd g k a n).aa=g.aa:=by
 have d:k=3\/k=4:=Z0;obtain rfl|rfl:=d<;>simp[SU]at f<;>simp[Yd,Xl]<;>omega
end Vm
namespace Vm
open Go Go.Proofs
def jM{h ws low}:∀f i d l,WK h ws low f i d=J l->∃r,l=d++r
 |0,_,_,_,a=>by simp[WK]at a
 |f+1,i,d,l,a=>by
  unfold WK at a;split at a;cases a;exact⟨[],Z1⟩;split at a;split at a;cases a;let⟨r,g⟩:=jM f _ _ _ a;exact⟨_,by rw[g,Z6Y]⟩;split at a;exact jM f _ _ _ a;cases a
def LW{h ws low}:∀f i d k,WK h ws low f i d=J k->∀p g l,Xi ws k xk p i (I d) g=(l,0)->
  ∃r,l=g++r/\∀o∈r,o.gone=xk->∃q,YA h 1 low o.target=J q/\q.size=o.size/\q.Z=o.Z
 |0,_,_,_,j=>by simp[WK]at j
 |f+1,i,d,k,j=>by
  intro p g l a;cases p with
  |zero=>simp[Xi]at a
  |succ p=>
   unfold WK at j;unfold Xi at a;cases x:ws[i]? with
   |none=>
    simp_all
   |some w=>
    simp[x]at j a;by_cases t:(adr w).2=0;simp[t,Z7m]at j;cases B:YA h 1 low (adr w).1 with
    |none=>simp_all
    |some q=>
     simp[B]at j;let⟨r,C⟩:=jM _ _ _ _ j;have D:k[I d]?=J (q.size,q.Z):=by rw[C];simp
     unfold XZ at a;rw[Z6k ⟨rfl,t⟩]at a;simp[D]at a;by_cases u:Yo q.size q.Z=xk;rw[Z6k u]at a;simp only at a;split at a;simp at a;split at a;simp at a;have n:I d+1=I (d++[(q.size,q.Z)]):=Z1;rw[n]at a;let⟨F,z,A⟩:=LW f _ _ _ j _ _ _ a;grind;simp_all
    simp[t,Z7K]at j;by_cases y:(ZW w).2.2=0;simp[y,Z7m]at j;unfold XZ at a;rw[Z6h Z0,Z6k y]at a;simp only at a;split at a;simp at a;split at a;simp at a;let⟨F,z,A⟩:=LW f _ _ _ j _ _ _ a;simp_all;simp_all
def RightH.mz{h p}(r:RightH h p){k}(D:3<=k/\k<=4){o}(d:o∈p.at k)(A:o.gone=xk):∃q∈p.H,YP h 1 q.Y=o.target/\q.size=o.size/\q.Z=o.Z:=by
 have a:=r.eh;unfold Xd at a;dsimp only at a;split at a;cases a;split at a;cases a
 have f:∀g x,x=Va h g (ZQ h.H [] xw).1->¬x=U->(ZQ g (x.getD []) xk).2=0->o∈(ZQ g (x.getD []) xk).1->
   ∃q∈(ZQ h.H [] xw).1,YP h 1 q.Y=o.target/\q.size=o.size/\q.Z=o.Z:=by
  intro g x C F n d;obtain _|j:=x;simp_all;simp[Z6K]at n d;let⟨H,l,t⟩:=LW _ _ _ _ C.symm _ [] (ZQ g j xk).1<|Z8P rfl n;simp[Z70]at l;rw[l]at d;let⟨q,B,G⟩:=t o d A;have:=Z91 B;grind [AS]
 have u:¬Va h h.ad (ZQ h.H [] xw).1=U:=Z5i;have w:¬Va h h.ae (ZQ h.H [] xw).1=U:=Z5i;have y:(ZQ h.ad ((Va h h.ad (ZQ h.H [] xw).1).getD []) xk).2=0:=Z0;have z:(ZQ h.ae ((Va h h.ae (ZQ h.H [] xw).1).getD []) xk).2=0:=Z0;cases a;have:k=3\/k=4:=Z0;obtain rfl|rfl:=this;exact f _ _ rfl u y Z5E;exact f _ _ rfl w z Z5E
def G6{l o}(h:o∈l):Wc o<=Yi l:=by
 unfold Yi;induction l with
 |nil=>simp at h
 |cons x l a=>
  grind
def Z1l{p k}(a:3<=k/\k<=4){o}(h:o∈p.at k):Wc o<=Yt p:=by
 have:k=3\/k=4:=Z0;unfold Yt;obtain rfl|rfl:=this;have:=G6 (l:=p.ad) h;omega;have:=G6 (l:=p.ae) h;omega
def PW{l}(d:ZC l=xk){k j a b}(o:1<=k/\k<=4)(n:1<=j/\j<=4)(f:0<=a/\a<ZX l k)(g:0<=b/\b<ZX l j)(h:ZG l k a=ZG l j b):k=j/\a=b:=by
 have p:=Td d o f;have q:=Td d n g;have:ZD l k+a=ZD l j+b:=by unfold ZG at h;omega
 simp_all
def Ad{u a}(d:(adr u).2=0)(h:(adr u).1=a):u=2*a+1:=by
 unfold adr at d h;grind
def AI{u}(h:(ZW u).2.2=0):¬(adr u).2=0:=by
 unfold ZW at h;split at h;rename_i a;unfold adr;grind;grind
end Vm
namespace Vm
open Go Go.Proofs
end Vm
end
section
namespace Vm
open Go Go.Proofs
def Vj(l:Z8):List<|Int×Int:=(l.filter λo=>o.gone).map λo=>(o.size,o.Z)
def FT{ws:Z5}{shs:List (Int×Int)}{old:Bool}:∀(l:Z8) (f a k:Nat) (g:Z8),Tiles ws old a l->I ws<f+a->0<f->shs.drop k=Vj l->Xi ws shs old f a k g=(g++l,0)
 | [],f,a,k,g,D,M,K,B=>by
   obtain⟨f,rfl⟩:∃C,f=C+1:=⟨f-1,Z0⟩;have:I ws<=a:=D;have r:I shs<=k:=List.drop_eq_nil_iff.1 B;rw[Xi,Z6X this];simp only;rw[Z6h Z0,Z7u]
 |o::l,f,a,k,g,D,M,K,B=>by
  obtain⟨f,rfl⟩:∃C,f=C+1:=⟨f-1,Z0⟩;obtain⟨t,r,L⟩:=D;obtain⟨w,F,j⟩:=r.cm;have O:=Yq.1 r.shape;have u:=r.ah;have q:=r.ew;rw[t]at F u q;simp only[Z6p]at F q;have z:∀d:Nat,shs.drop d=Vj l->Xi ws shs old f (a+1+o.size.toNat) d (g++[o])=(g++o::l,0):=λd p=>by
   rw[FT l f _ d _ L Z0 Z0 p];simp
  have y:∃d,XZ shs old a k w=J (o,d)/\shs.drop d=Vj l:=by
   unfold XZ;cases n:o.gone;rw[n]at j;simp only[Z73,Z7K]at j;rw[Z6h (λh=>j.1 h.1 h.2),j.2.1];refine⟨k,?_,?_⟩;simp only[Z7m];obtain⟨P,R,op,Q,S⟩:=o;simp only at n t j⊢;rw[n,t,j.2.2];rw[B];simp[Vj,n];rw[n]at j;simp only[Z7m]at j;rw[Z6k ⟨j.1,j.2.1⟩];have A:shs.drop k=(o.size,o.Z)::Vj l:=by rw[B];simp[Vj,n]
   have x:k<I shs:=by
    have:=Z7J List.length A;simp at this;omega
   rw[Z7a x]at A;have G:=(List.cons.inj A).1;have H:=(List.cons.inj A).2;rw[Z6b x,G];simp only[r.shape,Z7m];refine⟨k+1,?_,H⟩;obtain⟨P,R,op,Q,S⟩:=o;simp only at n t j⊢;rw[n,t,j.2.2]
  obtain⟨d,N,p⟩:=y;rw[Xi,F];simp only;rw[N];simp only;rw[Z6h Z0,Z6h (by rw[q];simp)];exact z d p
def Kc{ws:Z5}{shs:List (Int×Int)}{old:Bool}{l:Z8}(d:Tiles ws old 0 l)(a:shs=Vj l):ZQ ws shs old=(l,0):=by
 unfold ZQ;rw[FT l (I ws+1) 0 0 [] d Z0 Z0 (by simpa using a),Z70]
def Rp(h:Hp)(low l:Z8):Prop:=∀o∈l,o.gone=xk->∃q,YA h 1 low o.target=J q/\q.size=o.size/\q.Z=o.Z
def LV{h:Hp}{ws:Z5}{low:Z8}:∀(l:Z8) (f i:Nat) (a:List<|Int×Int),Tiles ws xk i l->I ws<f+i->0<f->Rp h low l->WK h ws low f i a=J (a++Vj l)
 | [],f,i,a,u,D,B,r=>by
   obtain⟨f,rfl⟩:∃n,f=n+1:=⟨f-1,Z0⟩;have:I ws<=i:=u;rw[WK,Z6X this];simp[Vj]
 |o::l,f,i,a,u,D,B,r=>by
  obtain⟨f,rfl⟩:∃n,f=n+1:=⟨f-1,Z0⟩;obtain⟨C,p,y⟩:=u;obtain⟨w,x,g⟩:=p.cm;have F:=Yq.1 p.shape;have j:=p.ah;rw[C]at x j;simp only[Z6p]at x;have k:Rp h low l:=λq t=>r q<|Z76 _ t;rw[WK,x];simp only;cases d:o.gone;rw[d]at g;simp only[Z73,Z7K,true_implies]at g;rw[Z6h g.1,g.2.1];simp only[Z7m];rw[LV l f _ a y Z0 Z0 k];simp[Vj,d];rw[d]at g;simp only[Z7m,true_and]at g;rw[Z6k g.1];obtain⟨q,t,z,A⟩:=r o (.head _) d;rw[<-g.2,t];simp only;rw[z,A,LV l f _ _ y Z0 Z0 k];simp[Vj,d]
def E7{h:Hp}{p:Pts}(d:Tiles h.H xw 0 p.H)(h2:Tiles h.aa xw 0 p.aa)(f:Tiles h.ad xk 0 p.ad)(g:Tiles h.ae xk 0 p.ae)(q:Rp h p.H p.ad)(r:Rp h p.H p.ae):Xd h=J p:=by
 have k:∀ {n:Z5} {a:Nat} {l:Z8},Tiles n xw a l->Vj l=[]:=λ{n a l} x=>by
  unfold Vj;rw[List.map_eq_nil_iff,Z8M];intro o u t;obtain⟨w,_,j⟩:=(x.aq o u).1.cm;rw[Z6k t]at j;cases j.1
 unfold Xd;rw[Kc d (k d).symm,Kc h2 (k h2).symm];unfold Va;simp only[Z9L,Z9l,or_self,Z7K];rw[LV p.ad _ 0 [] f Z0 Z0 q,LV p.ae _ 0 [] g Z0 Z0 r];simp only[Z70,Z6K];rw[Kc f rfl,Kc g rfl];simp
def ES{h:Hp}{p:Pts}(a:UV h=xk)(d:Xd h=J p)(f:Tr h p=xk):Yp h=xk:=by
 unfold Yp;rw[a,d];simpa using f
def AT{h:Hp}{k:Int}{l:Z8}{o:Ob}(a:o∈l)(f:∀q∈l,YP h k q.Y=YP h k o.Y->q=o):YA h k l (YP h k o.Y)=J o:=by
 unfold YA;induction l with
 |nil=>simp at a
 |cons x l j=>
  rw[List.find?_cons];by_cases d:YP h k x.Y=YP h k o.Y;rw[f x (.head _) d];simp;have:(YP h k x.Y==YP h k o.Y)=xw:=Z5E;rw[this];obtain rfl|a:=Z6S.1 a;exact absurd rfl d;exact j a λq g=>f q<|Z76 _ g
def zJ{h:Hp}{k:Int}{l:Z8}{a:Int}:(YA h k l a).isSome=xk↔ ∃o∈l,YP h k o.Y=a:=by
 unfold YA;rw[List.find?_isSome];simp
section
structure Tld (h:Hp) (p:Pts):Prop where
 al:ZC (Zv h)=xk
 af:∀k:Int,1<=k/\k<=4->Tiles (Zw h k) (decide (2<k)) 0 (p.at k)
def Gos(h:Hp)(p:Pts)(w one a:Int):Prop:=w=0\/∃k o,(k=one\/k=a)/\o∈p.at k/\w=ZG (Zv h) k o.Y
def Yz(h:Hp)(p:Pts)(k:Int)(i:Nat)(w:Int):Prop:=if 2<k then Gos h p w 3 4 else if k=1/\h.O<=i then Gos h p w 1 2\/Gos h p w 3 4 else Gos h p w 1 2
section
variable {h:Hp}{p:Pts}
def Tld.ob(t:Tld h p){k:Int}(g:1<=k/\k<=4){o:Ob}(j:o∈p.at k):∃a n m:Nat,o.Y=a/\o.size=n/\o.Z=m/\a+(n+1)<=I (Zw h k)/\n<=255/\m<=n:=by
 have d:=((t.af k g).aq o j).1;have f:=Yq.1 d.shape;obtain⟨a,l⟩:=Z6q d.gd;obtain⟨n,r⟩:=Z6q f.1;obtain⟨m,q⟩:=Z6q f.2.2.1;have:=d.ah;grind
def Tld.start(t:Tld h p){k:Int}(d:1<=k/\k<=4){o:Ob}(f:o∈p.at k):YP h k o.Y=ZD (Zv h) k+o.Y:=by
 obtain⟨a,n,m,g,_,_,j,_⟩:=t.ob d f;unfold YP;rw[TI t.al d (by grind [Uy])]
def Tld.cy(t:Tld h p){k:Int}(d:1<=k/\k<=4){o q:Ob}(f:o∈p.at k)(g:q∈p.at k)(e:q.Y=o.Y):q=o:=by
 rcases(t.af k d).apart q g o f with a|a|a;exact a;have:=Yq.1 ((t.af k d).aq q g).1.shape;omega;have:=Yq.1 ((t.af k d).aq o f).1.shape;omega
def Tld.find(t:Tld h p){k:Int}(a:1<=k/\k<=4){o:Ob}(d:o∈p.at k):YA h k (p.at k) (ZD (Zv h) k+o.Y)=J o:=by
 rw[<-t.start a d];refine AT d λq f e=>t.cy a d f ?_;rw[t.start a d,t.start a f]at e;omega
def Tld.inj(t:Tld h p){k j:Int}(d:1<=k/\k<=4)(f:1<=j/\j<=4){o q:Ob}(g:o∈p.at k)(l:q∈p.at j)(e:ZG (Zv h) k o.Y=ZG (Zv h) j q.Y):k=j/\o=q:=by
 obtain⟨a,n,m,x,_,_,z,_⟩:=t.ob d g;obtain⟨b,B,A,y,_,_,w,_⟩:=t.ob f l;obtain⟨r,u⟩:=PW t.al d f (by grind [Uy]) (by grind [Uy]) e;subst r;exact⟨rfl,t.cy d l g u⟩
def Tld.lv(t:Tld h p){k:Int}(d:1<=k/\k<=4){o:Ob}(f:o∈p.at k):adr (ZG (Zv h) k o.Y)=(ZD (Zv h) k+o.Y,0):=by
 obtain⟨a,n,m,g,_⟩:=t.ob d f;exact WM t.al Z0
def Tld.md(t:Tld h p){k:Int}(d:1<=k/\k<=4){w:Int}(f:(Vm.adr w).2=0):(YA h k (p.at k) (Vm.adr w).1).isSome=xk↔ ∃o∈p.at k,w=ZG (Zv h) k o.Y:=by
 rw[zJ];constructor;rintro⟨o,a,e⟩;rw[t.start d a]at e;exact⟨o,a,Ad f e.symm⟩;rintro⟨o,a,rfl⟩;exact⟨o,a,by rw[t.lv d a,t.start d a]⟩
def Tld.dw(t:Tld h p){i j:Int}(g:1<=i/\i<=4)(l:1<=j/\j<=4){w:Int}:Xs h p w i j=xk↔Gos h p w i j:=by
 unfold Xs Gos;by_cases d:w=0;simp[d];by_cases a:(Vm.adr w).2=0;simp only[d,a,Z9J,Z9b,Z8V,Z8u,Z6z,false_or,t.md g a,t.md l a];simp;simp only[d,a,Z9b,Z9c,Bool.or_self,Z73,false_or,false_iff];rintro⟨k,o,n,q,rfl⟩;have f:1<=k/\k<=4:=by obtain rfl|rfl:=n<;>assumption
 exact a (by rw[t.lv f q])
def Fi:∀ {l:Z5} {a:Int} {i:Nat},Xp l xk a i=xk->∀w∈l,w=0
 | [],_,_,_,w,d=>by simp at d
 |y::l,a,i,f,w,d=>by
  simp only[Xp,Z6l]at f;obtain rfl|d:=Z6S.1 d;have g:=f.1;simp at g;exact g.1;exact Fi f.2 w d
def Tld.se(t:Tld h p){k:Int}(d:1<=k/\k<=4){o:Ob}(f:o∈p.at k){j:Nat}(x:(j:Int)<o.size):∃w,(Zw h k)[o.Y.toNat+1+j]?=J w/\(o.gone=xk->w=0):=by
 obtain⟨a,n,m,l,u,z,y,_⟩:=t.ob d f;have r:a+1+j< I (Zw h k):=Z0;refine⟨(Zw h k)[a+1+j],Z5i,λq=> ?_⟩;have g:=((t.af k d).aq o f).1.ew;rw[q]at g;refine Fi g _ ?_;rw[l,u,Z6p,Z6p];refine Z6n (i:=j) ?_;simp_all
end
structure Body (h:Hp) (p:Pts):Prop extends Tld h p where
 gone:∀k:Int,3<=k/\k<=4->∀o∈p.at k,o.gone=xk->∃q∈p.H,o.target=ZD (Zv h) 1+q.Y/\q.size=o.size/\q.Z=o.Z
 ptr:∀k:Int,1<=k/\k<=4->∀o∈p.at k,o.gone=xw->∀j:Nat,(j:Int)<o.Z->∀w,(Zw h k)[o.Y.toNat+1+j]?=J w->Yz h p k (o.Y.toNat+1+j) w
 cx:(I h.H:Int)+I h.aa+Yt p<=h.cap
structure Rt (h:Hp) (p:Pts):Prop extends Body h p where
 dj:I h.E<=16
 dq:0<=h.O
 cz:h.O<=I h.H
 fq:h.M=xk->h.O<I h.H
 df:h.M=xw->h.O=I h.H/\h.ad=[]/\h.ae=[]
 dt:h.M=xk->∀o∈p.H,U4 p (ZD (Zv h) 1+o.Y)=1
 E:∀w∈h.E,Gos h p w 1 2
section
variable {h:Hp}{p:Pts}
def Ar(t:Tld h p){k:Int}{i:Nat}{w:Int}(a:(Zw h k)[i]?=J w):VG h p k i=xk↔Yz h p k i w:=by
 unfold VG Yz;simp only[a,Z6K];split;exact t.dw Z0 Z0;split;rw[Z6z,t.dw Z0 Z0,t.dw Z0 Z0];exact t.dw Z0 Z0
theorem At(k:Int)(i:Nat):Yz h p k i 0:=by
 unfold Yz;split;exact .inl rfl;split;exact .inl<|.inl rfl;exact .inl rfl
def Ey(t:Tld h p){k:Int}(g:1<=k/\k<=4):Wm h p k=xk↔ ∀o∈p.at k,o.gone=xw->∀j:Nat,(j:Int)<o.Z->∀w,(Zw h k)[o.Y.toNat+1+j]?=J w->Yz h p k (o.Y.toNat+1+j) w:=by
 unfold Wm Lb;simp only[Z6y,Z8A];constructor;intro l o d _ j q w f;exact(Ar t f).1 (l o d j Z0);intro l o d j q;obtain⟨a,n,m,r,y,x,u,_⟩:=t.ob g d;obtain⟨w,f,z⟩:=t.se g d (j:=j) Z0;refine(Ar t f).2 ?_;grind [At]
def RightH.tl(r:RightH h p):Tld h p:=⟨r.al,λk a=>r.af a⟩
def RightH.rt(r:RightH h p):Rt h p:=by
 have t:=r.tl;have j:=r.da;have a:=r.ok;unfold UV at j;unfold Tr at a;simp only[Z6l,Z6J]at j a;obtain⟨⟨⟨⟨G,A⟩,B⟩,C⟩,H⟩:=j;obtain⟨⟨⟨⟨⟨⟨l,D⟩,K⟩,L⟩,M⟩,N⟩,F⟩:=a;have f:∀k:Int,1<=k/\k<=4->Wm h p k=xk:=λk d=>by
  have:k=1\/k=2\/k=3\/k=4:=Z0;grind
 refine⟨⟨t,λk d o a y=> ?_,λk d=>(Ey t d).1<|f k d,F⟩,A,B,C,λg=> ?_,λg=> ?_,λg o a=> ?_,λw z=> ?_⟩;obtain⟨q,n,e,u,x⟩:=r.mz d a y;exact⟨q,n,by rw[<-e,t.start (k:=1) Z0 n],u,x⟩;simp_all;simp_all;rw[g]at l;simp only[Z9n,Z8V,Z6y]at l;have:=l o a;unfold Se at this;rw[t.start (k:=1) Z0 a]at this;simp_all;exact(t.dw Z0 Z0).1 (Z6y.1 D w z)
def Rt.eh(r:Rt h p):Xd h=J p:=by
 have g:∀k:Int,3<=k/\k<=4->Rp h p.H (p.at k):=λk j o l f=>by
  obtain⟨q,n,e,a,d⟩:=r.gone k j o l f;exact⟨q,by rw[e];exact r.toTld.find (k:=1) Z0 n,a,d⟩
 exact E7 (r.af 1 Z0) (r.af 2 Z0) (r.af 3 Z0) (r.af 4 Z0) (g 3 Z0)<|g 4 Z0
def Rt.right(r:Rt h p):Yp h=xk:=by
 have t:=r.toTld;refine ES ?_ r.eh ?_;unfold UV;simp only[Z6l,Z6J];refine⟨⟨⟨⟨r.al,r.dj⟩,r.dq⟩,r.cz⟩,?_⟩;cases a:h.M;obtain⟨l,n,q⟩:=r.df a;simp_all;simp[r.fq a];unfold Tr;simp only[Z6l,Z6J];have d:=λk f=>(Ey t f).2<|r.ptr k f;refine⟨⟨⟨⟨⟨⟨?_,?_⟩,d 1 Z0⟩,d 2 Z0⟩,d 3 Z0⟩,d 4 Z0⟩,r.cx⟩;cases a:h.M;rfl;simp only[Z9n,Z8V,Z6y];intro o g;unfold Se;rw[t.start (k:=1) Z0 g,Z6J];exact r.dt a o g;rw[Z6y];exactλw j=>(t.dw Z0 Z0).2<|r.E w j
def Sa:Yp h=xk↔ ∃p,Rt h p:=
 ⟨λa=>by obtain⟨p,r⟩:=u4 a;exact⟨p,r.rt⟩,λ⟨p,r⟩=>r.right⟩
def Rt.dn{q:Pts}(r:Rt h p)(s:Rt h q):q=p:=by
 have:=r.eh;rw[s.eh]at this;simp_all
def Rt.sk(r:Rt h p):Ka h=Yt p:=by
 unfold Ka;rw[Z6k r.right,r.eh];rfl
end
end
section
def VJ(l:Z8):Nat:=(l.map λo=>1+o.size.toNat).sum
def Tiles.sum{ws old}:∀ {a} {l:Z8},Tiles ws old a l->a<=I ws->a+VJ l=I ws
 |a,[],h,d=>by have:I ws<=a:=h;simp[VJ];omega
 |a,o::l,h,d=>by
  have g:=Yq.1 h.2.1.shape;have f:=h.2.1.ah;rw[h.1]at f;have:=Tiles.sum h.2.2 Z0;simp[VJ]at this⊢;omega
def Tiles.ox{ws old l}(h:Tiles ws old (I ws) l):l=[]:=by
 obtain _|⟨o,l⟩:=l;rfl;have d:=Yq.1 h.2.1.shape;have a:=h.2.1.ah;rw[h.1]at a;omega
def Tiles.ru{ws d old}:∀ {a} {l j:Z8},Tiles ws old a l->Tiles d old a j->(∀i,i<I ws->d[i]?=ws[i]?)->I ws<=I d->
  (∀o∈l,∀q∈j,o.gone=xk->q.gone=xk->o.target=q.target->o.size=q.size/\o.Z=q.Z)->a<=I ws->∃r,j=l++r/\Tiles d old (I ws) r
 |a,[],j,h,k,_,_,_,p=>by
  have:I ws<=a:=h;grind
 |a,o::l,[],h,k,_,z,_,p=>by
  have H:=Yq.1 h.2.1.shape;have t:=h.2.1.ah;have e:=h.1;have:I d<=a:=k;omega
 |a,o::l,q::j,h,k,A,z,G,p=>by
  let⟨B,n,C⟩:=h;let⟨M,N,O⟩:=k;have H:=Yq.1 n.shape;have t:=n.ah;let⟨w,g,D⟩:=n.cm;let⟨u,f,F⟩:=N.cm;rw[B]at g t;rw[M]at f;simp[Z6p]at g f;rw[A a Z0,g]at f;have e:o=q:=by
   let⟨T,W,op,P,X⟩:=o;let⟨Y,qs,Z,Q,qt⟩:=q;cases P<;>cases Q<;>simp at D F
   simp_all;simp_all;simp_all;simp_all
  subst e;let⟨r,R,S⟩:=Tiles.ru C O A z (λx K y L=>G x (.tail _ K) y<|.tail _ L) Z0;simp_all
def Tiles.dn{ws old l a}(h:Tiles ws old 0 l)(h':Tiles ws old 0 a)(g:∀o∈l,∀q∈a,o.gone=xk->q.gone=xk->o.target=q.target->o.size=q.size/\o.Z=q.Z):a=l:=by
 let⟨r,d,f⟩:=h.ru h' Z1 Z0 g Z0;rw[d,f.ox,Z7u]
def Tiles.bi{ws a l}(h:Tiles ws xw a l):∀o∈l,o.gone=xw:=λo d=>by
 let⟨w,_,f⟩:=(h.aq o d).1.cm;simp_all
def Tiles.mc{ws l f}(h:Tiles ws xw 0 l)(h':Tiles ws xw 0 f):=h.dn h' λo d q g a=>by rw[h.bi o d]at a;cases a
def yu(l:Z8):Nat:=(l.map λo=>if o.gone then 1+o.size.toNat else 0).sum
def Z1E l:Yi l+yu l=VJ l:=by
 induction l with
 |nil=>rfl
 |cons o l a=>
  simp[Yi,yu,VJ,Wc]at a⊢;cases o.gone<;>simp<;>omega
def Z0R{L:Z8}{f}(h:∀o∈L,f o=0):(L.map f).sum=0:=by
 induction L with
 |nil=>rfl
 |cons x L a=>simp_all
section
variable {h:Hp}{p:Pts}
def Tld.mf(t:Tld h p){o}(d:o∈p.H):0<=o.Y/\o.Y<I h.H:=by
 let⟨a,n,m,f,_,_,g,_⟩:=t.ob (k:=1) Z0 d;grind [Xn]
def Tiles.ff{ws old}:∀ {a} {l:Z8},Tiles ws old a l->l.Pairwise λx y=>x.Y<y.Y
 |_,[],_=>.nil
 |a,o::l,h=>by
  refine .cons (λy d=> ?_)<|Tiles.ff h.2.2;have:=(Tiles.aq h.2.2 y d).2;rw[h.1];omega
def Tiles.nil{old l}(h:Tiles [] old 0 l):=Tiles.ox (ws:=[]) h
def Gos.ss(t:Tld h p){w i j}(r:1<=i/\i<=4)(u:1<=j/\j<=4)(l:Gos h p w i j):w=0\/∃k,1<=k/\k<=4/\(k=i\/k=j)/\∃o∈p.at k,(adr w).2=0/\(adr w).1=ZD (Zv h) k+o.Y/\o.Y<ZX (Zv h) k/\0<=o.Y:=by
 obtain rfl|⟨k,o,g,f,rfl⟩:=l;omega;have d:1<=k/\k<=4:=by obtain rfl|rfl:=g<;>assumption
 let⟨a,n,m,q,_,_,x,_⟩:=t.ob d f;exact .inr ⟨k,d.1,d.2,g,o,f,by rw[t.lv d f],by rw[t.lv d f],by grind [Uy],Z0⟩
end
end
section
def Lv{h:Hp}{k j:Int}(g:1<=k/\k<=4)(f:1<=j/\j<=4)(l:Z5):Zw (Yr h k l) j=if j=k then l else Zw h j:=by
 have a:k=1\/k=2\/k=3\/k=4:=Z0;have d:j=1\/j=2\/j=3\/j=4:=Z0;obtain rfl|rfl|rfl|rfl:=a<;>obtain rfl|rfl|rfl|rfl:=d<;>rfl
def ZT(b:Bt)(i:Nat):Nd:=(b.g.nodes[i]?).getD default
def ZH(b:Bt)(i:Nat):Pl:=(b.ap[i]?).getD ⟨0,0⟩
def Y8(b:Bt)(i:Nat):Pl:=(b.ad[i]?).getD ⟨0,0⟩
def QZ(n:Nd):Int:=(Xg ((I n.Z:Int)+I n.data)<|I n.Z).1
def XH(b:Bt)(p:Pl)(n:Nd)(tw:Int):List Int:=QZ n::(XL b p p.Y.toNat n.Z tw++n.data)
def Vi(b:Bt)(p:Pl)(n:Nd):List Int:=YC b.h p::List.replicate (ZN n-1) 0
def YL(b:Bt)(x:Rw)(k:Int)(i:Nat):List Int:=
 if(ZH b i).part=k then XH b (ZH b i) (ZT b i)<|IntKind.i64.wrap<|x.ba+i
 else if(Y8 b i).part=k then(if(ZH b i).part=0 then XH b (Y8 b i) (ZT b i) 0 else Vi b (ZH b i)<|ZT b i)
 else []
def YT(b:Bt)(x:Rw)(k:Int)(i:Nat):List Int:=(List.range i).flatMap<|YL b x k
theorem Vy(b:Bt)(x:Rw)(k:Int)(i:Nat):YT b x k (i+1)=YT b x k i++YL b x k i:=by
 simp_all[YT,Z8J,Z8k]
theorem VW(b:Bt)(p:Pl)(n:Nd)(tw:Int):I (XH b p n tw)=ZN n:=by
 grind [XH,XL,ZN]
theorem SC(b:Bt)(p:Pl)(n:Nd):I (Vi b p n)=ZN n:=by
 grind [Vi,ZN]
structure Placed (b:Bt) (x:Rw):Prop where
 ok:BOk b
 ap:∀i,i<I b.g.nodes->(ZH b i=⟨0,0⟩/\∃k:Int,(k=3\/k=4)/\(Y8 b i).part=k)\/(((ZH b i).part=1\/(ZH b i).part=2)/\(ZH b i).Y=(I (YT b x (ZH b i).part i):Nat))
 ad:∀i,i<I b.g.nodes->Y8 b i=⟨0,0⟩\/(((Y8 b i).part=3\/(Y8 b i).part=4)/\(Y8 b i).Y=(I (YT b x (Y8 b i).part i):Nat)/\(ZH b i).part≠2)
 zero:∀k:Int,1<=k/\k<=4->Zw b.h k=List.replicate (I<|YT b x k<|I b.g.nodes) 0
section
variable {b d:Bt}{x:Rw}
def ju(a:Like b d)(p:Pl):YC d.h p=YC b.h p:=by
 unfold YC;rw[a.al]
theorem Z0y(a:Like b d)(p:Pl)(to tw:Int):WV d p to tw=WV b p to tw:=by
 unfold WV;rw[a.ap,a.ad,a.O,ju a,ju a]
def C4(a:Like b d)(p:Pl)(n:Nd)(tw:Int):XH d p n tw=XH b p n tw:=by
 grind [XH,XL,Z0y]
def yO{p:Pl}{a m:Nat}{n:Nd}{tw:Int}{F:Z5}(k:Zw d.h p.part=F++List.replicate m 0)(g:I F=a)(f:p.Y.toNat=a)(j:ZN n<=m):Th d p a n tw=F++XH d p n tw++List.replicate (m-ZN n) 0:=by
 simp_all[Th,List.replicate,ZN,Z9r,Z7R,XH,QZ]
def Z0o{F:Z5}{a m s:Nat}{w:Int}(d:I F=a)(h:1<=s)(g:s<=m):(F++List.replicate m (0:Int)).set a w=F++(w::List.replicate (s-1) 0)++List.replicate (m-s) 0:=by
 rw[<-d,Z9A _ _<|Z6i _,Z80];obtain⟨m,rfl⟩:∃f,m=f+1:=⟨m-1,Z0⟩;rw[List.replicate_succ,Z7U,Z6Y];congr 1;simp;omega
def QH(b:Bt)(x:Rw)(k:Int){i j:Nat}(h:i<=j):∃r,YT b x k j=YT b x k i++r:=by
 induction j with
 |zero=>simp_all
 |succ j d=>
  by_cases a:i=j+1;simp_all;grind [YL,Vy,List.append_assoc]
def zA(b:Bt)(x:Rw)(i:Nat)(d:Bt):Prop:=∀k:Int,1<=k/\k<=4->Zw d.h k=YT b x k i++List.replicate (I (YT b x k<|I b.g.nodes)- I (YT b x k i)) 0
def jy(b:Bt)(x:Rw)(k:Int){i:Nat}(a:i<I b.g.nodes):I (YT b x k i)+I (YL b x k i)<=I (YT b x k<|I b.g.nodes):=by
 obtain⟨r,d⟩:=QH b x k (Z0:i+1<=I b.g.nodes);grind [Vy]
def Mb(C:Placed b x){i:Nat}(G:i<I b.g.nodes)(z:Like b d)(w:zA b x i d):zA b x (i+1)<|RF x d i:=by
 have T:(d.g.nodes[i]?).getD default=ZT b i:=by rw[z.g];rfl
 have X:(d.ap[i]?).getD ⟨0,0⟩=ZH b i:=by rw[z.ap];rfl
 have W:(d.ad[i]?).getD ⟨0,0⟩=Y8 b i:=by rw[z.ad];rfl
 unfold RF;simp only[T,X,W];have Z:=C.ap i G;have Q:=C.ad i G;have r:=λk=>jy b x k G;have j:∀k,YL b x k i=if(ZH b i).part=k then XH b (ZH b i) (ZT b i) (IntKind.i64.wrap<|x.ba+i)else if(Y8 b i).part=k then(if(ZH b i).part=0 then XH b (Y8 b i) (ZT b i) 0 else Vi b (ZH b i)<|ZT b i)else []:=λk=>rfl
 have R:=VW b (ZH b i) (ZT b i)<|IntKind.i64.wrap<|x.ba+i;have l2:=VW b (Y8 b i) (ZT b i) 0;have l3:=SC b (ZH b i)<|ZT b i;have O:=C4 z (ZH b i) (ZT b i)<|IntKind.i64.wrap<|x.ba+i;have S:=C4 z (Y8 b i) (ZT b i) 0;generalize ZH b i=p at*;generalize Y8 b i=o at*;generalize ZT b i=n at*;have N:1<=ZN n:=by unfold ZN;omega
 obtain⟨rfl,ko,a,P⟩|⟨hp,Y⟩:=Z
 ·
  have K:(o.part=3\/o.part=4)/\o.Y=(I (YT b x o.part i):Nat):=by
   obtain rfl|⟨h1,h2,_⟩:=Q;grind;omega
  have D:VP x d i n ⟨0,0⟩=d:=by unfold VP;rw[Z6h Z1]
  have F:VR d n ⟨0,0⟩ o=XY d o n 0:=by unfold VR;rw[Z6k ⟨Z0,rfl⟩]
  have A:∀q,Vz q ⟨0,0⟩ o=q:=λq=>by simp_all[Vz,Z6h]
  rw[D,F,A];intro k t;have l:YL b x o.part i=XH b o n 0:=by rw[j,Z6h Z5h,Z6k rfl,Z6k rfl]
  have y:=r o.part;rw[l,l2]at y;unfold XY;simp only;rw[Lv Z0 t];by_cases a:k=o.part;rw[Z6k a,a,yO (w o.part Z0) Z0 rfl Z0,Vy,l,S];grind;rw[Z6h a,Vy,j k,Z6h Z5h,Z6h (λh=>a h.symm),Z7u];exact w k t
 have L:¬p.part=0:=Z0;have D:VP x d i n p=XY d p n (IntKind.i64.wrap<|x.ba+i):=by unfold VP;rw[Z6k Z0]
 have F:∀q,VR q n p o=q:=λq=>by simp_all[VR,Z6h]
 rw[D,F];have B:YL b x p.part i=XH b p n (IntKind.i64.wrap<|x.ba+i):=by rw[j,Z6k rfl]
 have M:=r p.part;rw[B,R]at M;have u:∀k:Int,1<=k/\k<=4->Zw (XY d p n<|IntKind.i64.wrap<|x.ba+i).h k=if k=p.part then YT b x p.part (i+1)++List.replicate (I (YT b x p.part<|I b.g.nodes)- I (YT b x p.part<|i+1)) 0 else Zw d.h k:=by
  intro k t;unfold XY;simp only;rw[Lv Z0 t];by_cases f:k=p.part;rw[Z6k f,Z6k f,yO (w p.part Z0) Z0 rfl Z0,Vy,B,O];grind;simp_all
 have H:YC (XY d p n<|IntKind.i64.wrap<|x.ba+i).h p=YC b.h p:=by
  unfold YC;have:Zv (XY d p n<|IntKind.i64.wrap<|x.ba+i).h=Zv b.h:=by
   rw[<-z.al];unfold XY;simp only;refine Qs ?_;rw[yO (w p.part Z0) Z0 rfl Z0,w p.part Z0,O];simp[R];omega
  rw[this]
 generalize XY d p n (IntKind.i64.wrap<|x.ba+i)=q at*;obtain rfl|⟨a0,K,a1⟩:=Q;have A:Vz q p ⟨0,0⟩=q:=by simp_all[Vz,Z6h]
 rw[A];intro k t;rw[u k t];by_cases f:k=p.part;simp_all;rw[Z6h f,Vy,j k,Z6h (λh=>f h.symm),Z6h Z5h,Z7u];exact w k t;have A:Vz q p o= {q with h:=Yr q.h o.part ((Zw q.h o.part).set o.Y.toNat<|YC q.h p)}:=by unfold Vz;rw[Z6k ⟨Z0,Z0⟩]
 rw[A];have l:YL b x o.part i=Vi b p n:=by rw[j,Z6h Z0,Z6k rfl,Z6h L]
 have y:=r o.part;rw[l,l3]at y;intro k t;simp only;rw[Lv Z0 t,u o.part Z0,Z6h (Z0:¬o.part=p.part),w o.part Z0,H];by_cases a:k=o.part;rw[Z6k a,a,Z0o Z0 N Z0,Vy,l];grind [Vi];rw[Z6h a,u k t];by_cases f:k=p.part;simp_all;rw[Z6h f,Vy,j k,Z6h (λh=>f h.symm),Z6h (λh=>a h.symm),Z7u];exact w k t
def Bn(a:Placed b x):∀i,i<=I b.g.nodes->zA b x i (VQ x b i)
 |0,_=>by
  intro k d;rw[VQ,a.zero k d];simp[YT]
 |i+1,f=>by
  rw[VQ];exact Mb a Z0 (J5 a.ok i Z0)<|Bn a i Z0
def Bm(a:Placed b x){k:Int}(d:1<=k/\k<=4):Zw (Yn x b) k=YT b x k (I b.g.nodes):=by
 have h:=Bn a (I b.g.nodes) (Z6i _) k d;rw[Z80,List.replicate_zero,Z7u]at h;rw[<-h];rfl
end
end
section
def SD(x:Rw)(c:Bool)(g:Gr)(i:Nat):Pl:=if WD x i c=0 then⟨2,(Y5 x c g i).n2⟩else if WD x i c=1 then⟨1,(Y5 x c g i).n1⟩else⟨0,0⟩
def Q3(x:Rw)(c:Bool)(g:Gr)(i:Nat):Pl:=if(decide (0<WD x i c)&&c)=xk then(if Wf x i then⟨4,(Y5 x c g i).n4⟩else⟨3,(Y5 x c g i).n3⟩)else⟨0,0⟩
def jV{x:Rw}{c:Bool}{g:Gr}(d:∀n∈g.nodes,ZN n<=9):∀j,j<=I g.nodes->∀i,i<j->(Y5 x c g j).ap[i]?=J (SD x c g i)/\(Y5 x c g j).ad[i]?=J (Q3 x c g i)
 |0,_,i,f=>Z0
 |j+1,l,i,f=>by
  obtain⟨_,_,h,k⟩:=Ql (x:=x) (cycle:=c) d j Z0;rw[Y5];simp only[YX];by_cases a:i<j;have:=jV (x:=x) (c:=c) d j Z0 i a;rw[Z6B Z0,Z6B Z0];exact this;have:i=j:=Z0;subst this;rw[Z6v Z0,Z6v Z0,h,k,Z80];exact⟨rfl,rfl⟩
def nk(s:St8)(k:Int):Nat:=if k=1 then s.n1 else if k=2 then s.n2 else if k=3 then s.n3 else s.n4
section
variable {x:Rw}{c:Bool}
def A1(x:Rw):∀n∈(Y2 x.nodes x.E).nodes,ZN n<=9:=λn d=>by
 obtain⟨_,_,a⟩:=L3 x.nodes x.E;have:=a n d;unfold ZN;omega
def Sd(x:Rw)(c:Bool):(Yh x c).g=Y2 x.nodes x.E:=rfl
def J0{i:Nat}(a:i< (Y2 x.nodes x.E).nodes.length):ZH (Yh x c) i=SD x c (Y2 x.nodes x.E) i:=by
 unfold ZH;show((Y5 x c (Y2 x.nodes x.E) (Y2 x.nodes x.E).nodes.length).ap[i]?).getD _=_;rw[(jV (A1 x) _ (Z6i _) i a).1];rfl
def Lh{i:Nat}(a:i< (Y2 x.nodes x.E).nodes.length):Y8 (Yh x c) i=Q3 x c (Y2 x.nodes x.E) i:=by
 unfold Y8;show((Y5 x c (Y2 x.nodes x.E) (Y2 x.nodes x.E).nodes.length).ad[i]?).getD _=_;rw[(jV (A1 x) _ (Z6i _) i a).2];rfl
def Ks:∀i,i<=(Y2 x.nodes x.E).nodes.length->∀k:Int,1<=k/\k<=4->I (YT (Yh x c) x k i)=nk (Y5 x c (Y2 x.nodes x.E) i) k
 |0,_,k,f=>by simp[YT,Y5,nk]
 |i+1,p,k,f=>by
  have o:=Ks i Z0 k f;rw[Vy,Z6L,o];have l:ZT (Yh x c) i=((Y2 x.nodes x.E).nodes[i]?).getD default:=rfl;unfold YL;rw[J0 (Z0:i< (Y2 x.nodes x.E).nodes.length),Lh (Z0:i< (Y2 x.nodes x.E).nodes.length),l,Y5];generalize ((Y2 x.nodes x.E).nodes[i]?).getD default=n;have a:k=1\/k=2\/k=3\/k=4:=Z0;unfold SD Q3;generalize Y5 x c (Y2 x.nodes x.E) i=s;obtain g|h|⟨j,rfl⟩:=TQ x i c;obtain rfl|rfl|rfl|rfl:=a<;>simp[nk,YX,g,VW];cases c<;>cases d:Wf x i<;>obtain rfl|rfl|rfl|rfl:=a<;>simp[nk,YX,h,d,VW,SC]
  cases d:Wf x i<;>obtain rfl|rfl|rfl|rfl:=a<;>simp[nk,YX,j,d,VW,SC]
def Fq(hx:x.ok):Placed (Yh x c) x:=by
 refine⟨(Qm hx c).1,λi a=> ?_,λi a=> ?_,λk g=> ?_⟩;rw[Sd]at a;rw[J0 a,Lh a];have d:=λk g=>Ks (x:=x) (c:=c) i Z0 k g;unfold SD Q3;obtain j|h|⟨f,rfl⟩:=TQ x i c;right;simp[j,d 2,nk];right;simp[h,d 1,nk];left;refine⟨by simp[f],?_⟩;cases n:Wf x i;exact⟨3,.inl rfl,by simp[f]⟩;exact⟨4,.inr rfl,by simp[f]⟩;rw[Sd]at a;rw[J0 a,Lh a];have d:=λk g=>Ks (x:=x) (c:=c) i Z0 k g;unfold SD Q3;obtain j|h|⟨f,rfl⟩:=TQ x i c;left;simp[j];cases c;left;simp;right;cases n:Wf x i;simp[h,d 3,nk];simp[h,d 4,nk];right;cases n:Wf x i;simp[f,d 3,nk];simp[f,d 4,nk];rw[Sd,Ks _ (Z6i _) k g];have l:k=1\/k=2\/k=3\/k=4:=Z0;obtain rfl|rfl|rfl|rfl:=l<;>rfl
end
end
section
def VI h{k}(d:1<=k/\k<=4):ZX (Zv h) k=I (Zw h k):=by
 have a:k=1\/k=2\/k=3\/k=4:=Z0;obtain rfl|rfl|rfl|rfl:=a<;>rfl
def FJ{s p}(h:Yo s p=xk):ZW (Xg s p).1=(s,p,0):=by
 have a:=Yq.1 h;unfold Xg;unfold ZW;grind
theorem N3 h p:WG (YC h p)=xk:=by
 unfold YC WG;split;rfl;unfold X6;split;rfl;rename_i a;unfold adr;grind
theorem N5 b p to tw:WG (WV b p to tw)=xk:=by
 unfold WV;split;rfl;grind [N3]
def Uz{gone ptrs}:∀ {l} {i:Nat},(∀j w,l[j]?=J w->(gone=xk->w=0)/\(((i+j:Nat):Int)<ptrs->WG w=xk))->Xp l gone ptrs i=xk
 | [],_,_=>rfl
 |w::l,i,h=>by
  let⟨d,f⟩:=h 0 w rfl;have g:Xp l gone ptrs (i+1)=xk:=Uz λj y a=>by
   have:=h (j+1) y a;grind
  rw[Xp];grind
theorem Fs{b}{p:Pl}{n tw F r old}(d:p.Y=(I F:Nat))(l:ZN n<=9):Stands (F++XH b p n tw++r) old ⟨p.Y,(I n.Z:Int)+I n.data,I n.Z,xw,0⟩:=by
 have a:Yo ((I n.Z:Int)+I n.data) (I n.Z)=xk:=by
  unfold ZN at l;exact Yq.2 Z0
 have f:(F++XH b p n tw++r)[I F]?=J (QZ n):=by
  rw[Z6Y,Z6v<|Z6i _,Z80];rfl
 have o:=FJ a;refine⟨Z5i,a,?_,?_,QZ n,Z5i,?_⟩;grind [VW,ZN,List.length_append];simp only[d,Z6p];have e:((F++XH b p n tw++r).drop<|I F+1).take ((I n.Z:Int)+I n.data).toNat=XL b p p.Y.toNat n.Z tw++n.data:=by
  have g:((I n.Z:Int)+I n.data).toNat=I (XL b p p.Y.toNat n.Z tw++n.data):=by simp[XL];omega
  rw[g,Z6Y,Z9r,Z7R Z0,Z7z,Z70];have h:(XH b p n tw++r).drop 1=(XL b p p.Y.toNat n.Z tw++n.data)++r:=rfl;rw[h,Z9f]
 rw[e];refine Uz λj w f=>⟨Z1,λk=> ?_⟩;simp[XL,Z6G,Z6f]at f;grind [N5];simp_all[Z73,Z7K,AI,QZ,trivial]
def Z0J{b}{p o:Pl}{n F r}(a:o.Y=(I F:Nat))(q:ZN n<=9)(l:(adr<|YC b.h p).2=0):Stands (F++Vi b p n++r) xk ⟨o.Y,(I n.Z:Int)+I n.data,I n.Z,xk,(adr<|YC b.h p).1⟩:=by
 have d:Yo ((I n.Z:Int)+I n.data) (I n.Z)=xk:=by
  unfold ZN at q;exact Yq.2 Z0
 have f:(F++Vi b p n++r)[I F]?=J (YC b.h p):=by
  rw[Z6Y,Z6v<|Z6i _,Z80];rfl
 refine⟨by show 0<=o.Y;omega,d,?_,?_,_,by rw[a];simpa using f,?_⟩;have:=SC b p n;unfold ZN at this;simp[a];omega;simp only[a,Z6p];have e:((F++Vi b p n++r).drop<|I F+1).take ((I n.Z:Int)+I n.data).toNat=List.replicate (ZN n-1) 0:=by
  have g:((I n.Z:Int)+I n.data).toNat=I (List.replicate (ZN n-1) (0:Int)):=by simp[ZN];omega
  rw[g,Z6Y,Z9r,Z7R Z0,Z7z,Z70];have k:(Vi b p n++r).drop 1=List.replicate _ 0++r:=rfl;rw[k,Z9f]
 rw[e];refine Uz λj w f=> ?_;have:=(List.mem_replicate.1<|Z6n f).2;subst this;exact⟨Z0,λ_=>rfl⟩;simp only[Z7m];exact⟨trivial,l,trivial⟩
def X5(b:Bt)(k:Int)(i:Nat):List Ob:=
 if(ZH b i).part=k then [⟨(ZH b i).Y,((ZT b i).Z.length:Int)+(ZT b i).data.length,(ZT b i).Z.length,xw,0⟩]
 else if(Y8 b i).part=k then(if(ZH b i).part=0 then [⟨(Y8 b i).Y,((ZT b i).Z.length:Int)+(ZT b i).data.length,(ZT b i).Z.length,xw,0⟩]
  else [⟨(Y8 b i).Y,((ZT b i).Z.length:Int)+(ZT b i).data.length,(ZT b i).Z.length,xk,(adr<|YC b.h<|ZH b i).1⟩])
 else []
def obs(b:Bt)(k:Int):List Ob:=(List.range<|I b.g.nodes).flatMap<|X5 b k
section
variable {b:Bt}{x:Rw}
def Placed.oy(a:Placed b x)(d:∀n∈b.g.nodes,ZN n<=9){i}(f:i<I b.g.nodes):ZN (ZT b i)<=9:=by
 simp_all[ZT,Z6b,Z6E]
def Placed.len(a:Placed b x){k}(d:1<=k/\k<=4):ZX (Zv b.h) k=(I (YT b x k<|I b.g.nodes):Nat):=by
 rw[VI b.h d,a.zero k d];simp
def Placed.cv(a:Placed b x){i}(d:i<I b.g.nodes)(k:(ZH b i).part≠0):((ZH b i).part=1\/(ZH b i).part=2)/\(ZH b i).Y=(I (YT b x (ZH b i).part i):Nat)/\(ZH b i).Y+ZN (ZT b i)<=ZX (Zv b.h) (ZH b i).part:=by
 obtain⟨h,_⟩|⟨f,j⟩:=a.ap i d;simp_all;refine⟨f,j,?_⟩;have:=jy b x (ZH b i).part d;rw[a.len Z0];have e:YL b x (ZH b i).part i=XH b (ZH b i) (ZT b i) (IntKind.i64.wrap<|x.ba+i):=by unfold YL;rw[Z6k rfl]
 grind [VW]
def Placed.du(a:Placed b x){i}(d:i<I b.g.nodes)(o:(Y8 b i).part≠0):((Y8 b i).part=3\/(Y8 b i).part=4)/\(Y8 b i).Y=(I (YT b x (Y8 b i).part i):Nat)/\(ZH b i).part≠2/\(Y8 b i).Y+ZN (ZT b i)<=ZX (Zv b.h) (Y8 b i).part:=by
 obtain h|⟨j,k,l⟩:=a.ad i d;simp_all;refine⟨j,k,l,?_⟩;have:=jy b x (Y8 b i).part d;rw[a.len Z0];have n:(ZH b i).part=0\/(ZH b i).part=1:=by
  by_cases f:(ZH b i).part=0;omega;have:=(a.cv d f).1;omega
 have e:I (YL b x (Y8 b i).part i)=ZN (ZT b i):=by
  unfold YL;rw[Z6h Z0,Z6k rfl];split;grind [VW];exact SC _ _ _
 omega
def Placed.gp(a:Placed b x)(d:ZC (Zv b.h)=xk){i}(f:i<I b.g.nodes)(j:(ZH b i).part≠0):YC b.h (ZH b i)=ZG (Zv b.h) (ZH b i).part (ZH b i).Y:=by
 let⟨k,l,n⟩:=a.cv f j;have o:1<=ZN (ZT b i):=by grind [ZN]
 unfold YC;rw[TI d Z0 ⟨Z0,Z0⟩];have:=XW d (ZH b i).part;unfold X6 ZG;grind
def Placed.nv(a:Placed b x)(d:ZC (Zv b.h)=xk){i}(f:i<I b.g.nodes)(j:(Y8 b i).part≠0):YC b.h (Y8 b i)=ZG (Zv b.h) (Y8 b i).part (Y8 b i).Y:=by
 let⟨k,l,_,n⟩:=a.du f j;have o:1<=ZN (ZT b i):=by grind [ZN]
 unfold YC;rw[TI d Z0 ⟨Z0,Z0⟩];have:=XW d (Y8 b i).part;unfold X6 ZG;grind
def D3(a:Placed b x)(z:ZC (Zv b.h)=xk)(C:∀n∈b.g.nodes,ZN n<=9){k}(F:1<=k/\k<=4):∀m i,i+m=I b.g.nodes->Tiles (YT b x k<|I b.g.nodes) (decide (2<k)) (I<|YT b x k i) ((List.range' i m).flatMap<|X5 b k)
 |0,i,D=>by
  have:i=I b.g.nodes:=Z0;subst this;exact Z6i _
 |m+1,i,D=>by
  have t:=D3 a z C F m (i+1) Z0;have d:i<I b.g.nodes:=Z0;have w:=a.oy C d;let⟨r,A⟩:=QH b x k (Z0:i+1<=I b.g.nodes);rw[List.range'_succ,Z9h];have B:=Vy b x k i;by_cases f:(ZH b i).part=k;have u:YL b x k i=XH b (ZH b i) (ZT b i) (IntKind.i64.wrap<|x.ba+i):=by unfold YL;rw[Z6k f]
  have q:X5 b k i=[⟨(ZH b i).Y,((ZT b i).Z.length:Int)+(ZT b i).data.length,(ZT b i).Z.length,xw,0⟩]:=by unfold X5;rw[Z6k f]
  let⟨_,j,_⟩:=a.cv d Z0;rw[f]at j;rw[q];refine⟨j,?_,?_⟩;grind [Fs];rw[B,u,Z6L,VW]at t;have:(((ZT b i).Z.length:Int)+(ZT b i).data.length).toNat=ZN (ZT b i) -1:=by grind [ZN]
  simp[this];rw[show I (YT b x k i)+1+(ZN _-1)=I (YT b x k i)+ZN (ZT b i)by grind [ZN]];exact t;by_cases l:(Y8 b i).part=k;let⟨G,j,H,K⟩:=a.du d Z0;have y:2<k:=Z0;rw[l]at j;have p:I (YT b x k<|i+1)=I (YT b x k i)+1+(((ZT b i).Z.length:Int)+(ZT b i).data.length).toNat:=by
   have e:I (YL b x k i)=ZN (ZT b i):=by
    unfold YL;rw[Z6h f,Z6k l];split;grind [VW];exact SC _ _ _
   rw[B,Z6L,e];unfold ZN;omega
  rw[p]at t;by_cases o:(ZH b i).part=0;have u:YL b x k i=XH b (Y8 b i) (ZT b i) 0:=by unfold YL;rw[Z6h f,Z6k l,Z6k o]
  have q:X5 b k i=[⟨(Y8 b i).Y,((ZT b i).Z.length:Int)+(ZT b i).data.length,(ZT b i).Z.length,xw,0⟩]:=by unfold X5;rw[Z6h f,Z6k l,Z6k o]
  rw[q];refine⟨j,?_,t⟩;grind [Fs];have u:YL b x k i=Vi b (ZH b i) (ZT b i):=by unfold YL;rw[Z6h f,Z6k l,Z6h o]
  have q:X5 b k i=[⟨(Y8 b i).Y,((ZT b i).Z.length:Int)+(ZT b i).data.length,(ZT b i).Z.length,xk,(adr<|YC b.h<|ZH b i).1⟩]:=by unfold X5;rw[Z6h f,Z6k l,Z6h o]
  rw[q];refine⟨j,?_,t⟩;rw[A,B,u,Z7H y];refine Z0J j w ?_;let⟨L,M,_⟩:=a.cv d o;rw[a.gp z d o,WM z Z0];simp_all[YL,Z6h,X5,Z70,Z7u]
def Oy(a:Placed b x)(j:ZC (Zv b.h)=xk)(f:∀n∈b.g.nodes,ZN n<=9){k}(d:1<=k/\k<=4):Tiles (Zw (Yn x b) k) (decide (2<k)) 0<|obs b k:=by
 rw[Bm a d];have:=D3 a j f d (I b.g.nodes) 0 Z0;unfold obs;rw[List.range_eq_range'];exact this
def RT{k o}:o∈obs b k↔ ∃i,i<I b.g.nodes/\o∈X5 b k i:=by
 grind [obs]
end
end
section
def Rg{gone:Bool}{ptrs:Int}:∀ {l:Z5} {i:Nat},Xp l gone ptrs i=xk->∀(j:Nat) (w:Int),l[j]?=J w->(gone=xk->w=0)/\(((i+j:Nat):Int)<ptrs->WG w=xk)
 | [],_,_,j,w,a=>by simp at a
 |y::l,i,d,j,w,a=>by
  simp only[Xp,Z6l]at d;cases j with
  |zero=>
   simp at a;subst a;obtain⟨⟨f,g⟩,_⟩:=d;refine⟨λh=> ?_,λk=> ?_⟩;rw[h]at f;simpa using f;simpa[show(i:Int)<ptrs by omega]using g
  |succ j=>
   have:=Rg d.2 j w (by simpa using a);rw[show i+1+j=i+(j+1)by omega]at this;exact this
def Stands.congr{ws a:Z5}{old:Bool}{o:Ob}(s:Stands ws old o)(n:I a=I ws)(k:a[o.Y.toNat]?=ws[o.Y.toNat]?)
  (g:∀j:Nat,(j:Int)<o.size->a[o.Y.toNat+1+j]?=ws[o.Y.toNat+1+j]? \/(o.gone=xw/\o.Z<=j)):Stands a old o:=by
 refine⟨s.gd,s.shape,by rw[n];exact s.ah,Uz λj w f=> ?_,by rw[k];exact s.cm⟩;have d:j<o.size.toNat:=by
  have:=(Z6d.1 f).1;simp at this;omega
 rw[Z6U d,Z6C]at f;obtain g|⟨l,p⟩:=g j Z0;rw[g]at f;refine Rg s.ew j w ?_;rw[Z6U d,Z6C];exact f;exact⟨λh=>(by rw[l]at h;cases h),λh=>Z0⟩
def Tiles.congr{ws d:Z5}{old:Bool}:∀ {a:Nat} {l:Z8},Tiles ws old a l->I d=I ws->(∀o∈l,Stands d old o)->Tiles d old a l
 |a,[],h,f,_=>by show I d<=a;rw[f];exact h
 |a,o::l,h,f,g=>⟨h.1,g o<|.head _,Tiles.congr h.2.2 f λx j=>g x<|.tail _ j⟩
section
variable {h g:Hp}{p:Pts}
def UD(a:Zv g=Zv h){w i j:Int}:Gos g p w i j↔Gos h p w i j:=by
 unfold Gos;rw[a]
def As(a:Zv g=Zv h)(d:g.O=h.O){k:Int}{i:Nat}{w:Int}:Yz g p k i w↔Yz h p k i w:=by
 unfold Yz;rw[UD a,UD a,d]
def Rt.congr(r:Rt h p)(a:Zv g=Zv h)(f:g.O=h.O)(q:g.M=h.M)(A:g.E=h.E)(D:∀k:Int,1<=k/\k<=4->∀o∈p.at k,Stands (Zw g k) (decide (2<k)) o)
  (h2:∀k:Int,1<=k/\k<=4->∀o∈p.at k,o.gone=xw->∀j:Nat,(j:Int)<o.Z->(Zw g k)[o.Y.toNat+1+j]?=(Zw h k)[o.Y.toNat+1+j]?):Rt g p:=by
 have e:=Ju a;have n:I g.H=I h.H:=e 1;have B:I g.aa=I h.aa:=e 2;have t:I g.ad=I h.ad:=e 3;have u:I g.ae=I h.ae:=e 4;have C:g.cap=h.cap:=Z7J Ly.cap a;refine⟨⟨⟨by rw[a];exact r.al,λk d=>(r.af k d).congr (e k)<|D k d⟩,?_,?_,?_⟩,by rw[A];exact r.dj,by rw[f];exact r.dq,by rw[f,n];exact r.cz,λh=>by rw[f,n];exact r.fq<|q▸h,λh=> ?_,λh=> ?_,λw l=> ?_⟩;rw[a];exact r.gone;intro k d o z x j y w l;rw[h2 k d o z x j y]at l;exact(As a f).2 (r.ptr k d o z x j y w l);rw[n,B,C];exact r.cx;obtain⟨F,G,H⟩:=r.df<|q▸h;rw[f,n];rw[G]at t;rw[H]at u;exact⟨F,Z7f.1 t,Z7f.1 u⟩;rw[a];exact r.dt<|q▸h;rw[A]at l;exact(UD a).2 (r.E w l)
structure Scal (h:Hp) (p:Pts) (k:Int) (l:List Int):Prop where
 len:I l=I (Zw h k)
 u:∀w∈l,Zy w
 eq:∀i:Nat,l[i]?=(Zw h k)[i]? \/∃o∈p.at k,o.gone=xw/\o.Y+1+o.Z<=i/\i<o.Y+1+o.size
def Scal.set{k:Int}{l:Z5}(s:Scal h p k l){o:Ob}(n:o∈p.at k)(g:o.gone=xw){i:Nat}(f:o.Y+1+o.Z<=i)(h2:i<o.Y+1+o.size){w:Int}(q:Zy w):Scal h p k<|l.set i w:=by
 refine⟨by rw[Z7g];exact s.len,λv a=> ?_,λj=> ?_⟩;obtain a|rfl:=Z6Z a;exact s.u v a;exact q;by_cases d:i=j;subst d;exact .inr ⟨o,n,g,f,h2⟩;rw[Z6W d];exact s.eq j
theorem Scal.ap(t:Tld h p){k:Int}(f:1<=k/\k<=4){l:Z5}(s:Scal h p k l){o:Ob}(g:o∈p.at k){j:Nat}(D:(j:Int)<=o.size)(d:(j:Int)<=o.Z\/o.gone=xk):l[o.Y.toNat+j]?=(Zw h k)[o.Y.toNat+j]? :=by
 obtain e|⟨q,r,x,B,C⟩:=s.eq<|o.Y.toNat+j;exact e;obtain⟨a,n,m,y,A,em,_⟩:=t.ob f g;obtain⟨b,G,F,z,w,u,_⟩:=t.ob f r;rcases(t.af k f).apart o g q r with e|e|e;subst e;obtain d|d:=d;omega;rw[x]at d;cases d;omega;omega
def Rt.sb(r:Rt h p){k:Int}(z:1<=k/\k<=4){l:Z5}(s:Scal h p k l):Rt (Yr h k l) p:=by
 have q:=λ{j:Int} (d:1<=j/\j<=4)=>Lv (h:=h) z d l;refine r.congr (Qs s.len) (zi h k l).1 (zi h k l).2 ?_ ?_ ?_;unfold Yr;split;rfl;split;rfl;split<;>rfl;intro j d o f;have t:=((r.af j d).aq o f).1;rw[q d];by_cases e:j=k;subst e;rw[Z6k rfl];refine t.congr s.len ?_ λi x=> ?_;obtain⟨a,n,m,u,w,em,_⟩:=r.toTld.ob d f;simpa using s.ap r.toTld d f (j:=0) Z0<|.inl Z0;by_cases g:o.gone=xk;exact .inl (by rw[Z77];exact s.ap r.toTld d f Z0<|.inr g);by_cases y:(i:Int)<o.Z;exact .inl (by rw[Z77];exact s.ap r.toTld d f Z0<|.inl Z0);exact .inr ⟨Z5Y,Z0⟩;rw[Z6h e];exact t;intro j d o f g i x;rw[q d];by_cases e:j=k;subst e;rw[Z6k rfl,Z77];obtain⟨a,n,m,u,w,em,_⟩:=r.toTld.ob d f;exact s.ap r.toTld d f Z0<|.inl Z0;rw[Z6h e]
def Tiles.dp{ws:Z5}{old:Bool}:∀ {a:Nat} {l:Z8},Tiles ws old a l->∀ {i:Nat} {o:Ob},l[i]?=J o->o.Y=((a+VJ (l.take i):Nat):Int)
 |_,[],_,i,o,d=>by simp at d
 |a,x::l,f,0,o,d=>by simp at d;subst d;rw[f.1];simp[VJ]
 |a,x::l,f,i+1,o,d=>by
  have:=f.2.2.dp (i:=i) (o:=o) Z5E;rw[this];simp[VJ];omega
def Z0T{l:Z8}{i:Nat}{o:Ob}(a:l[i]?=J o):VJ (l.take<|i+1)=VJ (l.take i)+(1+o.size.toNat):=by
 unfold VJ;rw[Z7k,a,Z7I,List.sum_append];simp
end
end
def p6:Fn:=⟨7,[0,1,2,3,6,7,8],pQ [pR [(3,pS 0 10),pV 4<|pU 0,pV 5<|pI 0],pC [pK 7 9 [.s 2,pI 20]] [pV 6<|pa (.m 3 1)<|.s 7]]<|px [pV 4<|pa (pU 1)<|.cb .rem (.s 1)<|pb (pU 9223372036854775808)<|pm (pU 2)<|.bo .u64<|.s 6,pV 5<|.s 6],[(4,.v),(5,.v)]⟩
def c6:ZS Tryz.prog fresh sig [.fz,.fz,.fz] [] Tryz.f6=J p6:=Z2
def Dr:Fn:=⟨16,[0,1,2,3,4,6,7,19,21,8,9,28,10,36,11,44],pQ [pR [(3,pS 0 7),(4,pS 1 7),pV 5<|pU 0,pV 6<|pI 0],pQ [.be ⟨[pK 16 28 [.mm 3 0 7],.lt 17 []<|.un .not<|.s 16,.call 18 [(17,xw)] (.id 28) xw xw [.mm 4 0 7]],[([(17,xw)],.un .not<|.s 18)],[pV 7<|.ite (.s 17) pT<|.un .not<|.s 18]⟩]<|pw (.s 7)<|px [pV 5<|pU 0,pV 6<|pI 1],pi 8 (pe (.s 2)<|pU 0)<|px [pV 5<|pU 0,pV 6<|pI 0],pC [pK 19 29 [.s 2]] [pV 9<|.ext (.s 19) 0,pV 10<|.ext (.s 19) 1],pi 11 (pn (.s 10)<|pI 0)<|px [pV 5<|pU 0,pV 6<|pI 3],pC [pK 20 30 [.mm 3 0 7,.s 9]] [pV 10<|.ext (.s 20) 1,(12,pM (.sz (.ext (.s 20) 0) 2) 2)],pi 13 (pn (.s 10)<|pI 0)<|px [pV 5<|pU 0,pV 6<|pI 6],pC [pK 21 31 [.mm 4 0 7,.mm 12 0 2]] [pV 10<|.ext (.s 21) 1,pV 14<|.ext (.s 21) 0],pi 15 (pn (.s 10)<|pI 0)<|px [pV 5<|pU 0,pV 6<|pI 6],pC [pK 22 32 [.s 14]] [pV 5<|.ext (.s 22) 0,pV 6<|.ext (.s 22) 1]] .ret,[(5,.v),(6,.v)]⟩
def c13:ZS Tryz.prog fresh sig [.fz,.fz,.fz] [] Tryz.f13=J Dr:=Z2
def Yg(f t:Ly)(w:Int):Int×Int:=
 if ZC f=xw\/ZC t=xw then(0,1)else if w=0 then(0,0)else if(adr w).2≠0 then(0,3)
 else if(Y3 f (adr w).1).2.2≠0\/(Y1 t (Y3 f (adr w).1).1 (Y3 f (adr w).1).2.1).2≠0 then(0,6)
 else(2*(Y1 t (Y3 f (adr w).1).1 (Y3 f (adr w).1).2.1).1+1,0)
def GT{t:Ly}{k a:Int}(h:(Y1 t k a).2=0):X6 (Y1 t k a).1=(2*(Y1 t k a).1+1,0):=by
 unfold Y1 at h⊢;split at h;simp at h;rename_i d;split at h;simp at h;rename_i f;split at h;simp at h;rename_i g;rw[Z6h d,Z6h f,Z6h g];have:=XW (l:=t) Z5E k;unfold X6;rw[Z6h Z63]
def jo(f t:Ly)(w:Int):Zy (Yg f t w).1:=by
 unfold Yg;split;simp[Zy];split;simp[Zy];split;simp[Zy];split;simp[Zy];have:=GS (l:=t) (k:=(Y3 f (adr w).1).1) (a:=(Y3 f (adr w).1).2.1);simp only[Zy];omega
def jp{f t:Ly}(o:f.ah)(p:t.ah){w:Int}(q:Zy w):VC Tryz.prog 13 xw [YF f,YF t,vu w]<|.am [vu (Yg f t w).1,vi (Yg f t w).2]:=by
 refine ZY Tryz.func13 follows Z2 c13 rfl ?_;have r:=R7 o;have u:=R7 p;have B:=Sn q;have x:=yf o<|Kk q;have y:=zE p (part:=(Y3 f (adr w).1).1) (at_:=(Y3 f (adr w).1).2.1);have z:=Ew (a:=(Y1 t (Y3 f (adr w).1).1 (Y3 f (adr w).1).2.1).1) AH;have g:=λh=>GT (t:=t) (k:=(Y3 f (adr w).1).1) (a:=(Y3 f (adr w).1).2.1) h;unfold YF at r u x y;unfold Yg;simp[Dr,YF];refine Zz r Z1 ?_;cases C:ZC f;simp;simp;refine Zz u Z1 ?_;cases A:ZC t;simp;simp;by_cases j:w=0;simp[j];simp[j];refine Zz B Z1 ?_;by_cases l:(adr w).2=0;case neg=>simp[l]
 simp[l];refine Zz x Z1 ?_;by_cases n:(Y3 f (adr w).1).2.2=0;case neg=>simp[n]
 simp[n];refine Zz y Z1 ?_;by_cases d:(Y1 t (Y3 f (adr w).1).1 (Y3 f (adr w).1).2.1).2=0;case neg=>simp[d]
 rw[g d]at z;simp[d];exact Zz z Z1 Z1
def Du:Fn:=⟨5,[0,1,2,3,4],pQ [pR [(1,pS 0 10),pV 2 pF],pC [pK 5 39 [.mm 1 0 10]] [pV 3<|.ext (.s 5) 0,pV 4<|.ext (.s 5) 1]]<|px [pV 2<|.s 4],[(2,.v)]⟩
def Hu:ZS Tryz.prog fresh sig [.fz] [] Tryz.f17=J Du:=Z2
def Dw:Fn:=⟨8,[0,1,2,4,5,6,7,22],pQ [pR [(2,pS 0 10),pV 3 pN,pV 4<|pI 0],pC [pK 8 39 [.mm 2 0 10]] [pV 5<|.ext (.s 8) 0,pV 6<|.ext (.s 8) 1],pQ [.be ⟨[.lt 9 []<|.un .not<|.s 6,.lt 10 []<|.ite (.s 9) pT<|pl (.s 1)<|pI 1],[([(9,xw)],pl (.s 1)<|pI 1),([(10,xw)],pj (.s 1)<|pI 4)],[pV 7<|.ite (.s 10) pT<|pj (.s 1)<|pI 4]⟩]<|pw (.s 7)<|px [pV 4<|pI 1]]<|px [pV 3<|.ac (.ai (.bp (.au<|.s 5) 17 4) (pb (.s 1)<|pI 1) 4 1 xk) 0,pV 4<|pI 0],[(3,.v),(4,.v)]⟩
def Hw:ZS Tryz.prog fresh sig [.fz,.fz] [] Tryz.f21=J Dw:=Z2
def DC:Fn:=⟨12,[0,1,2,3,13,4,16,15,17,6,14,24],pQ [pR [(1,pS 0 10),pV 2<|.c<|.lz 0,pV 3 pF],.be ⟨[pK 12 19 [.mm 1 0 10]],[([],.ag [.ac (.mm 1 0 10) 0,.ac (.mm 1 0 10) 1,.ac (.mm 1 0 10) 2,.ac (.mm 1 0 10) 3,.ac (.mm 1 0 10) 4,.ac (.mm 1 0 10) 5,.ac (.mm 1 0 10) 6,.ac (.mm 1 0 10) 7,.ac (.mm 1 0 10) 8,.ac (.mm 1 0 10) 9,.ac (.sz (.s 12) 7) 0,.ac (.sz (.s 12) 7) 1,.ac (.sz (.s 12) 7) 2,.ac (.sz (.s 12) 7) 3,.ac (.sz (.s 12) 7) 4,.ac (.sz (.s 12) 7) 5,.ac (.sz (.s 12) 7) 6,pN,pN,pN,pN,.c<|.mp 0 [] [],.c<|.mp 0 [] []])],[(5,.m [.ac (.mm 1 0 10) 0,.ac (.mm 1 0 10) 1,.ac (.mm 1 0 10) 2,.ac (.mm 1 0 10) 3,.ac (.mm 1 0 10) 4,.ac (.mm 1 0 10) 5,.ac (.mm 1 0 10) 6,.ac (.mm 1 0 10) 7,.ac (.mm 1 0 10) 8,.ac (.mm 1 0 10) 9,.ac (.sz (.s 12) 7) 0,.ac (.sz (.s 12) 7) 1,.ac (.sz (.s 12) 7) 2,.ac (.sz (.s 12) 7) 3,.ac (.sz (.s 12) 7) 4,.ac (.sz (.s 12) 7) 5,.ac (.sz (.s 12) 7) 6,pN,pN,pN,pN,.c<|.mp 0 [] [],.c<|.mp 0 [] []])]⟩,pQ [pC [pK 10 52 []] [pV 6<|pI 0,pV 7<|.len<|.s 10]]<|po [0,1,2,3,5,6,7,10] 8 (pl (.s 6)<|.s 7) (pQ [pR [(9,.m [.ac (.bp (.bc (.s 10) (.s 6) 1) 0 1) 0])],pC [.fi 13 [] (.e<|.m 9 0) [.mem [.fz,.fz,.fz,.fz,.fz,.fz,.fz,.fz,.fz,.fz,.fz,.fz,.fz,.fz,.fz,.fz,.fz,.fz,.fz,.fz,.fz,.own 107,.own 108]] [.ag [.m 5 0,.m 5 1,.m 5 2,.m 5 3,.m 5 4,.m 5 5,.m 5 6,.m 5 7,.m 5 8,.m 5 9,.m 5 10,.m 5 11,.m 5 12,.m 5 13,.m 5 14,.m 5 15,.m 5 16,.m 5 17,.m 5 18,.m 5 19,.m 5 20,.m 5 21,.m 5 22]]] [(5,pM (.ext (.s 13) 1) 23),pV 11<|.un .not<|.ext (.s 13) 0]]<|pw (.s 11)<|px [pV 2<|.c<|.lz 0,pV 3 pF])<|pc 6]<|px [pV 2<|.pt U [.m 5 0,.m 5 1,.m 5 2,.m 5 3,.m 5 4,.m 5 5,.m 5 6,.m 5 7,.m 5 8,.m 5 9,.m 5 10,.m 5 11,.m 5 12,.m 5 13,.m 5 14,.m 5 15,.m 5 16,.m 5 17,.m 5 18,.m 5 19,.m 5 20,.m 5 21,.m 5 22],pV 3 pT,(5,.no)],[(2,.v),(3,.v)]⟩
def I9:ZS Tryz.prog fresh sig [.fz] [] Tryz.f39=J DC:=Z2
def DH:Fn:=⟨1,[0],pQ [pR [pV 0 pN]]<|px [pV 0<|.lit [.ag [.c<|.fn 63],.ag [.c<|.fn 64],.ag [.c<|.fn 65],.ag [.c<|.fn 66],.ag [.c<|.fn 67],.ag [.c<|.fn 68],.ag [.c<|.fn 69],.ag [.c<|.fn 70]]],[(0,.v)]⟩
def Ih:ZS Tryz.prog fresh sig [] [] Tryz.f52=J DH:=Z2
def DM:Fn:=⟨2,[0,2],pQ [pR [pV 1 pF],.be ⟨[pK 2 28 [.bp (.au<|.s 0) 10 7],.lt 3 []<|.s 2,.lt 4 []<|.ite (.s 3) (pL (.len<|.ac (.au<|.s 0) 9)<|pI 16) pF,.lt 5 []<|.ite (.s 4) (pg (.ac (.au<|.s 0) 4)<|pI 0) pF],[([(3,xk)],pL (.len<|.ac (.au<|.s 0) 9)<|pI 16),([(4,xk)],pg (.ac (.au<|.s 0) 4)<|pI 0),([(5,xk)],pL (.ac (.au<|.s 0) 4)<|.len<|.ac (.au<|.s 0) 5)],[pV 1<|.ite (.s 5) (pL (.ac (.au<|.s 0) 4)<|.len<|.ac (.au<|.s 0) 5) pF]⟩] .ret,[(1,.v)]⟩
def In:ZS Tryz.prog fresh sig [.fz] [] Tryz.f63=J DM:=Z2
def Js:Fn:=⟨3,[0,2,7],pQ [pR [pV 1 pF],pi 2 (.ac (.au<|.s 0) 3)<|px [pV 1<|pl (.ac (.au<|.s 0) 4)<|.len<|.ac (.au<|.s 0) 5],.be ⟨[.lt 3 []<|pe (.len<|.ac (.au<|.s 0) 7)<|pI 0,.lt 4 []<|.ite (.s 3) (pe (.len<|.ac (.au<|.s 0) 8)<|pI 0) pF],[([(3,xk)],pe (.len<|.ac (.au<|.s 0) 8)<|pI 0),([(4,xk)],pe (.ac (.au<|.s 0) 4)<|.len<|.ac (.au<|.s 0) 5)],[pV 1<|.ite (.s 4) (pe (.ac (.au<|.s 0) 4)<|.len<|.ac (.au<|.s 0) 5) pF]⟩] .ret,[(1,.v)]⟩
def Io:ZS Tryz.prog fresh sig [.fz] [] Tryz.f64=J Js:=Z2
def DN:Fn:=⟨11,[0,2,3,8,9,4,5,6,7,18,39],pQ [pR [pV 1 pF],pR [pV 2 pT],.skip,pQ [pR [pV 3<|pI 0]]<|po [0,1,2,3] 4 (pl (.s 3)<|pI 4) (pQ [pR [pV 5<|.s 3],pR [pV 6<|pa (.s 5)<|pI 1],pR [pV 7 pN],pR [pV 8<|pI 0],pQ [.be ⟨[.lt 11 []<|pe (.s 6)<|pI 1],[([(11,xw)],pe (.s 6)<|pI 2)],[pV 9<|.ite (.s 11) pT<|pe (.s 6)<|pI 2]⟩]<|.cond (.s 9) (pC [pK 12 73 [.pt U [.m 0 0,.m 0 1,.m 0 2,.m 0 3,.m 0 4,.m 0 5,.m 0 6,.m 0 7,.m 0 8,.m 0 9,.m 0 10,.m 0 11,.m 0 12,.m 0 13,.m 0 14,.m 0 15,.m 0 16,.m 0 17,.m 0 18,.m 0 19,.m 0 20,.m 0 21,.m 0 22],.s 6],.call 13 [] (.id 72) xk xw [.s 12]] [pV 7<|.ext (.s 13) 0,pV 8<|.ext (.s 13) 1])<|pC [pK 14 73 [.pt U [.m 0 0,.m 0 1,.m 0 2,.m 0 3,.m 0 4,.m 0 5,.m 0 6,.m 0 7,.m 0 8,.m 0 9,.m 0 10,.m 0 11,.m 0 12,.m 0 13,.m 0 14,.m 0 15,.m 0 16,.m 0 17,.m 0 18,.m 0 19,.m 0 20,.m 0 21,.m 0 22],.s 6],pK 15 73 [.pt U [.m 0 0,.m 0 1,.m 0 2,.m 0 3,.m 0 4,.m 0 5,.m 0 6,.m 0 7,.m 0 8,.m 0 9,.m 0 10,.m 0 11,.m 0 12,.m 0 13,.m 0 14,.m 0 15,.m 0 16,.m 0 17,.m 0 18,.m 0 19,.m 0 20,.m 0 21,.m 0 22],.s 6],pK 16 75 [.pt U [.m 0 0,.m 0 1,.m 0 2,.m 0 3,.m 0 4,.m 0 5,.m 0 6,.m 0 7,.m 0 8,.m 0 9,.m 0 10,.m 0 11,.m 0 12,.m 0 13,.m 0 14,.m 0 15,.m 0 16,.m 0 17,.m 0 18,.m 0 19,.m 0 20,.m 0 21,.m 0 22],.s 15],.call 17 [] (.id 74) xk xw [.s 14,.s 16]] [pV 7<|.ext (.s 17) 0,pV 8<|.ext (.s 17) 1],pi 10 (pn (.s 8)<|pI 0)<|pQ [pR [pV 2 pF]]<|.exit 0]<|pC [.fi 18 [] (.id 76) [.mem [.fz,.fz,.fz,.fz,.fz,.fz,.fz,.fz,.fz,.fz,.fz,.fz,.fz,.fz,.fz,.fz,.fz,.fz,.fz,.fz,.fz,.own 107,.own 108],.fz,.fz] [.ag [.m 0 0,.m 0 1,.m 0 2,.m 0 3,.m 0 4,.m 0 5,.m 0 6,.m 0 7,.m 0 8,.m 0 9,.m 0 10,.m 0 11,.m 0 12,.m 0 13,.m 0 14,.m 0 15,.m 0 16,.m 0 17,.m 0 18,.m 0 19,.m 0 20,.m 0 21,.m 0 22],.s 6,.s 7]] [(0,pM (.ext (.s 18) 1) 23)])<|pc 3]<|px [pV 1<|.s 2],[(1,.v)]⟩
def Ip:ZS Tryz.prog fresh sig [(.mem [.fz,.fz,.fz,.fz,.fz,.fz,.fz,.fz,.fz,.fz,.fz,.fz,.fz,.fz,.fz,.fz,.fz,.fz,.fz,.fz,.fz,(.own 107),(.own 108)])] [(0,(.mem [.fz,.fz,.fz,.fz,.fz,.fz,.fz,.fz,.fz,.fz,.fz,.fz,.fz,.fz,.fz,.fz,.fz,.fz,.fz,.fz,.fz,(.own 107),(.own 108)]))] Tryz.f65=J DN:=Z2
def qH:Fn:=⟨13,[0,2,12,3,4,15,26,25,27,6,24,32,46],pQ [pR [pV 1 pF],pi 2 (.un .not<|.ac (.au<|.s 0) 3)<|px [pV 1 pT],pR [pV 3<|.c<|.mp 0 [] []],pQ [pR [pV 4<|pI 3]]<|.block 0<|.loop [0,1,2,3,4]<|pQ [pu 5 (pL (.s 4)<|pI 4) .skip<|.exit 0,.block 1<|pQ [pR [pV 6<|pI 0,pV 7<|.len<|.ac (.ai (.bp (.au<|.s 0) 17 4) (pb (.s 4)<|pI 1) 4 1 xk) 0,pV 10<|.ac (.ai (.bp (.au<|.s 0) 17 4) (pb (.s 4)<|pI 1) 4 1 xk) 0]]<|.block 2<|.loop [0,1,2,3,4,5,6,7,10]<|pQ [pR [pV 8<|pl (.s 6)<|.s 7],.cond (.s 8) .skip<|.exit 2,.block 3<|pQ [pR [(9,pM (.bp (.bc (.s 10) (.s 6) 5) 0 5) 5)],pi 11 (.un .not<|.m 9 3)<|.exit 3,pQ [.be ⟨[.lt 13 []<|pn (.lk (.i .u64) (.ac (.au<|.s 0) 21) (.m 9 4) (.int .i64 0) xw)<|pI 1],[([(13,xw)],.fl<|.lk (.i .u64) (.s 3) (.m 9 4) (.bool xw) xw)],[pV 12<|.ite (.s 13) pT<|.fl<|.lk (.i .u64) (.s 3) (.m 9 4) (.bool xw) xw]⟩]<|pw (.s 12)<|px [pV 1 pF]]<|pR [pV 3<|.ep (.i .u64) (.s 3) (.m 9 4) pT]]<|pc 6]<|pc 4]<|px [pV 1<|pe (.fe<|.s 3)<|.len<|.ac (.ai (.bp (.au<|.s 0) 17 4) (pI 0) 4 1 xk) 0],[(1,.v)]⟩
def Iq:ZS Tryz.prog fresh sig [.fz] [] Tryz.f66=J qH:=Z2
def DO:Fn:=⟨9,[0,1,2,11,10,12,4,9,18],pQ [pR [(1,.m [.aj<|.s 0]),pV 2 pF],pQ [pR [pV 3<|pI 0,pV 4<|.len<|.ac (.au<|.m 1 0) 9,pV 7<|.ac (.au<|.m 1 0) 9]]<|po [0,1,2,3,4,7] 5 (pl (.s 3)<|.s 4) (pQ [pR [pV 6<|.ac (.bc (.s 7) (.s 3) 1) 0],pC [pK 9 77 [.m 1 0,.s 6,pI 1,pI 2]] [pV 8<|.un .not<|.s 9]]<|pw (.s 8)<|px [pV 2 pF])<|pc 3,pC [.call 10 [] (.id 78) xw xk [.m 1 0,pI 2,.pt (J 79) [.pt U [.m 1 0]]],.lt 11 []<|.s 10,.call 12 [(11,xk)] (.id 78) xw xk [.m 1 0,pI 1,.pt (J 80) [.pt U [.m 1 0]]]] [pV 2<|.ite (.s 11) (.s 12) pF]] .ret,[(2,.v)]⟩
def Ir:ZS Tryz.prog fresh sig [.fz] [] Tryz.f67=J DO:=Z2
def DP:Fn:=⟨3,[0,1,2],pQ [pR [(1,.m [.aj<|.s 0]),pV 2 pF],pC [.call 3 [] (.id 78) xw xk [.m 1 0,pI 1,.pt (J 81) [.pt U [.m 1 0]]]] [pV 2<|.s 3]] .ret,[(2,.v)]⟩
def Is:ZS Tryz.prog fresh sig [.fz] [] Tryz.f68=J DP:=Z2
def DQ:Fn:=⟨4,[0,1,2,3],pQ [pR [(1,.m [.aj<|.s 0]),pV 2 pF],pR [(3,.no)],pC [.call 4 [] (.id 78) xw xk [.m 1 0,pI 3,.pt (J 82) [.pt U [.m 1 0]]],.lt 5 []<|.s 4,.call 6 [(5,xk)] (.id 78) xw xk [.m 1 0,pI 4,.pt (J 82) [.pt U [.m 1 0]]]] [pV 2<|.ite (.s 5) (.s 6) pF,(3,.no)]] .ret,[(2,.v)]⟩
def It:ZS Tryz.prog fresh sig [.fz] [] Tryz.f69=J DQ:=Z2
def DR:Fn:=⟨2,[0,2],pQ [pR [pV 1 pF],pC [pK 2 83 [.s 0]] [pV 1<|pL (pa (pa (.len<|.ac (.au<|.s 0) 5)<|.len<|.ac (.au<|.s 0) 6)<|.s 2)<|.ac (.au<|.s 0) 1]] .ret,[(1,.v)]⟩
def Iu:ZS Tryz.prog fresh sig [.fz] [] Tryz.f70=J DR:=Z2
def DT:Fn:=⟨3,[0,1,4],pQ [pR [pV 2 pN]]<|px [pV 2<|.ai (.ag [.ac (.au<|.s 0) 5,.ac (.au<|.s 0) 6,.ac (.au<|.s 0) 7,.ac (.au<|.s 0) 8]) (pb (.s 1)<|pI 1) 4 1 xw],[(2,.v)]⟩
def Iw:ZS Tryz.prog fresh sig [.fz,.fz] [] Tryz.f73=J DT:=Z2
def DU:Fn:=⟨14,[0,1,4,5,6,15,7,8,9,25,10,11,36,52],pQ [pR [pV 2 pN],pR [pV 3 pN],pQ [pR [pV 4<|pI 0]]<|.block 0<|.loop [0,1,2,3,4]<|pQ [pu 5 (pl (.s 4)<|.len<|.s 1) .skip<|.exit 0]<|.block 1<|pQ [pR [(6,.m [pI 0,pI 0])],pQ [pC [pK 14 29 [.ac (.bc (.s 1) (.s 4) 1) 0]] [pV 7<|.ext (.s 14) 0,pV 8<|.ext (.s 14) 1]]<|pu 9 (pe (.s 8)<|pI 0) (pQ [pR [(10,pM (.sz (.ext (.lk (.i .u64) (.ac (.au<|.s 0) 22) (.s 7) (.agg [.int .i64 0,.int .i64 0]) xk) 0) 2) 2),pV 11<|.ext (.lk (.i .u64) (.ac (.au<|.s 0) 22) (.s 7) (.agg [.int .i64 0,.int .i64 0]) xk) 1],pi 12 (.un .not<|.s 11)<|px [pV 2<|.s 3,(3,.no)],pR [(6,pM (.mm 10 0 2) 2)]]<|pR [pV 3<|.ct (.s 3) (.lit [.mm 6 0 2]) 2])<|pQ [pC [pK 15 55 [.ac (.bc (.s 1) (.s 4) 1) 0]] [(6,pM (.sz (.ext (.s 15) 0) 2) 2),pV 8<|.ext (.s 15) 1]]<|pi 13 (pn (.s 8)<|pI 0)<|px [pV 2<|.s 3,(3,.no)]]<|pR [pV 4<|pa (.s 4)<|pa (pI 1)<|.m 6 0]]<|px [pV 2<|.s 3,(3,.no)],[(2,.v)]⟩
def Iy:ZS Tryz.prog fresh sig [.fz,.fz] [] Tryz.f75=J DU:=Z2
def Jt:Fn:=⟨11,[0,1,2,19,18,20,7,17,8,9,42],pQ [.be ⟨[],[([],.ai (.c<|.agg [(.bool xk),(.bool xk),(.bool xk),(.bool xk)]) (pb (.s 1)<|pI 1) 4 1 xw)],[(0,.m [.m 0 0,.m 0 1,.m 0 2,.m 0 3,.m 0 4,.m 0 5,.m 0 6,.m 0 7,.m 0 8,.m 0 9,.m 0 10,.m 0 11,.m 0 12,.m 0 13,.m 0 14,.m 0 15,.m 0 16,.ac (.dk (.mm 0 17 4) (pb (.s 1)<|pI 1) 4 1<|.aj<|.s 2) 0,.ac (.dk (.mm 0 17 4) (pb (.s 1)<|pI 1) 4 1<|.aj<|.s 2) 1,.ac (.dk (.mm 0 17 4) (pb (.s 1)<|pI 1) 4 1<|.aj<|.s 2) 2,.ac (.dk (.mm 0 17 4) (pb (.s 1)<|pI 1) 4 1<|.aj<|.s 2) 3,.m 0 21,.m 0 22])]⟩,pR [pV 3<|pI 0,pV 4<|.len<|.s 2,pV 7<|.s 2]]<|po [0,1,2,3,4,7] 5 (pl (.s 3)<|.s 4) (pQ [pR [(6,pM (.bp (.bc (.s 7) (.s 3) 5) 0 5) 5)],pC [pK 11 31 [.mm 0 10 7,.ag [.aj<|.s 1,.m 6 0]]] [pV 8<|.ext (.s 11) 0,pV 9<|.ext (.s 11) 1],pR [(0,.m [.m 0 0,.m 0 1,.m 0 2,.m 0 3,.m 0 4,.m 0 5,.m 0 6,.m 0 7,.m 0 8,.m 0 9,.m 0 10,.m 0 11,.m 0 12,.m 0 13,.m 0 14,.m 0 15,.m 0 16,.m 0 17,.m 0 18,.m 0 19,.m 0 20,.ep (.i .u64) (.m 0 21) (.s 8)<|.s 1,.m 0 22])]]<|pi 10 (pe (.s 1)<|pI 1)<|pR [(0,.m [.m 0 0,.m 0 1,.m 0 2,.m 0 3,.m 0 4,.m 0 5,.m 0 6,.m 0 7,.m 0 8,.m 0 9,.m 0 10,.m 0 11,.m 0 12,.m 0 13,.m 0 14,.m 0 15,.m 0 16,.m 0 17,.m 0 18,.m 0 19,.m 0 20,.m 0 21,.ep (.i .u64) (.m 0 22) (.s 8)<|.mm 6 1 2])])<|pc 3,[]⟩
def Iz:ZS Tryz.prog fresh sig [(.mem [.fz,.fz,.fz,.fz,.fz,.fz,.fz,.fz,.fz,.fz,.fz,.fz,.fz,.fz,.fz,.fz,.fz,.fz,.fz,.fz,.fz,(.own 107),(.own 108)]),.fz,.fz] [(0,(.mem [.fz,.fz,.fz,.fz,.fz,.fz,.fz,.fz,.fz,.fz,.fz,.fz,.fz,.fz,.fz,.fz,.fz,.fz,.fz,.fz,.fz,(.own 107),(.own 108)]))] Tryz.f76=J Jt:=Z2
def qI:Fn:=⟨11,[0,1,2,3,8,14,9,10,21,11,12],pQ [pR [pV 4 pF],pi 5 (pe (.s 1)<|pU 0)<|px [pV 4 pT],pC [pK 11 29 [.s 1]] [pV 6<|.ext (.s 11) 0,pV 7<|.ext (.s 11) 1],pi 8 (pn (.s 7)<|pI 0)<|px [pV 4 pF],pR [pV 9<|.ext (.lk (.i .u64) (.ac (.au<|.s 0) 21) (.s 6) (.int .i64 0) xk) 0,pV 10<|.ext (.lk (.i .u64) (.ac (.au<|.s 0) 21) (.s 6) (.int .i64 0) xk) 1],.be ⟨[.lt 12 []<|.s 10,.lt 13 []<|.ite (.s 12) (pg (.s 9)<|.s 2) pF],[([(12,xk)],pg (.s 9)<|.s 2),([(13,xk)],pL (.s 9)<|.s 3)],[pV 4<|.ite (.s 13) (pL (.s 9)<|.s 3) pF]⟩] .ret,[(4,.v)]⟩
def IA:ZS Tryz.prog fresh sig [.fz,.fz,.fz,.fz] [] Tryz.f77=J qI:=Z2
def DV:Fn:=⟨17,[0,1,2,6,7,23,22,24,9,21,28,32,31,33,10,11,47],pQ [pR [pV 3 pF],pC [pK 17 73 [.s 0,.s 1]] [pV 4<|.s 17],pQ [pR [pV 5<|pI 0,pV 6<|.len<|.ac (.ai (.bp (.au<|.s 0) 17 4) (pb (.s 1)<|pI 1) 4 1 xk) 0,pV 9<|.ac (.ai (.bp (.au<|.s 0) 17 4) (pb (.s 1)<|pI 1) 4 1 xk) 0]]<|po [0,1,2,3,4,5,6,9] 7 (pl (.s 5)<|.s 6) (pQ [pR [(8,pM (.bp (.bc (.s 9) (.s 5) 5) 0 5) 5)],pi 10 (.m 8 3)<|.exit 1,pR [pV 11<|pI 0,pV 12<|.m 8 2]]<|.block 2<|.loop [0,1,2,3,4,5,6,7,8,9,10,11,12]<|pQ [pR [pV 13<|pl (.s 11)<|.s 12],.cond (.s 13) .skip<|.exit 2,.block 3<|pQ [pR [pV 14<|.s 11],pR [pV 15<|pa (pa (.m 8 0)<|pI 1)<|.s 14],pC [.call 18 [] (.e<|.s 2) xw xw [.s 15,.ac (.bc (.s 4) (.s 15) 1) 0]] [pV 16<|.un .not<|.s 18]]<|pw (.s 16)<|px [pV 3 pF]]<|pc 11)<|pc 5]<|px [pV 3 pT],[(3,.v)]⟩
def IB:ZS Tryz.prog fresh sig [.fz,.fz,.fz] [] Tryz.f78=J DV:=Z2
def DW:Fn:=⟨4,[0,1,2,5],pQ [pR [pV 3 pF],pC [pK 4 77 [.ac (.au<|.s 2) 0,.s 1,pI 1,pI 2]] [pV 3<|.s 4]] .ret,[(3,.v)]⟩
def IC:ZS Tryz.prog fresh sig [.fz,.fz,.fz] [] Tryz.f79=J DW:=Z2
def qJ:Fn:=⟨4,[0,1,2,5],pQ [pR [pV 3 pF],pC [.lt 4 []<|pg (.s 0)<|.ac (.au<|.ac (.au<|.s 2) 0) 4,.call 5 [(4,xw)] (.id 77) xw xw [.ac (.au<|.s 2) 0,.s 1,pI 1,pI 2]] [pV 3<|.ite (.s 4) pT<|.s 5]] .ret,[(3,.v)]⟩
def ID:ZS Tryz.prog fresh sig [.fz,.fz,.fz] [] Tryz.f80=J qJ:=Z2
def qK:Fn:=⟨4,[0,1,2,5],pQ [pR [pV 3 pF],pC [.lt 4 []<|pl (.s 0)<|.ac (.au<|.ac (.au<|.s 2) 0) 4,.call 5 [(4,xw)] (.id 77) xw xw [.ac (.au<|.s 2) 0,.s 1,pI 1,pI 4]] [pV 3<|.ite (.s 4) pT<|.s 5]] .ret,[(3,.v)]⟩
def IE:ZS Tryz.prog fresh sig [.fz,.fz,.fz] [] Tryz.f81=J qK:=Z2
def DX:Fn:=⟨4,[0,1,2,5],pQ [pR [pV 3 pF],pC [pK 4 77 [.ac (.au<|.s 2) 0,.s 1,pI 3,pI 4]] [pV 3<|.s 4]] .ret,[(3,.v)]⟩
def IF:ZS Tryz.prog fresh sig [.fz,.fz,.fz] [] Tryz.f82=J DX:=Z2
def DY:Fn:=⟨11,[0,2,3,4,8,19,18,20,6,17,25],pQ [pR [pV 1<|pI 0],pR [pV 2<|pI 0],pQ [pR [pV 3<|pI 3]]<|.block 0<|.loop [0,1,2,3]<|pQ [pu 4 (pL (.s 3)<|pI 4) .skip<|.exit 0,.block 1<|pQ [pR [pV 5<|pI 0,pV 6<|.len<|.ac (.ai (.bp (.au<|.s 0) 17 4) (pb (.s 3)<|pI 1) 4 1 xk) 0,pV 9<|.ac (.ai (.bp (.au<|.s 0) 17 4) (pb (.s 3)<|pI 1) 4 1 xk) 0]]<|.block 2<|.loop [0,1,2,3,4,5,6,9]<|pQ [pR [pV 7<|pl (.s 5)<|.s 6],.cond (.s 7) .skip<|.exit 2,.block 3<|pQ [pR [(8,pM (.bp (.bc (.s 9) (.s 5) 5) 0 5) 5)]]<|pi 10 (.un .not<|.m 8 3)<|pR [pV 2<|pa (.s 2)<|pa (pI 1)<|.m 8 1]]<|pc 5]<|pc 3]<|px [pV 1<|.s 2],[(1,.v)]⟩
def IG:ZS Tryz.prog fresh sig [.fz] [] Tryz.f83=J DY:=Z2
def Dn:Fn:=⟨6,[0,1,2,3,4,11],pQ [pR [(1,pS 0 10),pV 2<|pI 0],pC [pK 6 39 [.mm 1 0 10]] [pV 3<|.ext (.s 6) 0,pV 4<|.ext (.s 6) 1],pi 5 (.un .not<|.s 4)<|px [pV 2<|pI 0],pC [pK 7 83 [.s 3]] [pV 2<|.s 7]] .ret,[(2,.v)]⟩
def Hn:ZS Tryz.prog fresh sig [.fz] [] Tryz.f112=J Dn:=Z2
end Vm
end
section
namespace Vm
open Go Go.Proofs
def Wp{α:Type}(l:List<|Int×α)(k:Int)(v:α):List<|Int×α:=match l.findIdx? (·.1==k)with
 |some i=>l.set i (k,v)
 |none=>l++[(k,v)]
def YE{α:Type}(l:List<|Int×α)(k:Int):Option α:=(l.find? (·.1==k)).map (·.2)
def Xc{α:Type}(f:α->V)(l:List<|Int×α):V:=.mp 0 (l.map λx=>vu x.1) (l.map λx=>f x.2)
def yg{α:Type}{k}:∀ {l:List (Int×α)},TU (vu k) (l.map λx=>vu x.1)=J (l.findIdx? (·.1==k))
 | []=>rfl
 |y::l=>by
  simp only[Z6R,TU,KU,List.findIdx?_cons];by_cases h:k=y.1;simp[h];have a:(k==y.1)=xw:=by simpa using h
  have d:(y.1==k)=xw:=by simpa using Z8d h
  simp[a,d,yg]
def QQ{α:Type}{p}:∀ {l:List α},l.find? p=(l.findIdx? p).bind λi=>l[i]?
 | []=>rfl
 |x::l=>by
  rw[List.find?_cons,List.findIdx?_cons];cases h:p x;simp;rw[QQ (l:=l)];cases l.findIdx? p<;>simp;simp
theorem KY{α f}{l:List (Int×α)}{k z ok}:Tk (.i .u64) (Xc f l) (vu k) z ok=match YE l k with
  |some x=>J (if ok then .am [f x,.bool xk]else f x)
  |none=>J (if ok then .am [z,.bool xw]else z):=by
 unfold Tk Xc YE;simp[Vl,yg,QQ];grind [List.findIdx?_eq_some_iff_getElem]
def ql{α f l k}{x:α}:Tl (.i .u64) (Xc f l) (vu k) (f x)=J (Xc f<|Wp l k x):=by
 unfold Tl Xc Wp;simp[Vl,yg];cases h:l.findIdx? (·.1==k)with
 |none=>simp
 |some i=>
  let⟨d,g,_⟩:=Z79.1 h;have a:(l[i]).1=k:=Z5Y;simp only[Z6c,V.mp.injEq,true_and];constructor;rw[Z8j];apply Z81;intro j;rw[Z7q];split;rename_i e;subst e;simp[d,a];rfl;rw[Z8j]
@[simp]theorem Z3Z{α}f(l:List<|Int×α):YS (Xc f l)=J (Xc f l):=rfl
@[simp]theorem Z2c{α}f(l:List<|Int×α):(Xc f l).cells=[Xc f l]:=rfl
@[simp]theorem Z49{α}f(l:List<|Int×α):(Xc f l).aj=xk:=rfl
@[simp]theorem Z3O{α}f(l:List<|Int×α):TZ (Xc f l)=J (vi<|I l):=by simp[Xc]
def yt{α l k j}{x:α}:YE (Wp l k x) j=if k=j then J x else YE l j:=by
 unfold YE Wp;cases h:l.findIdx? (·.1==k)with
 |none=>
  grind
 |some i=>
  let⟨d,o,a⟩:=Z79.1 h;by_cases e:k=j;subst e;rw[Z6k rfl,QQ];grind [List.findIdx?_eq_some_iff_getElem,List.getElem_set_ne];rw[Z6h e,QQ,QQ];have:(l.set i (k,x)).findIdx? (·.1==j)=l.findIdx? (·.1==j):=by
   apply Option.ext;intro q;rw[Z79,Z79];constructor;grind;grind
  rw[this];cases f:l.findIdx? (·.1==j)with
  |none=>rfl
  |some q=>
   let⟨g,n,_⟩:=Z79.1 f;grind
structure Ck where
 h:Hp
 o1:List Ob
 o2:List Ob
 o3:List Ob
 o4:List Ob
 pm:List<|Int×Int
 lm:List<|Int×(Int×Int)
def Ck.eo(s:Ck)(k:Int):List Ob:=if k=1 then s.o1 else if k=2 then s.o2 else if k=3 then s.o3 else s.o4
def ZZ(s:Ck):List V:=[vu s.h.V,vi s.h.cap,vi s.h.to,.bool s.h.M,vi s.h.O,.sl<|s.h.H.map vu,.sl<|s.h.aa.map vu,.sl<|s.h.ad.map vu,.sl<|s.h.ae.map vu,.sl<|s.h.E.map vu,
 vu s.h.V,vi s.h.cap,vi s.h.to,vi<|I s.h.H,vi<|I s.h.aa,vi<|I s.h.ad,vi<|I s.h.ae,
 .sl (s.o1.map ZU),.sl<|s.o2.map ZU,.sl<|s.o3.map ZU,.sl<|s.o4.map ZU,Xc vi s.pm,Xc XR s.lm]
def YY(s:Ck):V:=.ptr<|ZZ s
def Sg:IntKind.i64.wrap 0=0:=Z5q
def UB:IntKind.i64.wrap 1=1:=Z5q
def Vv:IntKind.i64.wrap 2=2:=Z5q
def VK:IntKind.i64.wrap 3=3:=Z5q
def FZ{s:Ck}{k:Int}(a:1<=k/\k<=4):VC Tryz.prog 73 xw [YY s,vi k]<|.sl<|(Zw s.h k).map vu:=by
 refine ZY Tryz.func73 follows Z2 Iw rfl ?_;have:k=1\/k=2\/k=3\/k=4:=Z0;obtain rfl|rfl|rfl|rfl:=this<;>simp[DT,YY,ZZ,Zw,Y4,Sg,UB,Vv,VK]
def YJ(s:Ck)(w first last:Int):Bool:=decide (w=0)||(decide ((adr w).2=0)&&match YE s.pm (adr w).1 with
 |some k=>decide (first<=k)&&decide (k<=last)
 |none=>xw)
def JB{s:Ck}{w first last:Int}(f:Zy w):VC Tryz.prog 77 xw [YY s,vu w,vi first,vi last]<|.bool<|YJ s w first last:=by
 refine ZY Tryz.func77 follows Z2 IA rfl ?_;unfold YJ;by_cases a:w=0;simp[qI,a];simp[qI,a,YY,ZZ];refine Zz (Sn f) Z1 ?_;by_cases d:(adr w).2=0;case neg=>simp[d]
 simp[d,KY];cases g:YE s.pm (adr w).1 with
 |none=>simp
 |some k=>
  simp_all
def Wj(h:Hp)(k:Int):List (Int×Int)->List Ob->List (Int×Int)
 |m,[]=>m
 |m,o::l=>Wj h k (Wp m (Y1 (Zv h) k o.Y).1 k) l
def Xv(h:Hp)(k:Int):List (Int×(Int×Int))->List Ob->List (Int×(Int×Int))
 |m,[]=>m
 |m,o::l=>Xv h k (if k=1 then Wp m (Y1 (Zv h) k o.Y).1 (o.size,o.Z)else m) l
def Ck.put(s:Ck)(k:Int)(l:List Ob):Ck:=if k=1 then {s with o1:=l}else if k=2 then {s with o2:=l}else if k=3 then {s with o3:=l}else {s with o4:=l}
def XI(s:Ck)(k:Int)(l:List Ob):Ck:= {s.put k l with pm:=Wj s.h k s.pm l,lm:=Xv s.h k s.lm l}
def Jk{h k}:∀ {l:List Ob} {i:Nat} {o:Ob} {m:List (Int×Int)},l[i]?=J o->Wj h k m (l.take<|i+1)=Wp (Wj h k m<|l.take i) (Y1 (Zv h) k o.Y).1 k
 | [],_,_,_,h=>Z5V
 |x::l,0,o,m,h=>by simp_all[Wj]
 |x::l,i+1,o,m,h=>by
  simp_all[List.take_succ_cons,Wj,Jk]
def Ji{h k}:∀ {l:List Ob} {i:Nat} {o:Ob} {m:List (Int×(Int×Int))},l[i]?=J o->Xv h k m (l.take<|i+1)=if k=1 then Wp (Xv h k m<|l.take i) (Y1 (Zv h) k o.Y).1 (o.size,o.Z)else Xv h k m (l.take i)
 | [],_,_,_,h=>Z5V
 |x::l,0,o,m,h=>by simp_all[Xv]
 |x::l,i+1,o,m,h=>by
  simp_all[List.take_succ_cons,Xv,Ji]
abbrev Kv:List CK:=[.fz,.fz,.fz,.fz,.fz,.fz,.fz,.fz,.fz,.fz,.fz,.fz,.fz,.fz,.fz,.fz,.fz,.fz,.fz,.fz,.fz,.own 107,.own 108]
@[simp]theorem PL(s:Ck)k l:(s.put k l).h=s.h:=by
 unfold Ck.put;split;rfl;split;rfl;split<;>rfl
def L6{l k x}:Tl (.i .u64) (Xc vi l) (vu k) (vi x)=J (Xc vi<|Wp l k x):=ql
def L7{l k a b}:Tl (.i .u64) (Xc XR l) (vu k) (.agg [vi a,vi b])=J (Xc XR<|Wp l k (a,b)):=ql (f:=XR) (x:=(a,b))
def L9{s:Ck}(r:s.h.ok){k:Int}(w:1<=k/\k<=4){l:List Ob}(x:I l<=1000000):UH Tryz.prog 76 [.mem Kv,.fz,.fz] [.agg<|ZZ s,vi k,.sl<|l.map ZU]<|.am [.am [],.agg<|ZZ<|XI s k l]:=by
 refine FP Tryz.func76 follows Z2 Iz Z2 ?_;have t:k=1\/k=2\/k=3\/k=4:=Z0;have q:I l<=Ye:=by unfold Ye;omega
 have u:∀k,({s.put k l with pm:=s.pm,lm:=s.lm}:Ck)=s.put k l:=by
  intro k;unfold Ck.put;split;rfl;split;rfl;split<;>rfl
 have o:=λ(k at_:Int)=>zE r.al (part:=k) (at_:=at_);unfold Zv YF at o;obtain rfl|rfl|rfl|rfl:=t
 .simp[Jt,ZZ,Y4,Ua,Sg,UB,Vv,VK,setCells];refine U6 3 (I l) (λi=>[(0,.m<|ZZ {s.put 1 l with pm:=Wj s.h 1 s.pm<|l.take i,lm:=Xv s.h 1 s.lm (l.take i)}),(3,.v<|vi i)]) (λ_=>True) (by simp[ZZ,Ck.put,Wj,Xv]) Z1 trivial ?_;intro i p _;have d:=ZA ((i:Int)+1) Z0 Z0;by_cases a:i<I l
  .have f:l[i]?=J l[i]:=Z6b a;have g:=Jk (h:=s.h) (k:=1) (m:=s.pm) f;have j:=Ji (h:=s.h) (k:=1) (m:=s.lm) f;have n:=o 1 (l[i]).Y;simp[a,f,d,ZZ,YZ];refine Zz n Z1 ?_;simp[L6,L7,g,j,d,a];first|done|rfl|exact⟨rfl,rfl⟩
  have:i=I l:=Z0;subst this;simp[ZZ,XI,Z7t]
 .simp[Jt,ZZ,Y4,Ua,Sg,UB,Vv,VK,setCells];refine U6 3 (I l) (λi=>[(0,.m<|ZZ {s.put 2 l with pm:=Wj s.h 2 s.pm<|l.take i,lm:=Xv s.h 2 s.lm (l.take i)}),(3,.v<|vi i)]) (λ_=>True) (by simp[ZZ,Ck.put,Wj,Xv]) Z1 trivial ?_;intro i p _;have d:=ZA ((i:Int)+1) Z0 Z0;by_cases a:i<I l
  .have f:l[i]?=J l[i]:=Z6b a;have g:=Jk (h:=s.h) (k:=2) (m:=s.pm) f;have j:=Ji (h:=s.h) (k:=2) (m:=s.lm) f;have n:=o 2 (l[i]).Y;simp[a,f,d,ZZ,YZ];refine Zz n Z1 ?_;simp[L6,L7,g,j,d,a];first|done|rfl|exact⟨rfl,rfl⟩
  have:i=I l:=Z0;subst this;simp[ZZ,XI,Z7t]
 .simp[Jt,ZZ,Y4,Ua,Sg,UB,Vv,VK,setCells];refine U6 3 (I l) (λi=>[(0,.m<|ZZ {s.put 3 l with pm:=Wj s.h 3 s.pm<|l.take i,lm:=Xv s.h 3 s.lm (l.take i)}),(3,.v<|vi i)]) (λ_=>True) (by simp[ZZ,Ck.put,Wj,Xv]) Z1 trivial ?_;intro i p _;have d:=ZA ((i:Int)+1) Z0 Z0;by_cases a:i<I l
  .have f:l[i]?=J l[i]:=Z6b a;have g:=Jk (h:=s.h) (k:=3) (m:=s.pm) f;have j:=Ji (h:=s.h) (k:=3) (m:=s.lm) f;have n:=o 3 (l[i]).Y;simp[a,f,d,ZZ,YZ];refine Zz n Z1 ?_;simp[L6,L7,g,j,d,a];first|done|rfl|exact⟨rfl,rfl⟩
  have:i=I l:=Z0;subst this;simp[ZZ,XI,Z7t]
 .simp[Jt,ZZ,Y4,Ua,Sg,UB,Vv,VK,setCells];refine U6 3 (I l) (λi=>[(0,.m<|ZZ {s.put 4 l with pm:=Wj s.h 4 s.pm<|l.take i,lm:=Xv s.h 4 s.lm (l.take i)}),(3,.v<|vi i)]) (λ_=>True) (by simp[ZZ,Ck.put,Wj,Xv]) Z1 trivial ?_;intro i p _;have d:=ZA ((i:Int)+1) Z0 Z0;by_cases a:i<I l
  .have f:l[i]?=J l[i]:=Z6b a;have g:=Jk (h:=s.h) (k:=4) (m:=s.pm) f;have j:=Ji (h:=s.h) (k:=4) (m:=s.lm) f;have n:=o 4 (l[i]).Y;simp[a,f,d,ZZ,YZ];refine Zz n Z1 ?_;simp[L6,L7,g,j,d,a];first|done|rfl|exact⟨rfl,rfl⟩
  have:i=I l:=Z0;subst this;simp[ZZ,XI,Z7t]
end Vm
namespace Vm
open Go Go.Proofs
def WN(s:Ck):V:=.ptr [YY s]
def Z0q{s:Ck}{a w:Int}(d:Zy w):VC Tryz.prog 79 xw [vi a,vu w,WN s]<|.bool<|YJ s w 1 2:=by
 refine ZY Tryz.func79 follows Z2 IC rfl ?_;have k:=JB (s:=s) (first:=1) (last:=2) d;unfold WN YY at*;simp[DW,YS,V.aj];refine Zz k Z1 ?_;simp
def Z0r{s:Ck}{a w:Int}(d:Zy w):VC Tryz.prog 80 xw [vi a,vu w,WN s]<|.bool<|decide (s.h.O<=a)||YJ s w 1 2:=by
 refine ZY Tryz.func80 follows Z2 ID rfl ?_;have k:=JB (s:=s) (first:=1) (last:=2) d;unfold WN YY at*;by_cases h:s.h.O<=a;simp[qJ,YS,V.aj,ZZ,h];simp[qJ,YS,V.aj,ZZ,h];refine Zz k (by simp[ZZ]) ?_;simp[h]
def Z1f{s:Ck}{a w:Int}(d:Zy w):VC Tryz.prog 81 xw [vi a,vu w,WN s]<|.bool<|decide (a<s.h.O)||YJ s w 1 4:=by
 refine ZY Tryz.func81 follows Z2 IE rfl ?_;have k:=JB (s:=s) (first:=1) (last:=4) d;unfold WN YY at*;by_cases h:a<s.h.O;simp[qK,YS,V.aj,ZZ,h];simp[qK,YS,V.aj,ZZ,h];refine Zz k (by simp[ZZ]) ?_;simp[h]
def Cc{s:Ck}{a w:Int}(d:Zy w):VC Tryz.prog 82 xw [vi a,vu w,WN s]<|.bool<|YJ s w 3 4:=by
 refine ZY Tryz.func82 follows Z2 IF rfl ?_;have k:=JB (s:=s) (first:=3) (last:=4) d;unfold WN YY at*;simp[DX,YS,V.aj];refine Zz k Z1 ?_;simp
structure Ck.ok (s:Ck):Prop where
 h:s.h.ok
 ob:∀k,∀o∈s.eo k,Rr (I<|Zw s.h k) o/\Zy o.target
 len:∀k,I (s.eo k)<=1000000
def Vw(ws:List Int)(k:Nat):Int:=(ws[k]?).getD 0
def U0(s:Ck)(k:Int)(q:Int->Int->Bool)(o:Ob):Bool:=o.gone||(List.range o.Z.toNat).all λj=>q ((o.Y.toNat+1+j:Nat):Int)<|Vw (Zw s.h k)<|o.Y.toNat+1+j
def Wy(s:Ck)(k:Int)(q:Int->Int->Bool):Bool:=(s.eo k).all<|U0 s k q
def JA{s:Ck}(u:s.ok){k:Int}(W:1<=k/\k<=4){f:FuncId}{cs:List V}{q:Int->Int->Bool}(hq:∀a w,Zy w->VC Tryz.prog f xw ([vi a,vu w]++cs) (.bool<|q a w)):
  VC Tryz.prog 78 xw [YY s,vi k,.dh f cs] (.bool<|Wy s k q):=by
 refine ZY Tryz.func78 follows Z2 IB rfl ?_;simp[-List.all_eq_true,-List.all_eq_false,DV];refine Zz (FZ W) Z1 ?_;have Z:Ya (.agg [.sl<|s.o1.map ZU,.sl<|s.o2.map ZU,.sl<|s.o3.map ZU,.sl<|s.o4.map ZU]) 0=J (.sl<|s.o1.map ZU):=rfl;have Q:=u.len k;have D:=u.ob k;have hw:=(X0 u.h k).1;have Y:=(X0 u.h k).2;have x:Y4 (.agg [.sl<|s.o1.map ZU,.sl<|s.o2.map ZU,.sl<|s.o3.map ZU,.sl<|s.o4.map ZU]) (.int .i64<|IntKind.i64.wrap<|k-1) 4 1 xk=J (.agg [.sl<|(s.eo k).map ZU]):=by
  have:k=1\/k=2\/k=3\/k=4:=Z0;obtain rfl|rfl|rfl|rfl:=this<;>simp[Y4,Ck.eo,Sg,UB,Vv,VK]
 unfold Wy;generalize hL:s.eo k=L at*;generalize S:Zw s.h k=r at*;simp[-List.all_eq_true,-List.all_eq_false,YY,ZZ,x];refine Kd 5 (I L) (λi=>(L.take i).all (U0 s k q)=xk) Z1 Z1 Z1 ?_;intro i hi O;have a0:=ZA ((i:Int)+1) Z0 Z0;by_cases l:i<I L;have M:L[i]?=J L[i]:=Z6b l;obtain⟨⟨⟨a,N,P⟩,F⟩,_⟩:=D _<|Z6E l;generalize L[i]=o at*;obtain⟨s1,s2,s3,s4⟩:=Yq.1 F;obtain⟨m,R⟩:=Z6q s3;have G:=ZA ((a:Int)+1) Z0 Z0;have C:U0 s k q o=xk->(L.take<|i+1).all (U0 s k q)=xk:=λh=>by simp_all[AK]
 have y:U0 s k q o=xw->L.all (U0 s k q)=xw:=λg=>AJ M g;cases z:o.gone;have t:U0 s k q o=(List.range m).all λj=>q ((a+1+j:Nat):Int)<|Vw r<|a+1+j:=by
  unfold U0;rw[R,N,S,z];rfl
 simp[-List.all_eq_true,-List.all_eq_false,l,M,Yk M,YZ,z,N,R];refine Kd 11 m (λj=>((List.range j).all λj=>q ((a+1+j:Nat):Int)<|Vw r<|a+1+j)=xk) Z1 Z1 Z1 ?_;intro j hj T;have a1:=ZA ((j:Int)+1) Z0 Z0;by_cases A:j<m;obtain⟨w,d,hu⟩:∃w,r[a+1+j]?=J w/\Zy w:=⟨_,Z6b Z0,hw _<|Z6E _⟩;have K:Vw r (a+1+j)=w:=by unfold Vw;rw[d];rfl
 have p:((List.range<|j+1).all λj=>q ((a+1+j:Nat):Int)<|Vw r<|a+1+j)=(((List.range j).all λj=>q ((a+1+j:Nat):Int)<|Vw r<|a+1+j)&&q ((a+1+j:Nat):Int) w):=by
  rw[Z8J,List.all_append];simp[K]
 have g:q ((a+1+j:Nat):Int) w=xw->L.all (U0 s k q)=xw:=λg=>y (by
  grind)
 obtain⟨n,X⟩:∃n,a+1+j=n:=⟨_,rfl⟩;have B:(a:Int)+1+(j:Int)=(n:Int):=Z0;have H:=ZA (n:Int) Z0 Z0;rw[X]at d p g;have kq:=hq (n:Int) w hu;simp[-List.all_eq_true,-List.all_eq_false,A,G,B,H,d,Yk d,YZ];refine Zz kq Z1 ?_;simp_all;have:j=m:=Z0;simp_all;have t:U0 s k q o=xk:=by unfold U0;rw[z];rfl
 simp_all;have:i=I L:=Z0;simp_all
@[simp]theorem Z4h l:(V.ptr l).aj=xk:=rfl
@[simp]theorem Z46 l:YS (.ptr l)=J (.ptr l):=rfl
@[simp]theorem Z4d f l:(V.dh f l).aj=xk:=rfl
@[simp]theorem Z42 f l:YS (.dh f l)=J (.dh f l):=rfl
@[simp]theorem Z41 s:YS (YY s)=J (YY s):=rfl
@[simp]theorem Z4c s:(YY s).aj=xk:=rfl
@[simp]theorem Z4F s:UA (YY s)=J (.agg<|ZZ s):=rfl
@[simp]theorem Z2s s:(ZZ s)[4]?=J (vi s.h.O):=rfl
@[simp]theorem Z2l s:(ZZ s)[3]?=J (.bool s.h.M):=rfl
@[simp]theorem Z2r s:(ZZ s)[9]?=J (.sl<|s.h.E.map vu):=rfl
@[simp]theorem Z2p s:(ZZ s)[5]?=J (.sl<|s.h.H.map vu):=rfl
@[simp]theorem Z2n s:(ZZ s)[6]?=J (.sl<|s.h.aa.map vu):=rfl
@[simp]theorem Z2q s:(ZZ s)[7]?=J (.sl<|s.h.ad.map vu):=rfl
@[simp]theorem Z2m s:(ZZ s)[8]?=J (.sl<|s.h.ae.map vu):=rfl
@[simp]theorem Z2k s:(ZZ s)[1]?=J (vi s.h.cap):=rfl
def Rb(s:Ck):Bool:=s.h.E.all (λw=>YJ s w 1 2)&&(Wy s 2 (λ_ w=>YJ s w 1 2)&&Wy s 1 (λa w=>decide (s.h.O<=a)||YJ s w 1 2))
def Z0s{s:Ck}(n:s.ok):VC Tryz.prog 67 xw [YY s]<|.bool<|Rb s:=by
 refine ZY Tryz.func67 follows Z2 Ir rfl ?_;have y:=JA n (k:=2) Z0 (f:=79) (cs:=[WN s]) (q:=λ_ w=>YJ s w 1 2) (λa w l=>Z0q l);have z:=JA n (k:=1) Z0 (f:=80) (cs:=[WN s]) (q:=λa w=>decide (s.h.O<=a)||YJ s w 1 2) (λa w l=>Z0r l);have D:=λw (l:Zy w)=>JB (s:=s) (first:=1) (last:=2) l;have B:=n.h.E;have t:=n.h.cg;unfold Rb;unfold WN at y z;generalize Wy s 2 (λ_ w=>YJ s w 1 2)=A at*;generalize Wy s 1 (λa w=>decide (s.h.O<=a)||YJ s w 1 2)=F at*;simp[-List.all_eq_true,-List.all_eq_false,DO];refine Kd 3 (I s.h.E) (λi=>(s.h.E.take i).all (λw=>YJ s w 1 2)=xk) Z1 Z1 Z1 ?_;intro i G g;have u:=ZA ((i:Int)+1) Z0 Z0;by_cases j:i<I s.h.E;have o:s.h.E[i]?=J s.h.E[i]:=Z6b j;have C:=t _<|Z6E j;generalize s.h.E[i]=w at*;have p:YJ s w 1 2=xw->s.h.E.all (λw=>YJ s w 1 2)=xw:=λr=>AJ o r;have d:=AK (q:=λw=>YJ s w 1 2) o;rw[g]at d;simp[-List.all_eq_true,-List.all_eq_false,j,o,Yk o,YZ];refine Zz (D w C) Z1 ?_;cases x:YJ s w 1 2;simp[-List.all_eq_true,-List.all_eq_false,p x];rw[x]at d;simp[-List.all_eq_true,-List.all_eq_false,u,j,d];have:i=I s.h.E:=Z0;subst this;rw[Z7P]at g;simp[-List.all_eq_true,-List.all_eq_false,g];refine Zz y (by simp[Ws,V.bq]) ?_;cases A;simp;simp;refine Zz z (by simp[Ws,V.bq]) ?_;simp
def Rl(s:Ck):Bool:=Wy s 1 (λa w=>decide (a<s.h.O)||YJ s w 1 4)
def Z1g{s:Ck}(g:s.ok):VC Tryz.prog 68 xw [YY s]<|.bool<|Rl s:=by
 refine ZY Tryz.func68 follows Z2 Is rfl ?_;have d:=JA g (k:=1) Z0 (f:=81) (cs:=[WN s]) (q:=λa w=>decide (a<s.h.O)||YJ s w 1 4) (λa w j=>Z1f j);unfold Rl;unfold WN at d;simp[DP];refine Zz d (by simp[Ws,V.bq]) ?_;simp
def SI(s:Ck):Bool:=Wy s 3 (λ_ w=>YJ s w 3 4)&&Wy s 4 (λ_ w=>YJ s w 3 4)
def Nn{s:Ck}(g:s.ok):VC Tryz.prog 69 xw [YY s]<|.bool<|SI s:=by
 refine ZY Tryz.func69 follows Z2 It rfl ?_;have h:=JA g (k:=3) Z0 (f:=82) (cs:=[WN s]) (q:=λ_ w=>YJ s w 3 4) (λa w d=>Cc d);have j:=JA g (k:=4) Z0 (f:=82) (cs:=[WN s]) (q:=λ_ w=>YJ s w 3 4) (λa w d=>Cc d);unfold SI;unfold WN at h j;generalize Wy s 3 (λ_ w=>YJ s w 3 4)=l at*;generalize Wy s 4 (λ_ w=>YJ s w 3 4)=n at*;simp[DQ];refine Zz h (by simp[Ws,V.bq]) ?_;cases l;simp;simp;refine Zz j (by simp[Ws,V.bq]) ?_;simp
end Vm
namespace Vm
open Go Go.Proofs
def TN(s:Ck):Bool:=ZC (Zv s.h)&&(decide (I s.h.E<=16)&&(decide (0<=s.h.O)&&decide (s.h.O<=I s.h.H)))
def Hj{s:Ck}(f:s.h.ok):VC Tryz.prog 63 xw [YY s]<|.bool<|TN s:=by
 refine ZY Tryz.func63 follows Z2 In rfl ?_;have k:=R7 f.al;unfold TN;unfold Zv YF at k;simp[DM];simp[ZZ];refine Zz k Z1 ?_;have e:ZC {V:=s.h.V,cap:=s.h.cap,to:=s.h.to,H:=(I s.h.H:Int),aa:=(I s.h.aa:Int),ad:=(I s.h.ad:Int),ae:=(I s.h.ae:Int)}=ZC (Zv s.h):=rfl;rw[e];cases ZC (Zv s.h);simp;by_cases d:I s.h.E<=16;have a:(I s.h.E:Int)<=16:=Z0;simp_all;have a:¬(I s.h.E:Int)<=16:=Z0;simp[d,a]
def R6(s:Ck):Bool:=if s.h.M then decide (s.h.O<I s.h.H)else decide (I s.h.ad=0)&&(decide (I s.h.ae=0)&&decide (s.h.O=I s.h.H))
def t7{s:Ck}:VC Tryz.prog 64 xw [YY s]<|.bool<|R6 s:=by
 refine ZY Tryz.func64 follows Z2 Io rfl ?_;unfold R6;cases f:s.h.M;by_cases g:I s.h.ad=0;have a:s.h.ad=[]:=Z7f.1 g;by_cases j:I s.h.ae=0;have d:s.h.ae=[]:=Z7f.1 j;simp[Js,f,a,d];have d:¬s.h.ae=[]:=λe=>j (by simp[e]);simp[Js,f,a,j,d];have a:¬s.h.ad=[]:=λe=>g (by simp[e]);simp[Js,f,g,a];simp[Js,f]
def Ty(s:Ck):Nat:=Yi s.o3+Yi s.o4
@[simp]theorem Z3T s:((ZZ s).drop 17).take 4=[.sl<|s.o1.map ZU,.sl<|s.o2.map ZU,.sl<|s.o3.map ZU,.sl<|s.o4.map ZU]:=rfl
@[simp]theorem Z2o s:I (ZZ s)=23:=rfl
def FQ{s:Ck}(u:s.ok):VC Tryz.prog 83 xw [YY s]<|vi<|Ty s:=by
 refine ZY Tryz.func83 follows Z2 IG rfl ?_;have p:∀k,∀o∈s.eo k,Yo o.size o.Z=xk:=λk o n=>(u.ob k o n).1.2;have M:I s.o3<=1000000:=u.len 3;have N:I s.o4<=1000000:=u.len 4;have a:∀o∈s.o3,Yo o.size o.Z=xk:=p 3;have d:∀o∈s.o4,Yo o.size o.Z=xk:=p 4;have H:=Qu a;have K:=Qu d;have B:Y4 (.agg [.sl<|s.o1.map ZU,.sl<|s.o2.map ZU,.sl<|s.o3.map ZU,.sl<|s.o4.map ZU]) (.int .i64 2) 4 1 xk=J (.agg [.sl<|s.o3.map ZU]):=by simp[Y4]
 have C:Y4 (.agg [.sl<|s.o1.map ZU,.sl<|s.o2.map ZU,.sl<|s.o3.map ZU,.sl<|s.o4.map ZU]) (.int .i64 3) 4 1 xk=J (.agg [.sl<|s.o4.map ZU]):=by simp[Y4]
 simp[DY];refine TB (λ(i:Nat)=>[(2,.v<|vi ((if 0<i then Yi s.o3 else 0)+(if 1<i then Yi s.o4 else 0):Nat)),(3,.v<|vi ((i+3:Nat):Int))]) (λi=>i<=2) (Xa 3 5) 0 Z1 Z1 ?_;rintro i Q;have r:i=0\/i=1\/i=2:=Z0;obtain rfl|rfl|rfl:=r;simp[Vv,B];refine U6 5 (I s.o3) (λj=>[(2,.v<|vi<|Yi<|s.o3.take j),(5,.v<|vi j)]) (λ_=>True) (by simp[Yi]) (λi=>Z1) trivial ?_;rintro j L-;have x:=ZA ((j:Int)+1) Z0 Z0;by_cases h:j<I s.o3;have y:s.o3[j]?=J s.o3[j]:=Z6b h;have f:=a _<|Z6E h;have w:=G7 y;generalize s.o3[j]=o at*;have t:Yi (s.o3.take j)<=256*I s.o3:=by
  refine Z6H (Qu λo n=>a o<|Z7i n) ?_;simp;omega
 obtain⟨q,D,F,G⟩:=Yq.1 f;obtain⟨z,A⟩:=Z6q q;have O:=ZA (1+(z:Int)) Z0 Z0;have P:=ZA ((Yi (s.o3.take j):Int)+(1+z)) Z0 Z0;cases l:o.gone;have g:Wc o=1+z:=by simp[Wc,l,A]
 simp_all;have g:Wc o=0:=by simp[Wc,l]
 simp_all;have:j=I s.o3:=Z0;subst this;rw[Z7P];simp[YZ,ZA];exact⟨1,Z0,Z1,Z69⟩;simp[VK,C];refine U6 5 (I s.o4) (λj=>[(2,.v<|vi (Yi s.o3+Yi (s.o4.take j):Nat)),(5,.v<|vi j)]) (λ_=>True) (by simp[Yi]) (λi=>Z1) trivial ?_;rintro j L-;have x:=ZA ((j:Int)+1) Z0 Z0;by_cases h:j<I s.o4;have y:s.o4[j]?=J s.o4[j]:=Z6b h;have f:=d _<|Z6E h;have w:=G7 y;generalize s.o4[j]=o at*;have t:Yi (s.o4.take j)<=256*I s.o4:=by
  refine Z6H (Qu λo n=>d o<|Z7i n) ?_;simp;omega
 obtain⟨q,D,F,G⟩:=Yq.1 f;obtain⟨z,A⟩:=Z6q q;have O:=ZA (1+(z:Int)) Z0 Z0;have P:=ZA ((Yi s.o3:Int)+Yi (s.o4.take j)+(1+z)) Z0 Z0;cases l:o.gone;have g:Wc o=1+z:=by simp[Wc,l,A]
 simp_all;omega;have g:Wc o=0:=by simp[Wc,l]
 simp_all;have:j=I s.o4:=Z0;subst this;rw[Z7P];simp[YZ,ZA];exact⟨2,Z0,Z1,Z69⟩;simp[Ty]
def R8(s:Ck):Bool:=decide ((I s.h.H:Int)+I s.h.aa+Ty s<=s.h.cap)
def Z1k{s}(a:s.ok):Ty s<=512*1000000:=by
 have f:=Qu (l:=s.o3) λo d=>(a.ob 3 o d).1.2;have g:=Qu (l:=s.o4) λo d=>(a.ob 4 o d).1.2;have h:I s.o3<=1000000:=a.len 3;have j:I s.o4<=1000000:=a.len 4;grind [Ty]
def x5{s:Ck}(a:s.ok):VC Tryz.prog 70 xw [YY s]<|.bool<|R8 s:=by
 refine ZY Tryz.func70 follows Z2 Iu rfl ?_;have g:=Z1k a;have j:=a.h.H;have k:=a.h.aa;have d:=ZA ((I s.h.H:Int)+I s.h.aa) Z0 Z0;have f:=ZA ((I s.h.H:Int)+I s.h.aa+Ty s) Z0 Z0;simp[DR];refine Zz (FQ a) Z1 ?_;simp[d,f,R8]
end Vm
namespace Vm
open Go Go.Proofs
def Wr(lm:List<|Int×(Int×Int))(ws:List Int):Nat->Nat->List (Int×Int)->List (Int×Int)
 |0,_,a=>a
 |f+1,i,a=>
  match ws[i]? with
  |none=>a
  |some w=>if(adr w).2=0 then(match YE lm (adr w).1 with|none=>a|some sh=>Wr lm ws f (i+1+sh.1.toNat)<|a++[sh])
   else if(ZW w).2.2=0 then Wr lm ws f (i+1+(ZW w).1.toNat) a else a
def Vt(lm:List<|Int×(Int×Int))(ws:List Int):List<|Int×Int:=Wr lm ws (I ws+1) 0 []
def BL{α l k}{x:α}(h:YE l k=J x):(k,x)∈l:=by
 obtain⟨y,a,rfl⟩:=Z6f.1 h;grind
def Z0t{s:Ck}(D:∀x∈s.lm,Yo x.2.1 x.2.2=xk){ws:List Int}(M:I ws<=1000000)(L:∀w∈ws,Zy w):
  VC Tryz.prog 75 xw [YY s,.sl<|ws.map vu] (.sl<|(Vt s.lm ws).map XR):=by
 refine ZY Tryz.func75 follows Z2 Iy rfl ?_;have C:∀k,Tk (.i .u64) (Xc XR s.lm) (vu k) (.agg [vi 0,vi 0]) xk=match YE s.lm k with
  |some x=>J<|.am [XR x,.bool xk]
  |none=>J<|.am [.agg [vi 0,vi 0],.bool xw]:=λk=>by grind [KY,YE]
 have B:(ZZ s)[22]?=J (Xc XR s.lm):=rfl;simp[DU]
 refine TB (λ(p:Nat×List (Int×Int))=>[(3,.v<|.sl<|p.2.map XR),(4,.v<|vi p.1)])
  (λp=>p.1<=I ws+256/\I p.2<=p.1/\∃f,I ws<f+p.1/\0<f/\Vt s.lm ws=Wr s.lm ws f p.1 p.2) (Xa 4<|I ws) (0,[]) Z1 ⟨Z1,Z1,I ws+1,Z1,Z0,rfl⟩ ?_
 rintro⟨i,g⟩ ⟨K,r,f,G,H,a⟩;simp only at K r G a;cases f with
 |zero=>omega
 |succ f=>
 by_cases d:i<I ws;have y:ws[i]?=J ws[i]:=Z6b d;have F:=L _<|Z6E d;generalize ws[i]=w at*;simp only[Wr,y]at a;have u:I g+1<=Ye:=Z5N;simp[d,y,Yk y,YZ];refine Zz (Sn F) Z1 ?_;by_cases A:(adr w).2=0;rw[Z6k A]at a;simp[A,B,C];cases t:YE s.lm (adr w).1 with
 |none=>
  simp_all
 |some q=>
  rw[t]at a;simp only at a;have h:0<=q.1/\q.1<=255/\0<=q.2/\q.2<=q.1:=Yq.1<|D _<|BL t;obtain⟨z,o⟩:=Z6q h.1;have l:=ZA (1+(z:Int)) Z0 Z0;have n:=ZA ((i:Int)+(1+z)) Z0 Z0;rw[o,Z6p]at a;simp[u,o,l,n];refine⟨i+1+z,g++[q],⟨Z0,Z5j,f,Z0,?_,a⟩,⟨by simp[XR,o],Z0⟩,Z66⟩;omega
 rw[Z6h A]at a;simp[A,y,Yk y,d,YZ];refine Zz (Aa F) Z1 ?_;by_cases j:(ZW w).2.2=0;rw[Z6k j]at a;have h:=Yq.1<|A9 j;obtain⟨z,o⟩:=Z6q h.1;have l:=ZA (1+(z:Int)) Z0 Z0;have n:=ZA ((i:Int)+(1+z)) Z0 Z0;rw[o,Z6p]at a;simp[j,o,l,n];refine⟨i+1+z,g,⟨Z0,Z0,f,Z0,?_,a⟩,⟨rfl,Z0⟩,Z66⟩;omega;simp_all;simp_all[Z6X,Wr]
end Vm
namespace Vm
open Go Go.Proofs
def Wg(pm:List<|Int×Int):List Ob->List (Int×Bool)->Option (List<|Int×Bool)
 | [],m=>J m
 |o::l,m=>if o.gone=xk then(if(YE pm o.target).getD 0=1/\(YE m o.target).getD xw=xw then Wg pm l (Wp m o.target xk)else U)else Wg pm l m
def Sr(s:Ck):Bool:= !s.h.M||match(Wg s.pm s.o3 []).bind (Wg s.pm s.o4)with
 |none=>xw
 |some m=>decide (I m=I s.o1)
def CG{l k x}:Tl (.i .u64) (Xc .bool l) (vu k) (.bool x)=J (Xc .bool<|Wp l k x):=ql
def RQ{l k}:Tk (.i .u64) (Xc .bool l) (vu k) (.bool xw) xw=J (.bool<|(YE l k).getD xw):=by
 grind [KY]
def RS{l k}:Tk (.i .u64) (Xc vi l) (vu k) (vi 0) xw=J (vi<|(YE l k).getD 0):=by
 grind [KY]
def O3{α}(f:α->V):Xc f []=.mp 0 [] []:=rfl
def IV{s:Ck}(t:s.ok):VC Tryz.prog 66 xw [YY s]<|.bool<|Sr s:=by
 refine ZY Tryz.func66 follows Z2 Iq rfl ?_;have K:I s.o3<=1000000:=t.len 3;have L:I s.o4<=1000000:=t.len 4;have A:∀o∈s.o3,Zy o.target:=λo z=>(t.ob 3 o z).2;have B:∀o∈s.o4,Zy o.target:=λo z=>(t.ob 4 o z).2;have G:Y4 (.agg [.sl<|s.o1.map ZU,.sl<|s.o2.map ZU,.sl<|s.o3.map ZU,.sl<|s.o4.map ZU]) (.int .i64 2) 4 1 xk=J (.agg [.sl<|s.o3.map ZU]):=by simp[Y4]
 have H:Y4 (.agg [.sl<|s.o1.map ZU,.sl<|s.o2.map ZU,.sl<|s.o3.map ZU,.sl<|s.o4.map ZU]) (.int .i64 3) 4 1 xk=J (.agg [.sl<|s.o4.map ZU]):=by simp[Y4]
 have F:Y4 (.agg [.sl<|s.o1.map ZU,.sl<|s.o2.map ZU,.sl<|s.o3.map ZU,.sl<|s.o4.map ZU]) (.int .i64 0) 4 1 xk=J (.agg [.sl<|s.o1.map ZU]):=by simp[Y4]
 have k:(ZZ s)[21]?=J (Xc vi s.pm):=rfl;have y:=(O3 V.bool).symm;unfold Sr;cases D:s.h.M;simp[qH,D];simp[qH,D,y]
 refine TB (λ(p:Nat×List (Int×Bool))=>[(3,.v<|Xc .bool p.2),(4,.v<|vi ((p.1+3:Nat):Int))])
  (λp=>(p.1=0/\p.2=[])\/(p.1=1/\Wg s.pm s.o3 []=J p.2)\/(p.1=2/\(Wg s.pm s.o3 []).bind (Wg s.pm s.o4)=J p.2)) (Xa 4 5) (0,[]) Z1 Z1 ?_
 rintro⟨i,m⟩ (⟨rfl,rfl⟩|⟨rfl,x⟩|⟨rfl,x⟩);simp[Vv,G];refine TB (λ(p:Nat×List (Int×Bool))=>[(3,.v<|Xc .bool p.2),(6,.v<|vi p.1)]) (λp=>p.1<=I s.o3/\Wg s.pm s.o3 []=Wg s.pm (s.o3.drop p.1) p.2) (Xa 6<|I s.o3) (0,[]) Z1 Z1 ?_;rintro⟨j,r⟩ ⟨w,a⟩;simp only at w a;have d:=ZA ((j:Int)+1) Z0 Z0;by_cases g:j<I s.o3;have f:s.o3[j]?=J s.o3[j]:=Z6b g;have u:=Z7a g;have C:=A _<|Z6E g;generalize s.o3[j]=o at*;rw[u,Wg]at a;cases l:o.gone;rw[l]at a;rw[Z6h Z1]at a;simp[YZ,g,f,Yk f,l,d];exact⟨j+1,r,⟨Z0,a⟩,⟨rfl,Z0⟩,Z66⟩;rw[l]at a;rw[Z6k rfl]at a;by_cases n:(YE s.pm o.target).getD 0=1;cases q:(YE r o.target).getD xw;rw[Z6k ⟨n,q⟩]at a;simp[YZ,g,f,Yk f,l,d,k,RS,RQ,Ws,V.bq,n,q,CG];exact⟨j+1,Wp r o.target xk,⟨Z0,a⟩,⟨rfl,Z0⟩,Z66⟩;rw[Z6h (by simp[q])]at a;simp[YZ,g,f,Yk f,l,d,k,RS,RQ,Ws,V.bq,n,q,a];rw[Z6h (by simp[n])]at a;simp[YZ,g,f,Yk f,l,d,k,RS,RQ,Ws,V.bq,n,a];have:j=I s.o3:=Z0;subst this;rw[List.drop_length,Wg]at a;simp[ZA];exact⟨1,r,by simp[a],Z1,Z69⟩;simp[VK,H];refine TB (λ(p:Nat×List (Int×Bool))=>[(3,.v<|Xc .bool p.2),(6,.v<|vi p.1)]) (λp=>p.1<=I s.o4/\Wg s.pm s.o4 m=Wg s.pm (s.o4.drop p.1) p.2) (Xa 6<|I s.o4) (0,m) Z1 Z1 ?_;rintro⟨j,r⟩ ⟨w,a⟩;simp only at w a;have d:=ZA ((j:Int)+1) Z0 Z0;by_cases g:j<I s.o4;have f:s.o4[j]?=J s.o4[j]:=Z6b g;have u:=Z7a g;have C:=B _<|Z6E g;generalize s.o4[j]=o at*;rw[u,Wg]at a;cases l:o.gone;rw[l]at a;rw[Z6h Z1]at a;simp[YZ,g,f,Yk f,l,d];exact⟨j+1,r,⟨Z0,a⟩,⟨rfl,Z0⟩,Z66⟩;rw[l]at a;rw[Z6k rfl]at a;by_cases n:(YE s.pm o.target).getD 0=1;cases q:(YE r o.target).getD xw;rw[Z6k ⟨n,q⟩]at a;simp[YZ,g,f,Yk f,l,d,k,RS,RQ,Ws,V.bq,n,q,CG];exact⟨j+1,Wp r o.target xk,⟨Z0,a⟩,⟨rfl,Z0⟩,Z66⟩;rw[Z6h (by simp[q])]at a;simp[YZ,g,f,Yk f,l,d,k,RS,RQ,Ws,V.bq,n,q,x,a];rw[Z6h (by simp[n])]at a;simp[YZ,g,f,Yk f,l,d,k,RS,RQ,Ws,V.bq,n,x,a];have:j=I s.o4:=Z0;subst this;rw[List.drop_length,Wg]at a;simp[ZA];exact⟨2,r,Z5h,Z1,Z69⟩;simp[Sg,Vv,F];grind
end Vm
namespace Vm
open Go Go.Proofs
def Sl:Prop:=∀a:List Int,I a<=1000000->(∀w∈a,Zy w)->VC Tryz.prog 72 xk [.sl<|a.map vu] (.am [.sl<|(ZQ a [] xw).1.map ZU,vi (ZQ a [] xw).2])
def Sm:Prop:=∀(d:List Int) (a:List<|Int×Int),I d<=1000000->I a<=1000000->(∀w∈d,Zy w)->(∀x∈a,Yo x.1 x.2=xk)->
 VC Tryz.prog 74 xk [.sl<|d.map vu,.sl<|a.map XR] (.am [.sl<|(ZQ d a xk).1.map ZU,vi (ZQ d a xk).2])
def Xj(s:Ck)(k:Int):List Ob×Int:=if k<=2 then ZQ (Zw s.h k) [] xw else ZQ (Zw s.h k) (Vt s.lm<|Zw s.h k) xk
def WB:List Int->Ck->Bool×Ck
 | [],s=>(xk,s)
 |k::l,s=>if(Xj s k).2=0 then WB l (XI s k (Xj s k).1)else(xw,s)
def XT(s:Ck):Bool×Ck:=WB [1,2,3,4] s
def SO s k l:(XI s k l).h=s.h:=PL s k l
def PH{α l k x}{y:Int×α}(h:y∈Wp l k x):y=(k,x)\/y∈l:=by
 grind [Wp]
def RW{h k}:∀ {l} {m:List (Int×(Int×Int))},(∀o∈l,Yo o.size o.Z=xk)->(∀x∈m,Yo x.2.1 x.2.2=xk)->∀x∈Xv h k m l,Yo x.2.1 x.2.2=xk
 | [],m,_,a=>a
 |o::l,m,f,a=>by
  rw[Xv];refine RW Z5i ?_;split;intro x d;obtain rfl|d:=PH d;simp_all;grind;exact a
def Kb{s}(a:s.h.ok){k}:(∀o∈(Xj s k).1,Rr (I<|Zw s.h k) o/\Zy o.target)/\(Xj s k).1.length<=I (Zw s.h k):=by
 unfold Xj;split;exact⟨Qq (X0 a k).1,Qr⟩;exact⟨Qq (X0 a k).1,Qr⟩
def jK{lm ws}:∀ {f i} {a:List (Int×Int)},I a<=i->I a<=I ws->I (Wr lm ws f i a)<=I ws
 |0,i,a,_,h=>h
 |f+1,i,a,j,h=>by
  rw[Wr];cases g:ws[i]? with
  |none=>exact h
  |some w=>
   have d:=(Z6d.1 g).1;simp only;split;split;exact h;exact jK Z5j Z5j;split;exact jK Z0 h;exact h
def Fd{lm ws}:I (Vt lm ws)<=I ws:=jK Z1 Z1
def LU{lm ws}(d:∀x∈lm,Yo x.2.1 x.2.2=xk):∀ {f i} {a:List (Int×Int)},(∀x∈a,Yo x.1 x.2=xk)->∀x∈Wr lm ws f i a,Yo x.1 x.2=xk
 |0,i,a,h=>h
 |f+1,i,a,h=>by
  rw[Wr];cases g:ws[i]? with
  |none=>exact h
  |some w=>
   simp only;split;split;exact h;rename_i k j;refine LU d ?_;intro x g;obtain g|g:=Z6Q.1 g;grind;simp at g;subst g;exact d _<|BL j;split;exact LU d h;exact h
def zg:IntKind.i64.wrap 4=4:=Z5q
def Z1q(G:Sl)(C:Sm){s:Ck}(H:s.h.ok)(F:∀x∈s.lm,Yo x.2.1 x.2.2=xk):UH Tryz.prog 65 [.mem Kv] [.agg<|ZZ s]<|.am [.bool (XT s).1,.agg<|ZZ (XT s).2]:=by
 refine FP Tryz.func65 follows Z2 Ip Z2 ?_;simp[DN];refine TB (λ(p:Nat×Ck)=>[(0,.m<|ZZ p.2),(3,.v<|vi p.1)]) (λp=>p.1<=4/\p.2.h=s.h/\(∀x∈p.2.lm,Yo x.2.1 x.2.2=xk)/\XT s=WB ([1,2,3,4].drop p.1) p.2) (Xa 3 4) (0,s) Z1 ⟨Z1,rfl,F,rfl⟩ ?_;rintro⟨i,q⟩ ⟨K,B,n,f⟩;simp only at K B n f;have d:q.h.ok:=B▸H;have D:i=0\/i=1\/i=2\/i=3\/i=4:=Z0;have j:=λk L=>FZ (s:=q) (k:=k) L;have y:=λk=>Z0t (s:=q) n (X0 d k).2 (X0 d k).1;obtain rfl|rfl|rfl|rfl|rfl:=D;replace j:=j 1 Z0;have st:=Kb d (k:=1);have u:=L9 (s:=q) d (k:=1) Z0 (l:=(Xj q 1).1)<|Z6H st.2 (X0 d 1).2;have t:=G _ (X0 d 1).2 (X0 d 1).1;have g:=RW (h:=q.h) (k:=1) (l:=(Xj q 1).1) (m:=q.lm) (λo A=>(st.1 o A).1.2) n;replace f:XT s=WB (1:: [2,3,4]) q:=f;rw[WB]at f;have r:Xj q 1=ZQ (Zw q.h 1) [] xw:=rfl;rw[<-r]at t;generalize Xj q 1=z at*;obtain⟨l,e⟩:=z;simp only at t u f g st;unfold YY ZZ at j;unfold ZZ at u;simp[ZZ,UB,Vv,VK,zg];refine Zz j Z1 ?_;simp;refine Zz t Z1 ?_;simp;by_cases w:e=0;rw[Z6k w]at f;simp[w];refine QE u ?_;simp[ZA];exact⟨1,XI q 1 l,⟨Z0,by rw[SO,B],λa b c h=>g (a,b,c) h,f⟩,⟨Z1,rfl⟩,Z69⟩;simp_all;replace j:=j 2 Z0;have st:=Kb d (k:=2);have u:=L9 (s:=q) d (k:=2) Z0 (l:=(Xj q 2).1)<|Z6H st.2 (X0 d 2).2;have t:=G _ (X0 d 2).2 (X0 d 2).1;have g:=RW (h:=q.h) (k:=2) (l:=(Xj q 2).1) (m:=q.lm) (λo A=>(st.1 o A).1.2) n;replace f:XT s=WB (2:: [3,4]) q:=f;rw[WB]at f;have r:Xj q 2=ZQ (Zw q.h 2) [] xw:=rfl;rw[<-r]at t;generalize Xj q 2=z at*;obtain⟨l,e⟩:=z;simp only at t u f g st;unfold YY ZZ at j;unfold ZZ at u;simp[ZZ,UB,Vv,VK,zg];refine Zz j Z1 ?_;simp;refine Zz t Z1 ?_;simp;by_cases w:e=0;rw[Z6k w]at f;simp[w];refine QE u ?_;simp[ZA];exact⟨2,XI q 2 l,⟨Z0,by rw[SO,B],λa b c h=>g (a,b,c) h,f⟩,⟨Z1,rfl⟩,Z69⟩;simp_all;replace j:=j 3 Z0;have st:=Kb d (k:=3);have u:=L9 (s:=q) d (k:=3) Z0 (l:=(Xj q 3).1)<|Z6H st.2 (X0 d 3).2;have t:=C _ (Vt q.lm<|Zw q.h 3) (X0 d 3).2 (Z6H Fd (X0 d 3).2) (X0 d 3).1<|LU n Z1;replace y:=y 3;have g:=RW (h:=q.h) (k:=3) (l:=(Xj q 3).1) (m:=q.lm) (λo A=>(st.1 o A).1.2) n;replace f:XT s=WB (3:: [4]) q:=f;rw[WB]at f;have r:Xj q 3=ZQ (Zw q.h 3) (Vt q.lm<|Zw q.h 3) xk:=rfl;rw[<-r]at t;generalize Xj q 3=z at*;obtain⟨l,e⟩:=z;simp only at t u f g st;unfold YY ZZ at j y;unfold ZZ at u;simp[ZZ,UB,Vv,VK,zg];refine Zz j Z1 ?_;simp;refine Zz j Z1 ?_;simp;refine Zz y Z1 ?_;simp;refine Zz t Z1 ?_;simp;by_cases w:e=0;rw[Z6k w]at f;simp[w];refine QE u ?_;simp[ZA];exact⟨3,XI q 3 l,⟨Z0,by rw[SO,B],λa b c h=>g (a,b,c) h,f⟩,⟨Z1,rfl⟩,Z69⟩;simp_all;replace j:=j 4 Z0;have st:=Kb d (k:=4);have u:=L9 (s:=q) d (k:=4) Z0 (l:=(Xj q 4).1)<|Z6H st.2 (X0 d 4).2;have t:=C _ (Vt q.lm<|Zw q.h 4) (X0 d 4).2 (Z6H Fd (X0 d 4).2) (X0 d 4).1<|LU n Z1;replace y:=y 4;have g:=RW (h:=q.h) (k:=4) (l:=(Xj q 4).1) (m:=q.lm) (λo A=>(st.1 o A).1.2) n;replace f:XT s=WB (4:: []) q:=f;rw[WB]at f;have r:Xj q 4=ZQ (Zw q.h 4) (Vt q.lm<|Zw q.h 4) xk:=rfl;rw[<-r]at t;generalize Xj q 4=z at*;obtain⟨l,e⟩:=z;simp only at t u f g st;unfold YY ZZ at j y;unfold ZZ at u;simp[ZZ,UB,Vv,VK,zg];refine Zz j Z1 ?_;simp;refine Zz j Z1 ?_;simp;refine Zz y Z1 ?_;simp;refine Zz t Z1 ?_;simp;by_cases w:e=0;rw[Z6k w]at f;simp[w];refine QE u ?_;simp[ZA];exact⟨4,XI q 4 l,⟨Z0,by rw[SO,B],λa b c h=>g (a,b,c) h,f⟩,⟨Z1,rfl⟩,Z69⟩;simp_all;replace f:XT s=(xk,q):=f;simp[f,ZZ]
end Vm
namespace Vm
open Go Go.Proofs
def Z1j{P f ks cs r}(hv:VC P f xw [.ptr cs] r)(G:r.bq=xk)(l:I cs=I ks)(u:cs.all V.aj=xk)(D:ks.all (λk=> !(k==.gu))=xk):
  UH P f [.mem ks] [.agg cs] (.am [r,.agg cs]):=by
 let⟨Q,R⟩:=hv;refine⟨Q,λB w h vs a S=> ?_⟩;let⟨a3,a2,C⟩:=S;let⟨tk,j,z⟩:=C 0 _ _ rfl rfl;simp only[We]at j;rw[Z6k l]at j;simp at j;subst j;let⟨b,O,T,q,M,hh,o⟩:=z;have n:∀(ks:List CK) cs,I cs=I ks->YB [] (((ks.zip cs).map λy=>(y.1,E.c y.2)).map (·.2))=J cs:=by
  intro ks;induction ks with
  |nil=>simp
  |cons k ks ih=>
   intro cs hl;obtain _|⟨c,cs⟩:=cs;simp at hl;simp_all
 have hz:eval [] (.pt U (((ks.zip cs).map λy=>(y.1,E.c y.2)).map (·.2)))=J (.ptr cs):=by
  simp only[eval,n ks cs l,Z6s,JC,u,Z7m]
 have Y:Wd ((ks.zip cs).map λy=>(y.1,E.c y.2))=xw:=by
  rw[Wd,Z8O];intro x N;obtain⟨y,A,rfl⟩:=Z6F.1 N;have:=Z6y.1 D y.1 (List.of_mem_zip A).1;simpa using this
 have a1:=J7 (G':=λb=>h.F b\/∃t i,h.bl t i=J b) q hh o Y hz (λb d=>.inl d) λi b d=>.inr ⟨0,i,d⟩;refine Z84 (R w (λb=>h.F b\/∃t i,h.bl t i=J b) vs (λb d=> ?_) Z0 λi x N=> ?_) λe w' Z=> ?_;obtain d|⟨t,i,d⟩:=d;exact a.cd b d;exact(a.ax t i b d).2.1;grind;obtain⟨v,rfl,g,L⟩:=Z;have p:=g.size;have X:=λb d=>g.block b<|a.cd b d;have W:=λt i b d=>g.block b (a.ax t i b d).2.1;have K:O.size=I cs:=by
  have:=o.1;simp at this;omega
 refine⟨v,r,[.agg cs],h,rfl,g.mono a.V,λb d=>g.block b<|a.cw b d,⟨Z6H a.V p,λb d=>Z6o (a.cd b d) p,a.dl,a.gs,λt i b d=> ?_,a.inj,λb d=>Z6o (a.cw b d) p,a.cl,a.fw⟩,rfl,L.io G,⟨rfl,λi k y H a0 A=> ?_⟩,rfl⟩;let⟨q1,q2,q3⟩:=a.ax t i b d;grind;cases i with
 |zero=>
  simp at H A;subst H;subst A;refine⟨.mem _,by rw[We,Z6k l],b,O,T,q,M,?_,o.keep X Z1 Z1 λi b d=>W 0 _ b d⟩;grind
 |succ i=>simp at H
end Vm
namespace Vm
open Go Go.Proofs
def Ux:List FuncId:=[63,64,65,66,67,68,69,70]
def yo(f:FuncId):V:=.agg [.fn f]
def Z00:VC Tryz.prog 52 xw []<|.sl<|Ux.map yo:=by
 refine ZY Tryz.func52 follows Z2 Ih rfl ?_;simp[DH,Ux,yo]
def Ts(f:FuncId)(s:Ck):Bool×Ck:=
 if f=63 then(TN s,s)else if f=64 then(R6 s,s)else if f=65 then XT s
 else if f=66 then(Sr s,s)else if f=67 then(Rb s,s)else if f=68 then(Rl s,s)else if f=69 then(SI s,s)else(R8 s,s)
structure Ck.okk (s:Ck):Prop where
 ok:s.ok
 lm:∀x∈s.lm,Yo x.2.1 x.2.2=xk
def Ck.lq(s:Ck)k l(a:1<=k/\k<=4)j:(s.put k l).eo j=if j=k\/(k=4/\¬(j=1\/j=2\/j=3))then l else s.eo j:=by
 have:k=1\/k=2\/k=3\/k=4:=Z0;obtain rfl|rfl|rfl|rfl:=this<;>simp[Ck.put,Ck.eo]<;>(split<;>simp_all)<;>(grind)<;>(grind)
def Om{s}(d:s.okk){k}(g:1<=k/\k<=4):(XI s k (Xj s k).1).okk:=by
 have st:=Kb d.ok.h (k:=k);have l:=(X0 d.ok.h k).2;have a:∀j,(XI s k (Xj s k).1).eo j=((s.put k (Xj s k).1).eo j):=λj=>rfl;refine⟨⟨by rw[SO];exact d.ok.h,λj o f=> ?_,λj=> ?_⟩,RW (λo f=>(st.1 o f).1.2) d.lm⟩;rw[SO];rw[a,Ck.lq _ _ _ g]at f;split at f;rename_i h;have:Zw s.h j=Zw s.h k:=by
  obtain rfl|⟨rfl,h⟩:=h;rfl;simp_all[Z9O,Zw]
 simp_all;exact d.ok.ob j o f;rw[a,Ck.lq _ _ _ g];split;omega;exact d.ok.len j
def FW:∀ {l} {s:Ck},(∀k∈l,1<=k/\k<=4)->s.okk->(WB l s).2.okk/\(WB l s).2.h=s.h
 | [],s,_,a=>⟨a,rfl⟩
 |k::l,s,d,a=>by
  rw[WB];split;simp_all[FW,Om,SO];simp_all
def Z1o{s}(a:s.okk):(XT s).2.okk/\(XT s).2.h=s.h:=FW Z1 a
def EV{s}(a:s.okk){f}:(Ts f s).2.okk/\(Ts f s).2.h=s.h:=by
 unfold Ts;repeat' split
 all_goals first|exact⟨a,rfl⟩|exact Z1o a
def x7(j:Sl)(d:Sm){s:Ck}(a:s.okk){f:FuncId}(g:f∈Ux):UH Tryz.prog f [.mem Kv] [.agg<|ZZ s]<|.am [.bool (Ts f s).1,.agg<|ZZ (Ts f s).2]:=by
 have go:∀ {f b},VC Tryz.prog f xw [YY s] (.bool b)->UH Tryz.prog f [.mem Kv] [.agg<|ZZ s] (.am [.bool b,.agg<|ZZ s]):=λh=>Z1j h rfl rfl rfl rfl;simp only[Ux,Z6S,Z8C,Z9P]at g;obtain rfl|rfl|rfl|rfl|rfl|rfl|rfl|rfl:=g;exact go<|Hj a.ok.h;exact go t7;exact Z1q j d a.ok.h a.lm;exact go<|IV a.ok;exact go<|Z0s a.ok;exact go<|Z1g a.ok;exact go<|Nn a.ok;exact go<|x5 a.ok
def SK:List FuncId->Ck->Option Ck
 | [],s=>J s
 |f::l,s=>if(Ts f s).1=xk then SK l (Ts f s).2 else U
def Xt(h:Hp):Ck:= {h:=h,o1:=[],o2:=[],o3:=[],o4:=[],pm:=[],lm:=[]}
def V4(h:Hp):Option Ck:=SK Ux<|Xt h
def BV{h}(a:h.ok):(Xt h).okk:=by
 have f:∀k,(Xt h).eo k=[]:=λk=>by simp[Xt,Ck.eo]
 refine⟨⟨a,λk o g=> ?_,λk=> ?_⟩,λx d=>(by simp[Xt]at d)⟩;simp_all;simp_all
def yX(x:Sl)(k:Sm){h:Hp}(z:h.ok):VC Tryz.prog 39 xw [ZF h]<|.am [match V4 h with|some s=>YY s|none=>.lz 0,.bool (V4 h).isSome]:=by
 refine ZY Tryz.func39 follows Z2 I9 rfl ?_;have u:=zo (h:=h);have C:=Z00;have a:I Ux=8:=rfl;unfold ZF at u;simp[DC];refine Zz u Z1 ?_;simp[YF,Zv];refine Zz C Z1 ?_;simp;refine TB (λ(p:Nat×Ck)=>[(5,.m<|ZZ p.2),(6,.v<|vi p.1)]) (λp=>p.1<=8/\p.2.okk/\V4 h=SK (Ux.drop p.1) p.2) (Xa 6 8) (0,Xt h) (by rfl) ⟨Z1,BV z,rfl⟩ ?_;rintro⟨i,q⟩ ⟨A,n,g⟩;simp only at A n g;have o:=ZA ((i:Int)+1) Z0 Z0;by_cases d:i<I Ux;have t:Ux[i]?=J Ux[i]:=Z6b d;have y:=Z7a d;have B:=Z6E d;generalize Ux[i]=f at*;rw[y,SK]at g;have w:=x7 x k n B;have l:=(EV n (f:=f)).1;rw[a]at d;have j:(i:Int)<8:=Z0;simp[YZ,d,j,t,Yk t,a,yo,ZZ];unfold ZZ at w;refine QE w ?_;cases r:(Ts f q).1;rw[Z6h (by simp[r])]at g;simp[g];rw[Z6k r]at g;simp[o];exact⟨i+1,(Ts f q).2,⟨Z0,l,g⟩,⟨Z1,Z0⟩,Z66⟩;have:i=8:=Z0;subst this;replace g:V4 h=J q:=g;simp[a,g,ZZ,YY]
def Cj:∀ {l} {s q:Ck},s.okk->SK l s=J q->q.okk/\q.h=s.h
 | [],s,q,a,h=>by simp[SK]at h;subst h;exact⟨a,rfl⟩
 |f::l,s,q,a,h=>by
  rw[SK]at h;split at h;have d:=EV a (f:=f);have g:=Cj d.1 h;exact⟨g.1,Z5i⟩;cases h
def Nv{h}(a:h.ok){q}(d:V4 h=J q):q.okk/\q.h=h:=Cj (BV a) d
def Gf(d:Sl)(a:Sm){h:Hp}(f:h.ok):VC Tryz.prog 17 xw [ZF h]<|.bool (V4 h).isSome:=by
 refine ZY Tryz.func17 follows Z2 Hu rfl ?_;simp[Du];refine Zz (yX d a f) Z1 ?_;simp
def Jn(h:Hp)(k:Int):List Ob×Int:=match V4 h with
 |some s=>if 1<=k/\k<=4 then(s.eo k,0)else([],1)
 |none=>([],1)
def Ge(l:Sl)(f:Sm){h:Hp}(n:h.ok){k:Int}:VC Tryz.prog 21 xw [ZF h,vi k]<|.am [.sl<|(Jn h k).1.map ZU,vi (Jn h k).2]:=by
 refine ZY Tryz.func21 follows Z2 Hw rfl ?_;simp[Dw];refine Zz (yX l f n) Z1 ?_;unfold Jn;cases o:V4 h with
 |none=>simp
 |some s=>
  by_cases g:1<=k;by_cases j:k<=4;have:k=1\/k=2\/k=3\/k=4:=Z0;obtain rfl|rfl|rfl|rfl:=this<;>simp[Y4,Sg,UB,Vv,VK,Ck.eo];have a:¬k<1:=Z0;have d:4<k:=Z0;simp[g,j,a,d];have a:k<1:=Z0;simp[g,a]
def zh(h:Hp):Nat:=match V4 h with
 |some s=>Ty s
 |none=>0
def Gh(f:Sl)(a:Sm){h:Hp}(d:h.ok):VC Tryz.prog 112 xw [ZF h]<|vi<|zh h:=by
 refine ZY Tryz.func112 follows Z2 Hn rfl ?_;simp[Dn];refine Zz (yX f a d) Z1 ?_;unfold zh;cases g:V4 h with
 |none=>simp
 |some s=>
  simp;refine Zz (FQ (Nv d g).1.ok) Z1 ?_;simp
end Vm
end
section
namespace Vm
open Go Go.Proofs
def Tiles.order{ws old}:∀ {a} {l:List Ob},Tiles ws old a l->l.Pairwise λx y=>x.Y<y.Y
 |_,[],_=>.nil
 |a,o::l,h=>by
  refine .cons (λx d=> ?_)<|Tiles.order h.2.2;have:=(Tiles.aq h.2.2 x d).2;have:=h.1;omega
def jW{h}(f:ZC (Zv h)=xk){k}(d:1<=k/\k<=4){old o}(a:Stands (Zw h k) old o):YP h k o.Y=ZD (Zv h) k+o.Y:=by
 have:=Yq.1 a.shape;have:=a.ah;have:=a.gd;grind [YP,TI,Uy]
def Z0M{h}(f:ZC (Zv h)=xk){k}(d:1<=k/\k<=4){old o}(a:Stands (Zw h k) old o):Y3 (Zv h) (YP h k o.Y)=(k,o.Y,0):=by
 have:=Yq.1 a.shape;have:=a.ah;have:=a.gd;rw[jW f d a];grind [Td,Uy]
def Tiles.mq{h}(f:ZC (Zv h)=xk){k}(d:1<=k/\k<=4){old l}(a:Tiles (Zw h k) old 0 l):l.Pairwise λx y=>YP h k x.Y≠YP h k y.Y:=by
 refine List.Pairwise.imp_of_mem ?_ a.order;intro x y j n g;rw[jW f d (a.aq x j).1,jW f d (a.aq y n).1];omega
def CY{h a}:∀ {l} {m:List (Int×(Int×Int))},(l.Pairwise λx y=>YP h 1 x.Y≠YP h 1 y.Y)->YE (Xv h 1 m l) a=match YA h 1 l a with
  |some o=>J (o.size,o.Z)
  |none=>YE m a
 | [],m,_=>rfl
 |o::l,m,f=>by
  let⟨g,d⟩:=Z9a.1 f;rw[Xv,CY d];unfold YA;cases j:l.find? (λo=>YP h 1 o.Y==a)with
  |some q=>
   grind
  |none=>
   simp[yt];grind [YP,Zv]
def qu{h k}(a:¬k=1):∀ {l} {m:List (Int×(Int×Int))},Xv h k m l=m
 | [],m=>rfl
 |o::l,m=>by simp_all[Xv,qu]
def Jj{h k a}:∀ {l} {m:List (Int×Int)},YE (Wj h k m l) a=if(YA h k l a).isSome=xk then J k else YE m a
 | [],m=>rfl
 |o::l,m=>by
  rw[Wj,Jj];unfold YA;rw[yt];by_cases f:YP h k o.Y=a;have d:(Y1 _ k o.Y).1=a:=f;have:(YP h k o.Y==a)=xk:=Z5y;simp[this,d];have d:¬(Y1 _ k o.Y).1=a:=f;have:(YP h k o.Y==a)=xw:=Z5y;simp[this,d]
def jL{lm ws}:∀f i a,∃r,Wr lm ws f i a=a++r
 |0,_,a=>⟨[],by simp[Wr]⟩
 |f+1,i,a=>by
  rw[Wr];cases ws[i]? with
  |none=>simp
  |some w=>
   simp only;split;split;simp;obtain⟨r,d⟩:=jL (lm:=lm) (ws:=ws) f _ _;exact⟨_,by rw[d,Z6Y]⟩;split;exact jL f _ _;simp
def LS{lm h low}(j:∀a,YE lm a=(YA h 1 low a).map λo=>(o.size,o.Z)){ws}:∀f i g k,WK h ws low f i g=J k->Wr lm ws f i g=k
 |0,_,_,_,d=>by simp[WK]at d
 |f+1,i,g,k,d=>by
  rw[WK]at d;rw[Wr];cases q:ws[i]? with
  |none=>rw[q]at d;simpa using d
  |some w=>
   rw[q]at d;simp only at d⊢;by_cases l:(adr w).2=0;rw[Z6k l]at d⊢;rw[j];cases n:YA h 1 low (adr w).1 with
   |none=>rw[n]at d;cases d
   |some o=>rw[n]at d;exact LS j _ _ _ _ d
   rw[Z6h l]at d⊢;by_cases p:(ZW w).2.2=0;rw[Z6k p]at d⊢;exact LS j _ _ _ _ d;rw[Z6h p]at d;cases d
def LT{lm h low}(k:∀a,YE lm a=(YA h 1 low a).map λo=>(o.size,o.Z)){ws}:∀f i d,0<f->I ws<f+i->WK h ws low f i d=U->
  ∀l j,(Xi ws (Wr lm ws f i d) xk l i (I d) j).2≠0
 |0,_,_,u,_,_=>Z0
 |f+1,i,d,u,D,g=>by
  intro l j;cases l with
  |zero=>simp[Xi]
  |succ l=>
   rw[WK]at g;rw[Wr,Xi];cases t:ws[i]? with
   |none=>simp_all
   |some w=>
    have x:=(Z6d.1 t).1;rw[t]at g;simp only at g⊢;by_cases p:(adr w).2=0;rw[Z6k p]at g⊢;rw[k];cases y:YA h 1 low (adr w).1 with
    |none=>
     simp[Option.map_none];have:XZ d xk i (I d) w=U:=by
      unfold XZ;rw[Z6k ⟨rfl,p⟩];simp
     rw[this];simp
    |some o=>
     rw[y]at g;simp[Z8i]at g⊢;let⟨r,z⟩:=jL (lm:=lm) (ws:=ws) f (i+1+o.size.toNat)<|d++[(o.size,o.Z)];have C:=LT k f _ _ Z0 Z0 g l;generalize Wr lm ws f _ _=n at*;have A:n[I d]?=J (o.size,o.Z):=by rw[z];simp
     unfold XZ;rw[Z6k ⟨rfl,p⟩,A];simp only;by_cases q:Yo o.size o.Z=xk;rw[Z6k q];simp only;split;simp;split;simp;simp_all;simp_all
    rw[Z6h p]at g⊢;by_cases B:(ZW w).2.2=0;rw[Z6k B]at g⊢;have C:=LT k f _ d Z0 Z0 g l;generalize Wr lm ws f _ d=n at*;unfold XZ;grind;simp_all[XZ]
structure Found (h:Hp) (s:Ck) (p:Pts):Prop where
 hp:s.h=h
 o1:s.o1=p.H
 o2:s.o2=p.aa
 o3:s.o3=p.ad
 o4:s.o4=p.ae
 pm:s.pm=Wj h 4 (Wj h 3 (Wj h 2 (Wj h 1 [] p.H) p.aa) p.ad) p.ae
def Z1p{h}(C:ZC (Zv h)=xk):match Xd h with
  |some p=>(XT<|Xt h).1=xk/\Found h (XT<|Xt h).2 p
  |none=>(XT<|Xt h).1=xw:=by
 unfold XT Xd;dsimp only;have D:Xj (Xt h) 1=ZQ h.H [] xw:=rfl;rw[WB,D];by_cases z:(ZQ h.H [] xw).2=0;case neg=>simp_all
 rw[Z6k z];have B:Tiles h.H xw 0 (ZQ h.H [] xw).1:=Tz (ws:=h.H) (shs:=[]) Z5h;generalize (ZQ h.H [] xw).1=d at*;have F:Xj (XI (Xt h) 1 d) 2=ZQ h.aa [] xw:=rfl;rw[WB,F];by_cases A:(ZQ h.aa [] xw).2=0;case neg=>simp_all
 rw[Z6k A,Z6h Z0];generalize (ZQ h.aa [] xw).1=n at*;have f:∀a,YE (Xv h 1 [] d) a=(YA h 1 d a).map λo=>(o.size,o.Z):=by
  intro a;rw[CY<|Tiles.mq C (k:=1) Z0 (by simpa using B)];cases YA h 1 d a<;>rfl
 have g:(XI (XI (Xt h) 1 d) 2 n).lm=Xv h 1 [] d:=qu Z0;have G:Xj (XI (XI (Xt h) 1 d) 2 n) 3=ZQ h.ad (Vt (Xv h 1 [] d) h.ad) xk:=by
  rw[<-g];rfl
 rw[WB,G];cases w:Va h h.ad d with
 |none=>
  have:=LT f _ 0 [] Z0 Z0 w (I h.ad+1) [];have q:¬(ZQ h.ad (Vt _ h.ad) xk).2=0:=this;rw[Z6h q,Z6k Z1]
 |some shs=>
 have t:Vt _ h.ad=shs:=LS f _ _ _ _ w;rw[t];simp[Z6K];by_cases q:(ZQ h.ad shs xk).2=0;case neg=>simp_all
 rw[Z6k q];generalize (ZQ h.ad shs xk).1=y at*;have l:(XI (XI (XI (Xt h) 1 d) 2 n) 3 y).lm=Xv h 1 [] d:=by
  rw[<-g];exact qu Z0
 have H:Xj (XI (XI (XI (Xt h) 1 d) 2 n) 3 y) 4=ZQ h.ae (Vt (Xv h 1 [] d) h.ae) xk:=by
  rw[<-l];rfl
 rw[WB,H];cases x:Va h h.ae d with
 |none=>
  have:=LT f _ 0 [] Z0 Z0 x (I h.ae+1) [];have r:¬(ZQ h.ae (Vt _ h.ae) xk).2=0:=this;rw[Z6h r,Z6k Z1]
 |some j=>
 have u:Vt _ h.ae=j:=LS f _ _ _ _ x;rw[u];simp[Z6K];by_cases r:(ZQ h.ae j xk).2=0;case neg=>simp_all
 rw[Z6k r,Z6h Z5h];exact⟨rfl,rfl,rfl,rfl,rfl,rfl,rfl⟩
end Vm
namespace Vm
open Go Go.Proofs
def qO{h p}(a:Xd h=J p){k}(j:1<=k/\k<=4):Tiles (Zw h k) (decide (2<k)) 0<|p.at k:=by
 have:k=1\/k=2\/k=3\/k=4:=Z0;unfold Xd at a;dsimp only at a;split at a;cases a;split at a;cases a;rename_i f;cases a;have c3:(ZQ h.H [] xw).2=0/\(ZQ h.aa [] xw).2=0:=by
  refine⟨Z0,Z0⟩
 have c4:∀x:Int,¬x≠0->x=0:=Z0;have g:=c4 _ (λd=>f<|.inr<|.inr<|.inr d);obtain rfl|rfl|rfl|rfl:=this;exact Tz<|Z8P rfl c3.1;exact Tz<|Z8P rfl c3.2;exact Tz<|Z8P rfl<|c4 _ (λd=>f<|.inr<|.inr<|.inl d);exact Tz<|Z8P rfl g
def OX{h p}(a:Xd h=J p){k}(C:3<=k/\k<=4){o}(d:o∈p.at k)(z:o.gone=xk):∃q∈p.H,YP h 1 q.Y=o.target/\q.size=o.size/\q.Z=o.Z:=by
 unfold Xd at a;dsimp only at a;split at a;cases a;split at a;cases a
 have f:∀g x,x=Va h g (ZQ h.H [] xw).1->¬x=U->(ZQ g (x.getD []) xk).2=0->o∈(ZQ g (x.getD []) xk).1->
   ∃q∈(ZQ h.H [] xw).1,YP h 1 q.Y=o.target/\q.size=o.size/\q.Z=o.Z:=by
  intro g x B D n d;obtain _|j:=x;simp_all;simp[Z6K]at n d;let⟨G,l,r⟩:=LW _ _ _ _ B.symm _ [] (ZQ g j xk).1<|Z8P rfl n;simp[Z70]at l;rw[l]at d;let⟨q,A,F⟩:=r o d z;have:=Z91 A;grind [AS]
 have t:¬Va h h.ad (ZQ h.H [] xw).1=U:=Z5i;have u:¬Va h h.ae (ZQ h.H [] xw).1=U:=Z5i;have w:(ZQ h.ad ((Va h h.ad (ZQ h.H [] xw).1).getD []) xk).2=0:=Z0;have y:(ZQ h.ae ((Va h h.ae (ZQ h.H [] xw).1).getD []) xk).2=0:=Z0;cases a;have:k=3\/k=4:=Z0;obtain rfl|rfl:=this;exact f _ _ rfl t w Z5E;exact f _ _ rfl u y Z5E
theorem H7{h}(n:ZC (Zv h)=xk){p}(l:Xd h=J p){k}(d:1<=k/\k<=4){a}(j:(YA h k (p.at k) a).isSome=xk):∃b,Y3 (Zv h) a=(k,b,0):=by
 let⟨o,f⟩:=Z7l.1 j;have g:YP h k o.Y=a:=by have:=Z91 f;simpa using this
 rw[<-g];exact⟨_,Z0M n d ((qO l d).aq o<|Z8z f).1⟩
def AU{h}(o:ZC (Zv h)=xk){p}(n:Xd h=J p){k j}(g:1<=k/\k<=4)(f:1<=j/\j<=4)(l:k≠j){a}(d:(YA h k (p.at k) a).isSome=xk):(YA h j (p.at j) a).isSome=xw:=by
 grind [H7]
section
variable {h:Hp}{s:Ck}{p:Pts}
def Found.eo(a:Found h s p){k}:s.eo k=p.at k:=by
 unfold Ck.eo Pts.at;rw[a.o1,a.o2,a.o3,a.o4]
def Found.nu(d:Found h s p)a:YE s.pm a=if(YA h 4 (p.at 4) a).isSome=xk then J 4 else if(YA h 3 (p.at 3) a).isSome=xk then J 3 else if(YA h 2 (p.at 2) a).isSome=xk then J 2 else if(YA h 1 (p.at 1) a).isSome=xk then J 1 else U:=by
 rw[d.pm,Jj,Jj,Jj,Jj];rfl
def Found.oo(q:Found h s p)(y:ZC (Zv h)=xk)(x:Xd h=J p)w:YJ s w 1 2=Xs h p w 1 2/\YJ s w 3 4=Xs h p w 3 4/\YJ s w 1 4=(Xs h p w 1 2||Xs h p w 3 4):=by
 unfold YJ Xs;by_cases n:w=0;simp[n];by_cases D:(adr w).2=0;case neg=>grind
 rw[q.nu];generalize (adr w).1=a;have o:=λk j t r u=>AU (k:=k) (j:=j) y x t r u (a:=a);have C:=o 4 2 Z0 Z0 Z0;have B:=o 4 1 Z0 Z0 Z0;have A:=o 3 2 Z0 Z0 Z0;have z:=o 3 1 Z0 Z0 Z0;clear o;generalize (YA h 1 _ a).isSome=d at*;generalize (YA h 2 _ a).isSome=f at*;generalize (YA h 3 _ a).isSome=g at*;generalize (YA h 4 _ a).isSome=l at*;cases d<;>cases f<;>cases g<;>cases l<;>simp_all
end
end Vm
namespace Vm
open Go Go.Proofs
def Xz(l:List Ob):List Int:=(l.filter (·.gone)).map (·.target)
def PI{α l k}{x:α}(h:YE l k=U):I (Wp l k x)=I l+1:=by
 grind [YE,Option.map_eq_none_iff,Wp]
def Kx{pm}:∀ {l} {m:List (Int×Bool)} {K:List Int},K.Nodup->(∀a,YE m a=if a∈K then J xk else U)->I m=I K->
  match Wg pm l m with
  |some q=>(∀t∈Xz l,(YE pm t).getD 0=1)/\(K++Xz l).Nodup/\I q=I (K++Xz l)/\∀a,YE q a=if a∈K++Xz l then J xk else U
  |none=>¬((∀t∈Xz l,(YE pm t).getD 0=1)/\(K++Xz l).Nodup)
 | [],m,K,k,d,n=>by simp only[Xz,List.filter_nil,Z7B,Z7u];exact⟨Z1,k,n,d⟩
 |o::l,m,K,k,d,n=>by
  rw[Wg];cases w:o.gone with
  |false=>
   have:Xz (o::l)=Xz l:=by simp[Xz,w]
   rw[this];exact Kx k d n
  |true=>
   rw[Z6k rfl];have h:Xz (o::l)=o.target::Xz l:=by simp[Xz,w]
   rw[h];by_cases p:(YE pm o.target).getD 0=1;by_cases j:o.target∈K;rw[Z6h (by rw[d,Z6k j];simp)];rintro⟨_,z⟩;exact(Z9i.1 z).2.2 _ j _ Z1 rfl;have g:YE m o.target=U:=by rw[d,Z6h j]
   rw[Z6k ⟨p,by rw[g];rfl⟩]
   have f:=Kx (pm:=pm) (l:=l) (m:=Wp m o.target xk) (K:=K++[o.target]) (by
     rw[Z9i];refine⟨k,Z1,λa y b r=> ?_⟩;simp at r;subst r;intro e;subst e;exact j y) (λa=>by
     rw[yt,d];by_cases e:o.target=a;simp[e];have x:¬a=o.target:=Z0;simp[e,x]) (by rw[PI g,n];simp)
   rw[Z6Y]at f;cases u:Wg pm l _ with
   |none=>
    rw[u]at f;rintro⟨A,B⟩;exact f ⟨Z5i,B⟩
   |some q=>
    rw[u]at f;refine⟨λt h=> ?_,f.2⟩;obtain rfl|h:=Z6S.1 h;exact p;exact f.1 t h
   rw[Z6h Z0];rintro⟨A,_⟩;exact p Z5i
def Fy{l a}:X1 l a=(Xz l).count a:=by
 unfold X1 Xz;induction l with
 |nil=>rfl
 |cons o l d=>
  grind
def OB{T S:List Int}(j:S.Nodup)(f:T⊆S):(T.Nodup/\I T=I S)↔ ∀a∈S,T.count a=1:=by
 constructor;rintro⟨d,n⟩ a k;by_cases o:a∈T;grind;have g:T⊆S.erase a:=Z5h;have l:=d.length_le_of_subset g;grind;intro h;have d:T.Nodup:=Z5h;refine⟨d,Nat.le_antisymm (d.length_le_of_subset f)<|j.length_le_of_subset λa k=> ?_⟩;grind
section
variable {h:Hp}{s:Ck}{p:Pts}
def Found.od(f:Found h s p)(D:ZC (Zv h)=xk)(y:Xd h=J p):Sr s=(!h.M||p.H.all (Se h p)):=by
 have H:=qO y (k:=1) Z0;have G:(p.H.map λo=>YP h 1 o.Y).Nodup:=by
  have:=Tiles.mq D (k:=1) Z0 H;rw[List.nodup_iff_pairwise_ne,List.pairwise_map];exact this
 have n:∀t∈Xz s.o3++Xz s.o4,t∈p.H.map λo=>YP h 1 o.Y:=by
  intro t d;have:∃k,(3<=k/\k<=4)/\t∈Xz (p.at k):=by
   obtain d|d:=Z6Q.1 d;exact⟨3,Z0,by rw[f.o3]at d;exact d⟩;exact⟨4,Z0,by rw[f.o4]at d;exact d⟩
  let⟨k,x,d⟩:=this;simp[Xz,Z6F,Z92]at d;obtain⟨o,⟨r,M⟩,rfl⟩:=d;let⟨q,z,C,_⟩:=OX y x r M;exact Z6F.2 ⟨q,z,C⟩
 have O:∀t∈Xz s.o3++Xz s.o4,(YE s.pm t).getD 0=1:=by
  intro t d;let⟨q,z,C⟩:=Z6F.1<|n t d;have u:(YA h 1 (p.at 1) t).isSome=xk:=by
   unfold YA;rw[List.find?_isSome];exact⟨q,z,Z5h⟩
  have o:=λk x N=>AU (k:=1) (j:=k) D y Z0 x N u;rw[f.nu,o 4 Z0 Z0,o 3 Z0 Z0,o 2 Z0 Z0,u];rfl
 unfold Sr;rw[f.hp];cases W:h.M;rfl;simp[Z9n,Z8V];have key:=OB G (T:=Xz s.o3++Xz s.o4) n;have g:p.H.all (Se h p)=xk↔ ∀a∈(p.H.map λo=>YP h 1 o.Y),(Xz s.o3++Xz s.o4).count a=1:=by
  rw[Z6y];constructor;intro A a L;obtain⟨o,r,rfl⟩:=Z6F.1 L;have:=A o r;simp[Se,Z6J,U4,Fy]at this;rw[List.count_append,f.o3,f.o4];exact this;intro A o r;have:=A _<|Z6F.2 ⟨o,r,rfl⟩;rw[List.count_append,f.o3,f.o4]at this;simp_all[Se,U4,Fy]
 rw[Z6D]at key;have w:=Kx (pm:=s.pm) (l:=s.o3) (m:=[]) (K:=[]) Z1 (by simp[YE]) rfl;simp only[Z70]at w;rw[Z9v,g,<-key];cases u:Wg s.pm s.o3 []with
 |none=>
  grind
 |some m=>
  rw[u]at w;let⟨Y,P,Q,R⟩:=w;simp[Z6s];have B:=Kx (pm:=s.pm) (l:=s.o4) (m:=m) (K:=Xz s.o3) P R Q;cases F:Wg s.pm s.o4 m with
  |none=>
   simp_all
  |some X=>
   rw[F]at B;let⟨Z,r2,S,r4⟩:=B;simp[Z6J,S,f.o1];simp_all
end
end Vm
namespace Vm
open Go Go.Proofs
def Fl:∀ {l} {a:Int} {i:Nat},Xp l xk a i=xk->∀w∈l,w=0
 | [],_,_,_,w,d=>by simp at d
 |x::l,a,i,h,w,d=>by
  simp[Xp,Z6J]at h;obtain rfl|d:=Z6S.1 d;exact h.1.1;exact Fl h.2 w d
def JD{s k q}:Wy s k q=xk↔ ∀o∈s.eo k,o.gone=xw->∀j,j<o.Z.toNat->q ((o.Y.toNat+1+j:Nat):Int) (Vw (Zw s.h k)<|o.Y.toNat+1+j)=xk:=by
 unfold Wy U0;grind
def PF{h p}(u:Xd h=J p){k}(r:1<=k/\k<=4):Wm h p k=xk↔ ∀o∈p.at k,o.gone=xw->∀j,j<o.Z.toNat->VG h p k (o.Y.toNat+1+j)=xk:=by
 unfold Wm Lb;rw[Z6y];constructor;simp_all;intro x o t;rw[Z6y];intro j l;have l:=Z8A.1 l;cases q:o.gone;simp_all;have d:=((qO u r).aq o t).1;have w:=Yq.1 d.shape;have f:=d.ew;rw[q]at f;have g:=d.ah;have n:=d.gd;have a:o.Y.toNat+1+j< I (Zw h k):=Z0;have y:(Zw h k)[o.Y.toNat+1+j]?=J 0:=by
  rw[Z6b a];refine Z7J J<|(Fl f) _ ?_;rw[Z8r];refine⟨j,?_⟩;rw[Z6O,Z6k Z0,Z6C,Z6b a]
 grind [Xs,VG]
section
variable {h:Hp}{s:Ck}{p:Pts}
def Found.Z(u:Found h s p)(K:ZC (Zv h)=xk)(G:Xd h=J p):(Rb s&&(Rl s&&SI s))=(h.E.all (λw=>Xs h p w 1 2)&&Wm h p 1&&Wm h p 2&&Wm h p 3&&Wm h p 4):=by
 have g:=u.oo K G;have t:s.h.E.all (λw=>YJ s w 1 2)=h.E.all (λw=>Xs h p w 1 2):=by
  rw[u.hp];congr 1;funext w;exact(g w).1
 have l:=λk=>u.eo (k:=k);have r:∀k (q:Nat->Int->Bool) (F:1<=k/\k<=4),(∀a,VG h p k a=q a (Vw (Zw h k) a))->(Wm h p k=xk↔ ∀o∈p.at k,o.gone=xw->∀j,j<o.Z.toNat->q (o.Y.toNat+1+j) (Vw (Zw h k)<|o.Y.toNat+1+j)=xk):=by
  intro k q F H;rw[PF G F];simp[H]
 have p3:=r 3 (λ_ w=>Xs h p w 3 4) Z0 (λa=>by simp[VG,Vw]);have p4:=r 4 (λ_ w=>Xs h p w 3 4) Z0 (λa=>by simp[VG,Vw]);have L:=r 1 (λa w=>if h.O<=a then Xs h p w 1 2||Xs h p w 3 4 else Xs h p w 1 2) Z0 (λa=>by simp[VG,Vw]);have N:Wy s 2 (λ_ w=>YJ s w 1 2)=xk↔Wm h p 2=xk:=by
  rw[r 2 (λ_ w=>Xs h p w 1 2) Z0 (λa=>by simp[VG,Vw]),JD,l,u.hp];simp[(g _).1]
 have O:Wy s 3 (λ_ w=>YJ s w 3 4)=xk↔Wm h p 3=xk:=by
  rw[p3,JD,l,u.hp];simp[(g _).2.1]
 have P:Wy s 4 (λ_ w=>YJ s w 3 4)=xk↔Wm h p 4=xk:=by
  rw[p4,JD,l,u.hp];simp[(g _).2.1]
 have M:(Wy s 1 (λa w=>decide (s.h.O<=a)||YJ s w 1 2)=xk/\Wy s 1 (λa w=>decide (a<s.h.O)||YJ s w 1 4)=xk)↔Wm h p 1=xk:=by
  rw[L,JD,JD,l,u.hp];simp only[(g _).1,(g _).2.2];constructor;rintro⟨C,D⟩ o A y j z;have C:=C o A y j z;have D:=D o A y j z;generalize o.Y.toNat+1+j=n at*;by_cases x:h.O<=n;have:¬n<h.O:=Z0;simpa[x,this]using D;simpa[x]using C;intro B;refine⟨λo A y j z=> ?_,λo A y j z=> ?_⟩;have B:=B o A y j z;generalize o.Y.toNat+1+j=n at*;by_cases x:h.O<=n;simp[x];simpa[x]using B;have B:=B o A y j z;generalize o.Y.toNat+1+j=n at*;by_cases x:h.O<=n;have:¬n<h.O:=Z0;simpa[x,this]using B;have:n<h.O:=Z0;simp[this]
 unfold Rb Rl SI;rw[t,Z9v];simp[Z6l];rw[N,O,P,<-M];constructor;rintro⟨⟨a,b,c⟩,d,e,f⟩;exact⟨⟨⟨⟨a,c,d⟩,b⟩,e⟩,f⟩;rintro⟨⟨⟨⟨a,c,d⟩,b⟩,e⟩,f⟩;exact⟨⟨a,b,c⟩,d,e,f⟩
def Found.re(a:Found h s p):R8 s=decide ((I h.H:Int)+I h.aa+Yt p<=h.cap):=by
 unfold R8 Ty Yt;rw[a.hp,a.o3,a.o4]
end
def Oo h:UV h=(TN (Xt h)&&R6 (Xt h)):=by
 grind [UV,TN,R6,Xt,Zv]
def yW h:(V4 h).isSome=Yp h/\∀s,V4 h=J s->∃p,Xd h=J p/\Found h s p:=by
 have k:V4 h=(if TN _=xk then if R6 (Xt h)=xk then if(XT<|Xt h).1=xk then
   if Sr (XT<|Xt h).2=xk then if Rb (XT<|Xt h).2=xk then if Rl (XT<|Xt h).2=xk then if SI (XT<|Xt h).2=xk then if R8 (XT<|Xt h).2=xk then
    J (XT<|Xt h).2 else U else U else U else U else U else U else U else U):=rfl
 unfold Yp;rw[Oo h];cases a:TN _;simp_all;have g:ZC (Zv h)=xk:=by
  unfold TN at a;simp[Z6l]at a;exact a.1
 cases j:R6 _;simp_all;have l:=Z1p g;cases f:Xd h with
 |none=>
  simp_all
 |some p=>
  rw[f]at l;let⟨q,d⟩:=l;rw[a,j,q]at k;simp at k;generalize (XT _).2=s at*;have n:=d.Z g f;have o:=d.re;have r:Tr h p=(Sr s&&((Rb s&&(Rl s&&SI s))&&R8 s)):=by
   rw[d.od g f,n,o];unfold Tr;simp[Bool.and_assoc]
  grind
def Nw h k:Jn h k=RX h k:=by
 let⟨d,g⟩:=yW h;unfold Jn RX;cases f:V4 h with
 |none=>
  simp_all
 |some s=>
  rw[f]at d;have a:Yp h=xk:=d.symm;let⟨p,l,j⟩:=g s f;simp[a,l,j.eo]
def Nx h:(zh h:Int)=Ka h:=by
 let⟨d,j⟩:=yW h;unfold zh Ka;cases g:V4 h with
 |none=>
  simp_all
 |some s=>
  rw[g]at d;have a:Yp h=xk:=d.symm;let⟨p,k,f⟩:=j s g;simp[a,k];unfold Ty Yt;rw[f.o3,f.o4]
end Vm
end
section
namespace Vm
open Go Go.Proofs Go.RowKit
section
def AA{α:Type}(F:Fence)(n:Nat)(P:Ze)(g:Nat)(lb:Z9)(d:α->Array Value)(Kp:World->World->Prop)(S:List α->World->Prop)(k:List PanicEntry->List α->World->Prop)(N:Nat)(bt:Option Nat)(j:World->Prop)(w:Z4):Prop:=
 ∀(l:Nat) (o:List α->World->Prop) (W:Z4),Below (xz<|xj w) w W->(∀pre W,o pre W->j W)->(∀s A B row,o s A->A.grownBy B row->(∀r,row=J r->J r=bt)->o s B)->
  (∀pre x f,o pre f->I pre<N->YieldAt F (n-1) P l (d x) f λe a=>e=.returned (.bool xk)/\o (pre++[x]) a/\Kp f a)->
  o [] W->
  CallsIn F n P g (#[.func (.yield l) #[] #[]]++lb) W λe a=>(∃v h,e=.returned v/\S h a/\o h a)\/(∃chain pre,e=.panicked chain/\k chain pre a/\o pre a)
def Py{α:Type}(B:Nat)(Kp:World->World->Prop)(I:List α->World->Prop)(xs:List α)(W:Z4):Exit->Act->World->Prop
 |.normal,_,a=>KeepsFrom B W a/\Kp W a/\I xs a
 |_,_,_=>False
def OwnP{β:Type}(bt:Option Nat)(B:Nat)(I:β->World->Prop):Prop:=
 ∀s X Y row,I s X->X.grownBy Y row->(∀r,row=J r->J r=bt\/(B<=r/\∃o:Obj,X.heap[r]?=J o/\o.isCells=xw))->I s Y
def OwnP.putObj{β:Type}{bt:Option Nat}{B:Nat}{I:β->World->Prop}(h:OwnP bt B I){s:β}{W:Z4}{l:Nat}{o:Obj}(a:Obj)(d:I s W)(f:B<=l)(g:W.heap[l]?=J o)(j:o.isCells=xw):I s<|W.putObj l a:=
 h s W _ (J l) d (Z8G W l a) (λr e=>Z5i)
def OwnP.alloc{β:Type}{bt:Option Nat}{B:Nat}{I:β->World->Prop}(h:OwnP bt B I){s:β}{W:Z4}(o:Obj)(a:I s W):I s<|W.alloc o:=
 h s W _ U a (Z7o W o U) (λr e=>by cases e)
variable {F:Fence}{n:Nat}{P:Ze}
abbrev Zb:=Exit->Act->World->Prop
def Z1u{α:Type}{g:Operand}{ps:Array Tmp}{assign body:Code}{Q:Zb}{a:Act}{w:Z4}
  (d2:F.round=U) (h1:1<=n) {gf:Nat} {lb:Z9} (hg:a.eval g=.func (.func gf) #[] lb) (d3:F.fn gf) (eg:∀args w,(callFunc gf args).run P w=.ok (.enter gf args) w)
  {f:α->Array Value} {Kp:World->World->Prop} {S:List α->World->Prop} {Pp:List PanicEntry->List α->World->Prop} {N:Nat} {bt:Option Nat} {Ex:World->Prop} {w0:Z4} (a8:AA F (n-1) P gf lb f Kp S Pp N bt Ex w0)
  (b5:∀r,bt=J r->r<xz (xj w))
  (T:∀ {A B C:Z4},Kp A B->Kp B C->Kp A C) (a1:∀(W:Z4) (l:Nat) (o o':Obj),xz (xj w)<=l->W.heap[l]?=J o->o.isCells=xw->o.isWalk=xw->Kp W (W.putObj l o')) (a2:Below (xz<|xj w0) w0 w) (d4:∀x,(f x).size=ps.size)
  (I:List α->World->Prop) (hI:OwnP bt (xz<|xj w) I) (b0:∀pre W,I pre W->Ex W) (h0:I [] w) (hS:OwnP U (xz<|xj w) S) (Ax:α->Act->World->Prop) (a9:∀x G,OwnP U (xz<|xj w)<|λ(_:Unit) W=>Ax x G W)
  (q:∀(l:Nat) (pre:List α) (x:α) (W:Z4) (K:Act->World->Prop),I pre W->(∀G W',KeepsFrom (xz<|xj w) W W'->Kp W W'->I pre W'->Ax x G W'->K G W')->
   assign.wpIn (F.inRound l) (n-1-1) P (Exit.then K<|λ_ _ _=>False) {tmps:=(ps.zip<|f x).foldl (λt (p,v)=>t.setIfInBounds p v) a.tmps,defers:=[]} W)
  (X:∀(l:Nat) (pre:List α) (x:α) (G:Act) (W:Z4),I pre W->Ax x G W->xq pre<N->body.wpIn (F.inRound l) (n-1-1) P (Py (xz<|xj w) Kp I (pre++[x]) W) G W)
  (Y:∀(D:Nat) (xs:List α) (W:Z4),xz (xj w)<=D->S xs W->I xs W->W.heap[D]?=J (.deferred<|J [])->Q .normal {a with defers:= {target:=.collected D,args:=#[]}::a.defers} W)
  (M:∀(D:Nat) (chain:List PanicEntry) (pre:List α) (W:Z4),xz (xj w)<=D->Pp chain pre W->I pre W->W.heap[D]?=J (.deferred<|J [])->Q (.panic chain) {a with defers:= {target:=.collected D,args:=#[]}::a.defers} W):
  (Code.rangeFunc g ps assign body).wpIn F n P Q a w:=by
 refine wpIn_rangeFunc λfn b7=> ?_;rw[d2];obtain⟨d,z⟩:∃d:LoopState->Option Code->Loop,d=λst pe=> {state:=st,pending:=pe,fn,tmps:=a.tmps,params:=ps,assign,body,defers:=xz (xj w)}:=⟨_,rfl⟩;obtain⟨H,L⟩:∃H,(w.alloc<|.deferred<|J []).alloc (.loop<|d .ready U)=H:=⟨_,rfl⟩;have b2:H.heap[xz (xj w)+1]?=J (.loop<|d .ready U):=by
  have:=Z7h (w.alloc<|.deferred<|J [])<|.loop<|d .ready U;rw[Z7V]at this;rw[<-L];exact this
 have b1:H.heap[xz<|xj w]?=J (.deferred<|J []):=by
  rw[<-L];exact(Z6m _ _ _ Z1).trans (Z7h w _)
 have b4:Below (xz<|xj w0) w0 H:=by
  rw[<-L];exact a2.trans<|(((Z6r _ w).alloc (Z6i _) _).alloc Z1 _).mono a2.size
 refine⟨xz (xj w)+1,[{target:=.collected<|xz<|xj w,args:=#[]}],H,{target:=.fn (.func gf) lb,args:=#[.func (.yield<|xz (xj w)+1) #[] #[]]},H,gf,
  #[.func (.yield<|xz (xj w)+1) #[] #[]]++lb,H,?_,?_,?_,?_,λ_=>h1,?_⟩
 simp_all[run_enterLoop_outer]
 .simp only[resolve,hg];simp[go_sem]
 simp_all[Target.leads];simp_all[invoke];have R:∀ {A B:Z4} {row:Option Nat} {k:Nat} {o:Obj},A.grownBy B row->(∀r,row=J r->J r=bt)->xz (xj w)<=k->A.heap[k]?=J o->B.heap[k]?=J o:=by
  intro A B row k o u hr hk ho;refine(u.block k (Z6N.1 ho).1 λe=> ?_).trans ho;have:=b5 k (hr k e.symm).symm;omega
 refine(a8 (xz (xj w)+1) (λpre W=>I pre W/\W.heap[xz (xj w)+1]?=J (.loop<|d .ready U)/\W.heap[xz<|xj w]?=J (.deferred<|J [])) H b4 (λpre W h=>b0 pre W h.1)
  (λs A B row hs u hr=>⟨hI s A B row hs.1 u (λr e=>.inl<|hr r e),R u hr Z0 hs.2.1,R u hr (Z6i _) hs.2.2⟩) ?_ ⟨by rw[<-L];exact hI.alloc _<|hI.alloc _ h0,b2,b1⟩).mono ?_
 rintro pre x W ⟨hi,Z,hk⟩ a7;have hy:=run_yield (P:=P) (args:=f x) Z Z5i;rw[z]at hy;refine⟨fn,_,assign,body,hy,roundIn_of_wpIn b7<|q _ pre x W _ hi ?_⟩;intro G V a5 c2 b9 b3;have y:=a5.same _ _ Z0 Z rfl;have c1:=a5.same _ _ (Z6i _) hk rfl;have d0:xz (xj w)+1<xz (xj V):=(Z6N.1 y).1;refine⟨_,run_beginRound y (by rw[z]),?_⟩;have c7:(V.putObj (xz (xj w)+1)<|.loop {d .ready U with state:=.busy}).heap[xz (xj w)+1]?=J (.loop {d .ready U with state:=.busy}):=Z8p d0;have c0:(V.putObj (xz (xj w)+1)<|.loop {d .ready U with state:=.busy}).heap[xz<|xj w]?=J (.deferred<|J []):=(Z6P Z0).trans c1;have d1:Kp V<|V.putObj (xz (xj w)+1)<|.loop {d .ready U with state:=.busy}:=a1 _ _ _ _ Z0 y rfl rfl;refine wpIn_mono (X _ pre x G _ (hI.putObj _ b9 Z0 y rfl) ((a9 x G).putObj (s:=()) _ b3 Z0 y rfl) a7) ?_;rintro e a3 W3 O;cases e with
 |normal=>
  obtain⟨a4,a6,b8⟩:=O;have a0:=a4.same _ _ Z0 c7 rfl;have b6:=a4.same _ _ (Z6i _) c0 rfl;have j:=run_endRound (P:=P) U a0;refine⟨_,_,j,rfl,⟨hI.putObj _ b8 Z0 a0 rfl,?_,(Z6P Z0).trans b6⟩,T c2<|T (T d1 a6)<|a1 _ _ _ _ Z0 a0 rfl rfl⟩;grind [World.putObj_heap_same,Array.getElem?_eq_some_iff]
 |ret=>exact O.elim
 |exit id=>exact O.elim
 |goto t=>exact O.elim
 |panic ch=>exact O.elim
 |outgrown=>exact O.elim
 rintro e W2 (⟨v,xs,rfl,hs,hi,Z,hk⟩|⟨chain,pre,rfl,O,hi,Z,hk⟩);have j:=run_endLoop (P:=P) Z Z5i;rw[z]at j;exact⟨U,_,j,Y _ xs _ (Z6i _) (hS.putObj _ hs Z0 Z rfl) (hI.putObj _ hi Z0 Z rfl)<|(Z6P Z0).trans hk⟩;exact M _ chain pre _ (Z6i _) O hi hk
end
end Vm
end
section
namespace Vm
open Go Go.Proofs
def DZ:Fn:=⟨4,[0,2,3,4],pQ [pR [pV 1 pF],pC [pK 4 29 [.s 0]] [pV 2<|.ext (.s 4) 0,pV 3<|.ext (.s 4) 1],.be ⟨[.lt 5 []<|pe (.s 0)<|pU 0],[([(5,xw)],pe (.s 3)<|pI 0)],[pV 1<|.ite (.s 5) pT<|pe (.s 3)<|pI 0]⟩] .ret,[(1,.v)]⟩
def IH:ZS Tryz.prog fresh sig [.fz] [] Tryz.f91=J DZ:=Z2
end Vm
end
section
namespace Vm
open Go Go.Proofs Go.RowKit
section
section
variable {P:Ze}{w:Z4}
def Z1A{o:Oper}{a K Q}s x t
  (G:o.op=.call {callee:=.builtin .append,args:=#[s,x],argTypes:=#[t,t]}) {e} (M:P.underlying t=J (.slice e)) (p:VN P e=xk)
  {B n v y xs} (L:a.eval s=v) (hx:a.eval x=y) (k:w.ownsRow B e (P.cellsOf e) v n xs) (D:B<=xz (xj w))
  {Gy l} (N:Rd w Gy (.sl l) y) (F:Xy (P.cellsOf e) l=xk) (j:n+I l<=Ye)
  (h:∀g f d,f.ownsRow B e (P.cellsOf e) g (n+I l) (xs++d)->w.grownBy f v.ownBlock->(g.ownBlock=v.ownBlock\/(w.grownBy f U/\f.ownsRow (xz<|xj w) e (P.cellsOf e) g (n+I l) (xs++d)))->
   (∀(i:Nat) q,(flat l)[i]?=J q->∃u,d[i]?=J u/\Rd w Gy q u)->K (a.put o.dst g) f):o.wp P a w K Q:=by
 let⟨g,f,d,H,r,z,A,_,C⟩:=JL (ty:=o.type) M p k D N F j;unfold Oper.wp execOp;simp[G,resolve,invoke,builtin,Z8Q,Sem.run_pure,Z8v,List.map_toArray,Z6R,Z7B,L,hx,H];exact h g f d r z A C
def Af{ops f o a Q}(r:o.guard=U)s x t
  (D:o.op=.call {callee:=.builtin .append,args:=#[s,x],argTypes:=#[t,t]}) {e} (G:P.underlying t=J (.slice e)) (q:VN P e=xk)
  {B n v y xs} (F:a.eval s=v) (hx:a.eval x=y) (k:w.ownsRow B e (P.cellsOf e) v n xs) (A:B<=xz (xj w))
  {Gy l} (H:Rd w Gy (.sl l) y) (C:Xy (P.cellsOf e) l=xk) (j:n+I l<=Ye)
  (h:∀p g d,g.ownsRow B e (P.cellsOf e) p (n+I l) (xs++d)->w.grownBy g v.ownBlock->(p.ownBlock=v.ownBlock\/(w.grownBy g U/\g.ownsRow (xz<|xj w) e (P.cellsOf e) p (n+I l) (xs++d)))->
   (∀(i:Nat) z,(flat l)[i]?=J z->∃u,d[i]?=J u/\Rd w Gy z u)->wpList P ops Q f (a.put o.dst p) g):wpList P ops Q (o::f) a w:=
 wpList_plain r λ_ O=>Z1A s x t D G q F hx k A H C j λp g d K L M N=>Z5h
end
def Y6(k:IntKind)(l:Z5):List Value:=l.map<|Value.int k
def Jh{w G k l d}(h:∀(i:Nat) g,(flat<|l.map<|V.int k)[i]?=J g->∃u,d[i]?=J u/\Rd w G g u)(n:I d=I l):d=Y6 k l:=by
 have f:flat (l.map<|V.int k)=l.map (V.int k):=by
  clear h n;induction l with
  |nil=>rfl
  |cons a l q=>rw[Z6R,TV,q];rfl
 apply Z81;intro i;unfold Y6;by_cases j:i<I l;let⟨u,p,o⟩:=h i (.int k l[i]) (by rw[f,Z6G,Z6b j];rfl);rw[p,Z6G,Z6b j];cases o;rfl;rw[Z6X Z0,Z6X Z5j]
def ZV{w:Z4}{B e z n v xs}(h:w.ownsRow B e z v n xs):∃a c,v=.slice a n c:=by
 obtain⟨rfl,rfl⟩|⟨g,cap,d,rfl,_⟩:=h.2;exact⟨_,_,rfl⟩;exact⟨_,_,rfl⟩
theorem Yx{w w':Z4}{B e z n v xs}(h:w.ownsRow B e z v n xs)(l:∀b,v.ownBlock=J b->w'.heap[b]?=w.heap[b]?):w'.ownsRow B e z v n xs:=by
 refine⟨h.1,?_⟩;obtain⟨f,d⟩|⟨g,cap,a,rfl,d,j,k⟩:=h.2;exact .inl ⟨f,d⟩;exact .inr ⟨g,cap,a,rfl,d,by rw[l g rfl];exact j,k⟩
def Y7{w:Z4}{b o cs T}(h:w.heap[b]?=J (.cells cs T (0,0))):w.frozen? ⟨b,o,U⟩=xw:=by
 simp[World.frozen?,h]
def Sv:VN Tryz.prog 24=xk:=Z2
theorem Vf:Tryz.prog.cellsOf 24=1:=Z2
def ZL{w:Z4}{b o}(h:w.heap[b]?=J o):b<xz (xj w):=Z5h
def SR{w:Z4}{B B' e z n v xs}(h:w.ownsRow B e z v n xs)(k:B'<=B):w.ownsRow B' e z v n xs:=by
 refine⟨h.1,?_⟩;obtain d|⟨g,cap,a,j,l,f⟩:=h.2;exact .inl d;exact .inr ⟨g,cap,a,j,Z0,f⟩
def Jl k l i x:Y6 k (l.set i x)=(Y6 k l).set i (.int k x):=by unfold Y6;rw[Z8j]
def N1:(Tryz.prog.info? 24).map (λi=>(i.zero,i.size,i.bytes))=J (J<|.int .u64 0,1,8):=Z2
section
variable {w:Z4}{B:Nat}{G:Z6}
def Bv{k}(l:Z5):flat (l.map<|V.int k)=l.map (V.int k):=by
 induction l with
 |nil=>rfl
 |cons a l d=>rw[Z6R,TV,d];rfl
def Dh{k:IntKind}{e:Zd}{v:Za}{l:Z5}(h:w.ownsRow B e 1 v (I l)<|Y6 k l)(r:∀c,v.ownBlock=J c->G c):Rd w G (.sl<|l.map<|V.int k) v:=by
 obtain⟨rfl,q⟩|⟨g,cap,p,rfl,u,y,o,f,_⟩:=h.2;have:l=[]:=Z7f.1 q;subst this;exact .nil _ _ Z5G
 have:=Rd.sl (w:=w) (G:=G) (l.map<|V.int k) g 0 cap 1 (λi=>(Y6 k l).getD i xy) (by simpa using o) f (r g rfl) (λx t=>by
  obtain⟨n,_,rfl⟩:=Z6F.1 t
  exact⟨rfl,λc d=>by simp[V.cells]at d;subst d;rfl⟩) (λi j=>by
   have a:i<I l:=by simpa using j
   rw[Z6V,h.cellAt i Z0];simp[Y6,a]) (λi c d=>by
   rw[Bv]at d;obtain⟨j,rfl⟩:=Z6d.1 d;have a:i<I l:=by simpa using j
   simp[Y6,a];exact .int _ _)
 simpa using this
def U1{k:IntKind}{e:Zd}{v:Za}{l:Z5}(h:w.ownsRow B e 1 v (I l)<|Y6 k l)(a:∀c,B<=c->c<xz (xj w)->G c):Rd w G (.sl<|l.map<|V.int k) v:=Dh h λc e=>a c (h.lt c e).1 (h.lt c e).2
end
def OU(w:Z4)(b k:Nat)(a:k=1\/k=2\/k=3\/k=4):
  Calls Tryz.prog 40 #[.pointer<|J ⟨b,0,U⟩,.int .i64 k] w λe d=>e=.returned (.pointer<|J ⟨b,4+k,U⟩)/\Below (xz<|xj w) w d:=by
 go_enter Tryz.func40,Tryz.ntmps40;obtain rfl|rfl|rfl|rfl:=a;all_goals
  go_wp2;go_region;go_wp2;go_ret
  exact⟨rfl,((Z6r _ _).alloc (Z6i _) _).drew⟩
def ZE:Array Value:=#[.int .u64 0,.int .i64 0,.int .i64 0,.bool xw,.int .i64 0,.slice U 0 0,.slice U 0 0,.slice U 0 0,.slice U 0 0,.slice U 0 0]
abbrev Uv(w:Z4)(b:Nat)(v0 v1 v2 v3 v4 v5 v6 v7 v8 v9:Za):World:=(((((((((w.setCell ⟨b,0,U⟩ v0).setCell ⟨b,1,U⟩ v1).setCell ⟨b,2,U⟩ v2).setCell ⟨b,3,U⟩ v3).setCell ⟨b,4,U⟩ v4).setCell ⟨b,5,U⟩ v5).setCell ⟨b,6,U⟩ v6).setCell ⟨b,7,U⟩ v7).setCell ⟨b,8,U⟩ v8).setCell ⟨b,9,U⟩ v9
def Qc{w2 b T}(a:w2.heap[b]?=J (.cells ZE T (0,0))){v0 v1 v2 v3 v4 v5 v6 v7 v8 v9}:(Uv w2 b v0 v1 v2 v3 v4 v5 v6 v7 v8 v9).heap[b]?=J (.cells #[v0,v1,v2,v3,v4,v5,v6,v7,v8,v9] T (0,0)):=by
 unfold ZE at a;simp[World.setCell,Z6I,a]
def Xo{w2 b T}(a:w2.heap[b]?=J (.cells ZE T (0,0)))v0 v1 v2 v3 v4 v5 v6 v7 v8 v9 j:(Uv w2 b v0 v1 v2 v3 v4 v5 v6 v7 v8 v9).cell? ⟨b,j,U⟩=(#[v0,v1,v2,v3,v4,v5,v6,v7,v8,v9]:Array Value)[j]? :=
 Z6j _ _ _ _ _ _ (Qc a)
def XJ{B w0 w2 b}(h:Below B w0 w2)(a:B<=b){v0 v1 v2 v3 v4 v5 v6 v7 v8 v9}:Below B w0<|Uv w2 b v0 v1 v2 v3 v4 v5 v6 v7 v8 v9:=
 (((((((((h.setCell a _).setCell a _).setCell a _).setCell a _).setCell a _).setCell a _).setCell a _).setCell a _).setCell a _).setCell a _
def XK{w2 b c}(a:c≠b){v0 v1 v2 v3 v4 v5 v6 v7 v8 v9}:(Uv w2 b v0 v1 v2 v3 v4 v5 v6 v7 v8 v9).heap[c]?=w2.heap[c]? :=by
 have:¬b=c:=Z0;simp[World.setCell,Z6I,this]
end
def Zu(h:Hp)(j:Nat):List Int:=if j=0 then h.H else if j=1 then h.aa else if j=2 then h.ad else if j=3 then h.ae else h.E
structure OwSt (w:World) (b:Nat) (el:Nat->Option Obj) (T:TypeId) (hd src:Nat->Value) (L:Nat->List Int) (k:Nat) (xs:Nat->Value) (wr:World):Prop where
 below:Below (xz<|xj w) w wr
 new:xz (xj w)<=b
 fp:wr.heap[b]?=J (.cells #[hd 0,hd 1,hd 2,hd 3,hd 4,xs 0,xs 1,xs 2,xs 3,src 4] T (0,0))
 nl:∀c,xz (xj w)<=c->c<b->wr.heap[c]?=el c
 df:∀j,k<=j->xs j=src j
 own:∀j,j<k->wr.ownsRow (xz<|xj w) 24 1 (xs j) (I<|L j) (Y6 .u64<|L j)
 ns:∀j,j<k->∀c,(xs j).ownBlock=J c->b<c
 apart:∀i j,i<j->j<k->∀c,(xs i).ownBlock=J c->(xs j).ownBlock≠J c
def OwSt.next{w wr w1 o b z T g l L k xs}(h:OwSt w b z T g l L k xs wr)(G:k<4)
  (p:Below (xz<|xj wr) wr w1) (r:w1.grownBy o U) {v} (H:o.ownsRow (xz<|xj w) 24 1 v (I<|L k)<|Y6 .u64<|L k) (D:∀c,v.ownBlock=J c->xz (xj w1)<=c):
  OwSt w b z T g l L (k+1) (λj=>if j=k then v else xs j) (o.setCell ⟨b,5+k,U⟩ v):=by
 have q:=ZL h.fp;have F:=p.size;have y:=h.below.size;have f:∀c,c<xz (xj wr)->c≠b->(o.setCell ⟨b,5+k,U⟩ v).heap[c]?=wr.heap[c]? :=λc d x=>by
  rw[Z6w _ _ _ _ x,r.block c Z0 Z1,p.block c d]
 have C:o.heap[b]?=J (.cells #[g 0,g 1,g 2,g 3,g 4,xs 0,xs 1,xs 2,xs 3,l 4] T (0,0)):=by
  rw[r.block b Z0 Z1,p.block b q,h.fp]
 refine⟨((h.below.trans<|p.mono y).grown r Z0 Z1).setCell h.new _,h.new,?_,?_,?_,?_,?_,?_⟩;have:k=0\/k=1\/k=2\/k=3:=Z0;obtain rfl|rfl|rfl|rfl:=this<;>simp[World.setCell,Z6I,C];intro c A B;rw[f c Z0 Z0];exact h.nl c A B;intro j u;rw[Z6h Z0];exact h.df j Z0;intro j u;by_cases a:j=k;subst a;grind [Yx,Below.heap_setCell];rw[Z6h a];have n:=h.own j Z0;exact Yx n λc d=>f c (n.lt c d).2 (by have:=h.ns j Z0 c d;omega);intro j u c d;by_cases a:j=k;grind;rw[Z6h a]at d;exact h.ns j Z0 c d;intro i j t u c d;rw[Z6h Z0]at d;by_cases a:j=k;rw[Z6k a];intro e;have:=D c e;have:=((h.own i Z0).lt c d).2;omega;rw[Z6h a];exact h.apart i j t Z0 c d
structure HOwn (B:Nat) (w:World) (h:Hp) (x:Nat->Value):Prop where
 own:∀j,j<5->w.ownsRow B 24 1 (x j) (I<|Zu h j) (Y6 .u64<|Zu h j)
 apart:∀i j,i<j->j<5->∀c,(x i).ownBlock=J c->(x j).ownBlock≠J c
abbrev Z3:=Nat->Value
def Zx(h:Hp)(x:Z3):Value:=.agg #[.int .u64 h.V,.int .i64 h.cap,.int .i64 h.to,.bool h.M,.int .i64 h.O,x 0,x 1,x 2,x 3,x 4]
abbrev Sj(W:Z4)(b:Nat)(h:Hp)(x:Z3):World:=Uv W b (.int .u64 h.V) (.int .i64 h.cap) (.int .i64 h.to) (.bool h.M) (.int .i64 h.O) (x 0) (x 1) (x 2) (x 3)<|x 4
def Am(w:Z4)(h:Hp)(e:Ending)(w':Z4):Prop:=∃x,e=.returned (Zx h x)/\Below (xz<|xj w) w w'/\HOwn (xz<|xj w) w' h x
def VY{h}(a:h.ok)k:I (Zu h k)<=1000000:=by
 unfold Zu;split;exact a.H;split;exact a.aa;split;exact a.ad;split;exact a.ae;exact a.E
def OW(w:Z4)(b k:Nat)(d:k<4):
  Calls Tryz.prog 40 #[.pointer<|J ⟨b,0,U⟩,.int .i64 ((k+1:Nat):Int)] w λe a=>e=.returned (.pointer<|J ⟨b,5+k,U⟩)/\Below (xz<|xj w) w a:=by
 have:=OU w b (k+1) Z0;grind
def TH(w:Z4)(G:Z6)(hG:∀b,G b->b<xz (xj w))(h:Hp)(hh:h.ok)(d:Z3)(hs:∀j,j<5->Rd w G (.sl<|(Zu h j).map vu) (d j)):
  Calls Tryz.prog 18 #[Zx h d] w (Am w h):=by
 have HS:=Z6e hs;have HH:=Z6e hh;clear hs hh;unfold Zx;go_enter Tryz.func18,Tryz.ntmps18;go_wp2
 go_loopw [4] (λi wr=>∃(k:Nat) (xs:Z3),i=.int .i64 ((k+1:Nat):Int)/\k<=4/\Hid (OwSt w (xz (xj w)+2) (λc=>if c=(xz<|xj w) then J (.cells #[.int .u64 h.V,.int .i64 h.cap,.int .i64 h.to,.bool h.M,.int .i64 h.O,d 0,d 1,d 2,d 3,d 4] 31 (0,0))else J<|.cells #[.int .u64 0,.int .i64 0,.int .i64 0,.bool xw,.int .i64 0,.slice U 0 0,.slice U 0 0,.slice U 0 0,.slice U 0 0,.slice U 0 0] 31 (0,0)) 103 (λj=>if j=0 then .int .u64 h.V else if j=1 then .int .i64 h.cap else if j=2 then .int .i64 h.to else if j=3 then .bool h.M else .int .i64 h.O) d (Zu h) k xs wr))
  (λi _=>5- (intOf i).toNat)
 case atStart=>
  refine⟨0,d,rfl,Z0,Z6e ⟨(((Z6r _ _).alloc (Z6i _) _).alloc Z1 _).alloc Z5j _,Z0,?_,?_,λ_ _=>rfl,λj hj=>Z0,λj hj=>Z0,λi j _ hj=>Z0⟩⟩;have:=Z6u ((w.alloc<|.cells #[.int .u64 h.V,.int .i64 h.cap,.int .i64 h.to,.bool h.M,.int .i64 h.O,d 0,d 1,d 2,d 3,d 4] 31).alloc<|.cells #[.int .u64 0,.int .i64 0,.int .i64 0,.bool xw,.int .i64 0,.slice U 0 0,.slice U 0 0,.slice U 0 0,.slice U 0 0,.slice U 0 0] 31)<|.cells #[.int .u64 h.V,.int .i64 h.cap,.int .i64 h.to,.bool h.M,.int .i64 h.O,d 0,d 1,d 2,d 3,d 4] 103;simp_all;intro c h1 h2;have:c=(xz<|xj w)\/c=xz (xj w)+1:=Z0;obtain rfl|rfl:=this;rw[Z6k rfl,Z6m _ _ _ Z5j,Z6m _ _ _ Z1];exact Z6u _ _;rw[Z6h Z0,Z6m _ _ _ Z1];have:=Z6u (w.alloc<|.cells #[.int .u64 h.V,.int .i64 h.cap,.int .i64 h.to,.bool h.M,.int .i64 h.O,d 0,d 1,d 2,d 3,d 4] 31)<|.cells #[.int .u64 0,.int .i64 0,.int .i64 0,.bool xw,.int .i64 0,.slice U 0 0,.slice U 0 0,.slice U 0 0,.slice U 0 0,.slice U 0 0] 31;simp_all
 case round=>
  obtain⟨k,xs,rfl,hk,g⟩:=hrel;have a5:=ZL g.out.fp;by_cases a3:k<4
  .have b5:((k+1:Nat):Int)<=4:=Z0;have c0:wr.cell? ⟨xz (xj w)+2,5+k,U⟩=J (d k):=by
    rw[Z6j _ _ _ _ _ _ g.out.fp];have h3:k=0\/k=1\/k=2\/k=3:=Z0;have hr:=g.out.df k<|Z6i _;obtain rfl|rfl|rfl|rfl:=h3<;>simp[<-hr]
   have f0:wr.frozen? ⟨xz (xj w)+2,5+k,U⟩=xw:=Y7 g.out.fp;have b3:I (Zu h k)<=1000000:=VY HH.out k
   go_wp2_with (first
    |(go_at_call 40;refine(OW _ _ _ a3).mono ?_;rintro e w1 ⟨rfl,C⟩;have c1:=(C.cell (p:=⟨xz (xj w)+2,5+k,U⟩)<|by exact a5).trans c0;have f1:=(C.frozen (p:=⟨xz (xj w)+2,5+k,U⟩)<|by exact a5).trans f0;have S:=Z6e<|(HS.out k<|by omega).keep (w':=w1) (λb hb=>by rw[C.block b (by have:=hG b hb;omega)];exact g.out.below.block b<|hG b hb) (λ_ h=>h);have a7:=Z6e C;have b6:=C.size;have a4:=g.out.below.size;clear C)
    |(at_builtin;refine Af (B:=xz<|xj w) (n:=0) (xs:=[]) rfl _ _ _ rfl Tryz.underlying29 Sv rfl rfl (Z7e _ _ _ _) (by omega) (l:=(Zu h k).map vu) (Gy:=G) S.out (by grind [Vf,Qi]) (by grind [Ye]) ?_))
   intro v6 w6 x a f A Q;simp only[Vf]at a;have W:I x=I (Zu h k):=by have:=a.1;simp_all
   rw[Jh Q W]at a;try simp only[Z6D,Z6V,Z70]at a
   obtain⟨P,R,X⟩:=ZV a;subst X;have u:(Value.slice U 0 0).ownBlock=U:=rfl;rw[u]at f;have c6:=(f.cell_far ⟨xz (xj w)+2,5+k,U⟩ Z5h Z1).trans c1;have f6:=(f.frozen_far ⟨xz (xj w)+2,5+k,U⟩ Z5h Z1).trans f1;have q:∀c,(Value.slice P (I<|Zu h k) R).ownBlock=J c->xz (xj w1)<=c:=by
    intro c t;obtain e|⟨_,e⟩:=A;simp_all;exact(e.lt c t).1
   have HN:=Z6e<|g.out.next a3 a7.out f a q;clear a f A Q q;go_wp2;go_roundw
   case rel=>grind
   case measure=>grind [intOf]
  .have b2:k=4:=Z0;subst b2;have b0:=g.out.nl (xz<|xj w) Z0 Z0;rw[Z6k rfl]at b0;have b1:=g.out.nl (xz (xj w)+1) Z0 Z0;rw[Z6h Z0]at b1;have c9:wr.cell? ⟨xz<|xj w,9,U⟩=J (d 4):=by rw[Z6j _ _ _ _ _ _ b0];rfl
   have b3:I (Zu h 4)<=1000000:=VY HH.out 4;have S:=Z6e<|(HS.out 4 Z0).keep (w':=wr) (λb hb=>g.out.below.block b<|hG b hb) (λ_ h=>h);have a4:=g.out.below.size;go_wp2_with (at_builtin;refine Af (B:=xz<|xj w) (n:=0) (xs:=[]) rfl _ _ _ rfl Tryz.underlying29 Sv rfl rfl (Z7e _ _ _ _) Z0 (l:=(Zu h 4).map vu) (Gy:=G) S.out (by grind [Vf,Qi]) (by grind [Ye]) ?_)
   intro v6 w6 x a f A Q;simp only[Vf]at a;have W:I x=I (Zu h 4):=by have:=a.1;simp_all
   rw[Jh Q W]at a;try simp only[Z6D,Z6V,Z70]at a
   obtain⟨P,R,X⟩:=ZV a;subst X;have u:(Value.slice U 0 0).ownBlock=U:=rfl;rw[u]at f;obtain⟨D,L,e0⟩:=ZV<|g.out.own 0 Z0;obtain⟨F,M,e1⟩:=ZV<|g.out.own 1 Z0;obtain⟨H,N,e2⟩:=ZV<|g.out.own 2 Z0;obtain⟨K,O,e3⟩:=ZV<|g.out.own 3 Z0;have a0:wr.heap[xz (xj w)+2]?=J (.cells #[.int .u64 h.V,.int .i64 h.cap,.int .i64 h.to,.bool h.M,.int .i64 h.O,.slice D (I<|Zu h 0) L,.slice F (I<|Zu h 1) M,.slice H (I<|Zu h 2) N,.slice K (I<|Zu h 3) O,d 4] 103 (0,0)):=by rw[<-e0,<-e1,<-e2,<-e3];exact g.out.fp
   have y:=(f.block (xz (xj w)+2) Z0 Z1).trans a0;have Z:=(f.block (xz (xj w)+1) Z0 Z1).trans b1;have x9:w6.cell? ⟨xz (xj w)+2,9,U⟩=J (d 4):=by rw[Z6j _ _ _ _ _ _ y];rfl
   have y9:w6.frozen? ⟨xz (xj w)+2,9,U⟩=xw:=Y7 y;obtain⟨Y,h7⟩:∃Y,w6.setCell ⟨xz (xj w)+2,9,U⟩ (.slice P (I<|Zu h 4) R)=Y:=⟨_,rfl⟩;have a1:Y.heap[xz (xj w)+2]?=J (.cells #[.int .u64 h.V,.int .i64 h.cap,.int .i64 h.to,.bool h.M,.int .i64 h.O,.slice D (I<|Zu h 0) L,.slice F (I<|Zu h 1) M,.slice H (I<|Zu h 2) N,.slice K (I<|Zu h 3) O,.slice P (I<|Zu h 4) R] 103 (0,0)):=by
    rw[<-h7];simp[World.setCell,Z6I,y]
   have T:Y.heap[xz (xj w)+1]?=J (.cells ZE 31 (0,0)):=by
    rw[<-h7,Z6w _ _ _ _ Z1];exact Z
   have l:=λj=>Z6j _ _ j _ _ _ a1;have m:=λj=>Z6j _ _ j _ _ _ T;unfold ZE at m;have r:=λj=>Y7 (o:=j) T;have z:=Xo T (.int .u64 h.V) (.int .i64 h.cap) (.int .i64 h.to) (.bool h.M) (.int .i64 h.O) (.slice D (I<|Zu h 0) L) (.slice F (I<|Zu h 1) M) (.slice H (I<|Zu h 2) N) (.slice K (I<|Zu h 3) O)<|.slice P (I<|Zu h 4) R;have a8:Below (xz<|xj w) w Y:=by rw[<-h7];exact(g.out.below.grown f a4 Z1).setCell Z1 _
   have b4:∀c,c≠xz (xj w)+2->Y.heap[c]?=w6.heap[c]? :=λc t=>by rw[<-h7];exact Z6w _ _ _ _ t
   have q:∀c,(Value.slice P (I<|Zu h 4) R).ownBlock=J c->xz (xj wr)<=c:=by
    intro c t;obtain e|⟨_,e⟩:=A;simp_all;exact(e.lt c t).1
   clear y Z a0 b0 b1 c9;go_wp2;refine Z6x (v:=.agg #[.int .u64 h.V,.int .i64 h.cap,.int .i64 h.to,.bool h.M,.int .i64 h.O,.slice D (I<|Zu h 0) L,.slice F (I<|Zu h 1) M,.slice H (I<|Zu h 2) N,.slice K (I<|Zu h 3) O,.slice P (I<|Zu h 4) R]) (by simp[results,Tryz.results18,go_sem,z]) rfl ⟨λj=>if j=4 then .slice P (I<|Zu h 4) R else xs j,by simp[Zx,e0,e1,e2,e3],XJ a8 Z1,?_⟩;have a2:=λc h1 h2=>(@XK Y (xz (xj w)+1) c h1 (.int .u64 h.V) (.int .i64 h.cap) (.int .i64 h.to) (.bool h.M) (.int .i64 h.O) (.slice D (I<|Zu h 0) L) (.slice F (I<|Zu h 1) M) (.slice H (I<|Zu h 2) N) (.slice K (I<|Zu h 3) O)<|.slice P (I<|Zu h 4) R).trans<|b4 c h2;refine⟨λj hj=> ?_,λi j a9 hj c t=> ?_⟩;by_cases h4:j=4;subst h4;rw[Z6k rfl];exact Yx a λc t=>a2 c (by have:=q c t;omega) (by have:=q c t;omega);rw[Z6h h4];have ho:=g.out.own j Z0;exact Yx ho λc t=>by
    have h1:=g.out.ns j Z0 c t;have h2:=(ho.lt c t).2;rw[a2 c Z0 Z0,f.block c h2 Z1]
   rw[Z6h Z0]at t;by_cases h4:j=4;subst h4;rw[Z6k rfl];intro e;have h1:=q c e;have h2:=((g.out.own i Z0).lt c t).2;omega;rw[Z6h h4];exact g.out.apart i j a9 Z0 c t
def Z1H(z:Za)(n:Nat):(Builtin.zeroCells #[z] n).toList=List.replicate n z:=by
 simp[Builtin.zeroCells];apply List.ext_getElem;simp;intro i a d;simp[Nat.mod_one]
def Z01{P:Ze}{w:Z4}{T tI ty e:Zd}{i:TypeInfo}{z:Za}{kn:IntKind}(ht:P.underlying T=J (.slice e))(W:P.underlying tI=J (.int kn))(hi:P.info? e=J i)(hz:i.zero=J z)
  (K:z.cells=#[z]) (h1:z.oneCell'=xk) (hs:i.size=1) (O:i.bytes=8) {B n m:Nat} {v:Za} {xs:List Value} (l:w.ownsRow B e 1 v n xs) (hB:B<=xz (xj w)) (hm:0<m) (a1:n+m<=4294967296) (Q:IntKind):
  ∃R L,(Builtin.append_ #[T,tI] ty #[v,.int Q m]).run P w=.ok R L/\L.ownsRow B e 1 R (n+m) (xs++List.replicate m z)/\w.grownBy L v.ownBlock/\
   (R.ownBlock=v.ownBlock\/(w.grownBy L U/\L.ownsRow (xz<|xj w) e 1 R (n+m) (xs++List.replicate m z))):=by
 have q:I xs=n:=by have:=l.1;simpa using this
 have f:I (xs++List.replicate m z)=n+m:=by simp[q]
 have S:n+m<=maxLen:=by simp only[maxLen];omega
 have d:∀(a:Nat),a<n+m->∀(row:Option Nat) (M:Z9),M=xs.toArray++(List.replicate m z).toArray->
   (w.drew.alloc<|.cells (M++Builtin.zeroCells z.cells (grownCap w (n+m) a e- (n+m))) e).ownsRow (xz<|xj w) e 1
    (.slice (J ⟨xz<|xj w,0,U⟩) (n+m)<|grownCap w (n+m) a e) (n+m) (xs++List.replicate m z)/\
   w.grownBy (w.drew.alloc<|.cells (M++Builtin.zeroCells z.cells (grownCap w (n+m) a e- (n+m))) e) row:=by
  rintro a ho row M rfl;have Z:=grownCap_ge w (n+m) a e;have x:grownCap w (n+m) a e<=maxLen:=grownCap_le_maxLen w (n+m) a e S;refine⟨⟨Z5y,.inr ⟨xz<|xj w,_,_,rfl,Z6i _,Z6u w.drew _,Z,x,?_,?_⟩⟩,⟨rfl,rfl,rfl,Z1,λk G _=>Z6m w.drew _ k G⟩⟩;simp only[Array.size_append,Z7y,size_zeroCells,K];simp[q];omega;simp only[Array.toList_append,Z6Y];rw[<-Z6Y,Z9I,<-f];exact Z9f
 have A:Builtin.zeroCells z.cells m=(List.replicate m z).toArray:=by
  rw[K];apply Array.ext';rw[Z1H]
 obtain⟨rfl,rfl⟩|⟨g,cap,h,rfl,X,hg,a2,x,a0,p⟩:=l.2;have hx:xs=[]:=Z7p q;subst hx;have t:=Lib.run_append_nil_zeros (P:=P) w T tI ty e i z Q kn ht W hi hz m hm Z0 Z0 (by rw[O];omega);have F:=d 0 Z0;simp only[Z6V,Z70,Array.empty_append]at F t⊢;rw[A]at t;obtain⟨C,N⟩:=F U _ rfl;exact⟨_,_,t,SR C hB,N,.inr ⟨N,C⟩⟩;by_cases o:n+m<=cap;have r:n+I (List.replicate m z)<=h.size:=Z5j;have y:=run_storeCells_at P g n e (List.replicate m z) 0 h w hg (by simpa using r) (by intro v hv;rw[List.eq_of_mem_replicate hv];exact h1);simp only[Z7Z]at y;have hw:IntKind.i64.wrap (m:Int)=m:=by rw[IntKind.wrap_i64];omega
 have H:¬((m:Int)<0):=Z0;have D:¬(281474976710656< (m:Int)*8):=Z0;have G:m≠0:=Z0
 have t:(Builtin.append_ #[T,tI] ty #[.slice (J ⟨g,0,U⟩) n cap,.int Q m]).run P w=
   .ok (.slice (J ⟨g,0,U⟩) (n+m) cap) (w.setRow g (h.toList.take n++List.replicate m z++h.toList.drop (n+I (List.replicate m z))).toArray):=by
  simp[Builtin.append_,Z6M ht,Z6M W,Go.sizeOf,typeInfo,zeroValue,hi,hz,asInt,asIntOf,hw,H,hs,O,D,G,o,A,Z7L];simp at y;rw[y];simp
 refine⟨_,_,t,⟨Z5y,.inr ⟨g,cap,_,rfl,X,Z9H w g h _ e _ hg,o,x,?_,?_⟩⟩,⟨rfl,rfl,rfl,Z1,λk _ G=>Z7Y w g k _<|λe=>G (by simp[Value.ownBlock,e])⟩,.inl rfl⟩;simp only[Z7y,Z6L,Z7O,Z9s,Z8D];simp at r⊢;omega;rw[Z9I]at p⊢;rw[p,<-f];exact Z9f;have holds:∀j u,xs[j]?=J u->w.cell? ((⟨g,0,U⟩:Addr).add j)=J u:=l.cells (g:=g) rfl;have Y:=run_firstCells_some (P:=P) w.drew i.size n ⟨g,0,U⟩ n cap xs (by rw[hs,Z9I];exact q) (by simpa using holds);have t:=Lib.run_append_grow_zeros (P:=P) w T tI ty e i z Q kn ht W hi hz (J ⟨g,0,U⟩) n cap xs Y m hm Z0 Z0 Z0 (by rw[O];omega)<|Z9G Z0 (by rw[O];omega);rw[A]at t;obtain⟨C,N⟩:=d cap Z0 U _ rfl;obtain⟨_,g3⟩:=d cap Z0 (Value.ownBlock<|.slice (J ⟨g,0,U⟩) n cap) _ rfl;exact⟨_,_,t,SR C hB,g3,.inr ⟨N,C⟩⟩
section
def Rz:V->Value
 |.int k n=>.int k n
 |.bool b=>.bool b
 |_=>xy
def UN:V->Bool
 |.int _ _=>xk
 |.bool _=>xk
 |_=>xw
def UL:V->Value
 |.agg a=>.agg (a.map Rz).toArray
 |x=>Rz x
def VT:V->Bool
 |.agg a=>a.all UN
 |x=>UN x
def zT:V->Value
 |.am l=>.tuple (l.map UL).toArray
 |x=>UL x
def KF:V->Bool
 |.am l=>l.all VT
 |x=>VT x
variable {w:Z4}{G:Z6}
def PO{x:V}(h:UN x=xk):Rd w G x<|Rz x:=by
 cases x<;>simp[UN]at h;exact .int _ _;exact .bool _
def jr{x:V}(h:VT x=xk):Rd w G x<|UL x:=by
 cases x with
 |agg d=>
  simp only[VT,Z6y]at h;refine .agg _ _ Z1 (λc a=> ?_) λi c a=> ?_;have:=h c a;cases c<;>simp[UN]at this<;>rfl;have f:=PO (w:=w) (G:=G)<|h c<|Z6n a;have:((d.map Rz).toArray).getD i xy=Rz c:=by
   obtain⟨g,rfl⟩:=Z6d.1 a;simp[Array.getD,g]
  rw[this];exact f
 |int k n=>exact .int _ _
 |bool b=>exact .bool _
 |_=>simp[VT,UN]at h
def IT{x:V}{v:Za}(h:UN x=xk)(r:Rd w G x v):v=Rz x:=by
 cases x<;>simp[UN]at h;cases r;rfl;cases r;rfl
def zS{x:V}{v:Za}(h:VT x=xk)(r:Rd w G x v):v=UL x:=by
 cases x with
 |agg a=>
  simp only[VT,Z6y]at h;cases r with
  |agg _ p j _ l=>
   simp only[UL,Value.agg.injEq];apply Z8F;simpa using j;intro i f o;have d:i<I a:=Z0;have g:a[i]?=J a[i]:=Z6b d;have:=IT (h _<|Z6E d)<|l i _ g;simp[Array.getD,f]at this;simpa using this
 |int k n=>cases r;rfl
 |bool b=>cases r;rfl
 |_=>simp[VT,UN]at h
def B4{x:V}{v:Za}(h:KF x=xk)(r:Rd w G x v):v=zT x:=by
 cases x with
 |am a=>
  simp only[KF,Z6y]at h;cases r with
  |am _ p j l=>
   simp only[zT,Value.tuple.injEq];apply Z8F;simpa using j;intro i f o;have d:i<I a:=Z0;have g:a[i]?=J a[i]:=Z6b d;have:=zS (h _<|Z6E d)<|l i _ g;simp[Array.getD,f]at this;simpa using this
 |agg a=>exact zS (x:=.agg a) h r
 |int k n=>cases r;rfl
 |bool b=>cases r;rfl
 |_=>simp[KF,VT,UN]at h
def Ub{P:Ze}{f:FuncId}{j:Bool}{args:List V}{r:V}(h:VC P f j args r)(a:args.all VT=xk)(l:KF r=xk)(w:Z4):
  Calls P f (args.map UL).toArray w λe g=>e=.returned (zT r)/\Below (xz<|xj w) w g:=by
 simp only[Z6y]at a;refine Z84 (h.2 w (λ_=>False) _ Z1 Z1 ?_) ?_;intro i x o;obtain⟨d,rfl⟩:=Z6d.1 o;have:((args.map UL).toArray).getD i xy=UL args[i]:=by simp[Array.getD,d]
 rw[this];exact jr<|a _<|Z6E d;rintro e g ⟨v,rfl,k,n⟩;exact⟨by rw[B4 l n],k⟩
def Wb(l:Ly):Value:=.agg #[.int .u64 l.V,.int .i64 l.cap,.int .i64 l.to,.int .i64 l.H,.int .i64 l.aa,.int .i64 l.ad,.int .i64 l.ae]
def u5{l:Ly}(a:l.ah)(w:Z4):Calls Tryz.prog 28 #[Wb l] w λe d=>e=.returned (.bool<|ZC l)/\Below (xz<|xj w) w d:=
 Ub (R7 a) rfl rfl w
def u7{l:Ly}(a:l.ah)(w:Z4):Calls Tryz.prog 56 #[Wb l] w λe d=>e=.returned (.int .i64<|Xh l)/\Below (xz<|xj w) w d:=
 Ub (u8 a) rfl rfl w
def AG{l:Ly}(a:l.ah)(part at_:Int)(w:Z4):Calls Tryz.prog 31 #[Wb l,.agg #[.int .i64 part,.int .i64 at_]] w λe d=>e=.returned (.tuple #[.int .u64 (Y1 l part at_).1,.int .i64 (Y1 l part at_).2])/\Below (xz<|xj w) w d:=
 Ub (zE a) rfl rfl w
def Br{l:Ly}(f:l.ah){a:Int}(d:Zy a)(w:Z4):Calls Tryz.prog 30 #[Wb l,.int .u64 a] w λe g=>e=.returned (.tuple #[.agg #[.int .i64 (Y3 l a).1,.int .i64 (Y3 l a).2.1],.int .i64 (Y3 l a).2.2])/\Below (xz<|xj w) w g:=
 Ub (yf f d) rfl rfl w
def UI{x:Int}(hx:Zy x)(w:Z4):Calls Tryz.prog 29 #[.int .u64 x] w λe a=>e=.returned (.tuple #[.int .u64 (adr x).1,.int .i64 (adr x).2])/\Below (xz<|xj w) w a:=
 Ub (Sn hx) rfl rfl w
def Eu{x:Int}(hx:Zy x)(w:Z4):Calls Tryz.prog 32 #[.int .u64 x] w λe a=>e=.returned (.tuple #[.int .u64 (X6 x).1,.int .i64 (X6 x).2])/\Below (xz<|xj w) w a:=
 Ub (Ew hx) rfl rfl w
def Rk{x:Int}(hx:Zy x)(w:Z4):Calls Tryz.prog 55 #[.int .u64 x] w λe a=>e=.returned (.tuple #[.agg #[.int .i64 (ZW x).1,.int .i64 (ZW x).2.1],.int .i64 (ZW x).2.2])/\Below (xz<|xj w) w a:=
 Ub (Aa hx) rfl rfl w
def Rq{h:Hp}{x:Z3}(g:∀b,G b->b<xz (xj w))(d:∀j,j<5->Rd w G (.sl<|(Zu h j).map vu) (x j)):
  Calls Tryz.prog 19 #[Zx h x] w λe f=>e=.returned (Wb<|Zv h)/\Below (xz<|xj w) w f:=by
 refine Z84 ((zo (h:=h)).2 w G _ g rfl ?_) ?_;intro i y a
 match i,a with
 |0,a=>
  cases a;refine .agg _ _ rfl (by simp[V.aj]) ?_;intro i y a
  match i,a with
  |0,a=>cases a;exact .int _ _
  |1,a=>cases a;exact .int _ _
  |2,a=>cases a;exact .int _ _
  |3,a=>cases a;exact .bool _
  |4,a=>cases a;exact .int _ _
  |5,a=>cases a;exact d 0 Z0
  |6,a=>cases a;exact d 1 Z0
  |7,a=>cases a;exact d 2 Z0
  |8,a=>cases a;exact d 3 Z0
  |9,a=>cases a;exact d 4 Z0
 rintro e f ⟨v,rfl,k,l⟩;exact⟨by rw[B4 (by rfl) l];rfl,k⟩
end
end Vm
end
