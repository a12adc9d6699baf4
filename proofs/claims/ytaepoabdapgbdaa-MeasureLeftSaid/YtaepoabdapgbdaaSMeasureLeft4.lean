import Derived.ProofKit
import Derived.OpenShut
import Derived.WalkSpells
import Derived.WalkLawsBesides
import Derived.StillTailTactics
import Derived.Deep.RegionHeld3
import Derived.Deep.AppendLies
import Derived.Deep.Onto
import Derived.Deep.OwnRows
import Derived.Lib.Hide
import Derived.Lib.AppendZerosOnto
import Derived.Laws.CopyOwn
import Derived.Test.YtaepoabdapgbdaaSMeasureLeft3
set_option linter.unusedSimpArgs false
set_option linter.unusedVariables false
set_option linter.defProp false
open Option renaming some→J,none→U
open Bool renaming true→xk,false→xw
open Go renaming undef→xy
open List renaming length→I
open Array renaming size→xz
open Go.World renaming heap→xj
open List renaming length→xq
open Array renaming size→xz
open Go.World renaming heap→xj
set_option maxHeartbeats 8000000
set_option maxRecDepth 100000
theorem Zgt{p:Prop}(h:p:=by simp[Y3];omega):p:=h
theorem Zgv{p:Prop}(h:p:=by unfold ZK at d;omega):p:=h
theorem Zgg{p:Prop}(h:p:=by decide):p:=h
theorem Zgh{p:Prop}(h:p:=by unfold maxLen;omega):p:=h
theorem Zga{p:Prop}(h:p:=by rw[cell_of_row _ _ _ _ _ _ d];rfl):p:=h
theorem Zg8{p:Prop}(h:p:=by show xz (xj w1)<xz (xj u);omega):p:=h
theorem ZgK{p:Prop}(h:p:=by simp[results,Try.results42,go_sem,y,ZL]):p:=h
def Zim:=@List.append_nil
def Zi5:=@Int.tmod_eq_emod_of_nonneg
def Zkw:=@Int.tdiv_eq_ediv_of_nonneg
def Zkv:=@Int.fdiv_eq_ediv_of_nonneg
def ZkZ:=@Int.emod_nonneg
def Zkz:=@Int.emod_lt_of_pos
def ZhX:=@List.take_add_one
def Zl3:=@List.set_append_right
def ZhV:=@List.drop_eq_getElem_cons
def ZhM:=@List.append_assoc
def ZjL:=@List.map_set
def Zj8:=@List.take_append_drop
def Zl5:=@List.sum_append
def ZjO:=@Bool.true_eq_false
def ZiR:=@List.length_eq_zero_iff
def Zhj:=@Go.RowKit.Below.heap_setCell
def Zh2:=@Go.Lib.hid
def ZhE:=@Go.bodyPost_ret
def Zld:=@Nat.mul_one
def ZkH:=@List.take_left
def Zjs:=@Array.ext
def ZiY:=@List.length_set
def Ziu:=@Go.World.cell?_alloc_lt
def ZkN:=@not_true_eq_false
def ZjK:=@List.length_pos_iff
def ZiI:=@List.mem_map_of_mem
def Zif:=@List.length_nil
section
namespace Vm
open Go Go.Proofs
def sig(f:Zp):Option<|List OT:=
 if f=99 then J [.fz,.mem [.own 151],.mem [.own 3]]else
 if f=83 then J [.fz,.mem [.fz,.fz]]else
 if f=95 then J [.fz,.own 151]else
 if f=82 then J [.fz,.own 151]else
 if f=88 then J [.mem [.fz,.fz,.fz,.fz,.fz,.fz,.fz,.fz,.fz,.fz,.fz,.fz,.fz,.fz,.fz,.fz,.fz,.fz,.fz,.fz,.fz,.own 108,.own 109],.fz,.fz]else
 if f=75 then J [.mem [.fz,.fz,.fz,.fz,.fz,.fz,.fz,.fz,.fz,.fz,.fz,.fz,.fz,.fz,.fz,.fz,.fz,.fz,.fz,.fz,.fz,.own 108,.own 109]]else
 if f=1000080 then J [.mem [.fz,.fz,.fz,.fz,.fz,.fz,.fz,.fz,.fz,.fz,.fz,.fz,.fz,.fz,.fz,.fz,.fz,.fz,.fz,.fz,.fz,.own 108,.own 109]]else
 U
@[simp]def pI(n:Int):E:=.c<|.int .i64 n
@[simp]def pU(n:Int):E:=.c<|.int .u64 n
@[simp]def pF:E:=.c<|.bool xw
@[simp]def pT:E:=.c<|.bool xk
@[simp]def pN:E:=.c<|.sl []
@[simp]def pG(e:E):Nat->Nat->List E
 |_,0=>[]
 |i,n+1=>.ae e i::pG e (i+1) n
@[simp]def pS(a n:Nat):OV:=.m<|pG (.sz (.s a) n) 0 n
@[simp]def pM(e:E)(n:Nat):OV:=.m<|pG e 0 n
@[simp]def pY:E:=.ag [pU 0,pI 0,pI 0,pF,pI 0,pN,pN,pN,pN,pN]
@[simp]def pZ:OV:=.m [pU 0,pI 0,pI 0,pF,pI 0,pN,pN,pN,pN,pN]
@[simp]def pR(l:List<|Nat×OV):Stm:=.ao ⟨[],[],l⟩
@[simp]def pC(e:List EF)(l:List<|Nat×OV):Stm:=.ao ⟨e,[],l⟩
@[simp]def pV(t:Nat)(e:E):Nat×OV:=(t,.v e)
@[simp]def pK(t f:Nat)(l:List E):EF:=.call t [] (.id f) xw xw l
@[simp]def pQ:List Stm->Stm->Stm
 | [],z=>z
 |a::l,z=>.seq a<|pQ l z
def fresh(f:Zp):Bool:=f==96||f==84||f==86||f==8
def follows:xP.follows .mixedOrders=xk:=Z2
noncomputable abbrev ZX(a:List OT)(f:Func):Option Fn:=Wx xP fresh sig a [] f
@[simp]def pl(a b:E):E:=.bp .lss a b
@[simp]def pe(a b:E):E:=.bp .eql a b
@[simp]def pa(a b:E):E:=.bp .add a b
@[simp]def pn(a b:E):E:=.bp .neq a b
@[simp]def pb(a b:E):E:=.bp .sub a b
@[simp]def pg(a b:E):E:=.bp .geq a b
@[simp]def pL(a b:E):E:=.bp .leq a b
@[simp]def pj(a b:E):E:=.bp .gtr a b
@[simp]def pm(a b:E):E:=.bp .mul a b
@[simp]def pw(c:E)(a:Stm):Stm:=.cond c a .skip
@[simp]def px(l:List<|Nat×OV):Stm:=.seq (pR l) .ret
@[simp]def pi(t:Nat)(e:E)(a:Stm):Stm:=.seq (pR [pV t e])<|.cond (.s t) a .skip
@[simp]def pu(t:Nat)(e:E)(a b:Stm):Stm:=.seq (pR [pV t e])<|.cond (.s t) a b
@[simp]def po(k:Za)(t:Nat)(e:E)(a b:Stm):Stm:=.block 0<|.loop k<|.seq (pR [pV t e])<|.seq (.cond (.s t) .skip<|.exit 0)<|.seq (.block 1 a) b
@[simp]def pc(n:Nat):Stm:=pR [pV n<|.bp .add (.s n)<|pI 1]
section
def Aq(x:Option V)(A B:Prop):Prop:=
 match x with
 |some (.bool xk)=>A
 |some (.bool xw)=>B
 |_=>False
@[simp]theorem ZcV b A B:Aq (J<|.bool b) A B↔if b=xk then A else B:=by cases b<;>simp[Aq]
def Wb{α:Type}(x:Option α)(K:α->Prop):Prop:=
 match x with
 |some x=>K x
 |none=>False
@[simp]theorem Zey{α}x(K:α->Prop):Wb (J x) K↔K x:=ZiQ
@[simp]theorem Zex{α}(K:α->Prop):Wb U K↔False:=ZiQ
@[simp]theorem Zew{α β}f(x:Option α)(K:β->Prop):Wb (x.map f) K↔Wb x (λy=>K<|f y):=by cases x<;>rfl
@[simp]theorem Zeu{α β}f(x:Option α)(K:β->Prop):Wb (x.bind f) K↔Wb x (λy=>Wb (f y) K):=by cases x<;>rfl
@[simp]theorem Zev{α}p [Decidable p]x y(K:α->Prop):Wb (if p then x else y) K↔if p then Wb x K else Wb y K:=by split<;>rfl
def R4 P [Lg P](f:Zp)(fr fl:Bool)(xs:Zr)(K:V->Prop):Prop:=∃r,VC P f fr xs r/\(fl=xk->WA r=J r)/\K r
def Zz{P} [Lg P]{f fr fl xs K r}(h:VC P f fr xs r)(d:fl=xk->WA r=J r)(a:K r):R4 P f fr fl xs K:=⟨r,h,d,a⟩
def zM P [Lg P](f:Zp)(ks:List OT)(xs:Zr)(K:V->Prop):Prop:=∃R,Vs P f ks xs R/\K R
def Ua{P} [Lg P]{f ks xs K R}(h:Vs P f ks xs R)(a:K R):zM P f ks xs K:=⟨R,h,a⟩
def kS P [Lg P](b:Stm)(N:St->Prop)(X:Nat->St->Prop)(R:St->Prop)(s:St):Prop:=Yx P b s N X R
def xB(id:Nat)(N:St->Prop)(X:Nat->St->Prop)(i:Nat)(s:St):Prop:=if i=id then N s else X i s
def kR(a:List<|ZF×E)(outs:List<|Nat×OV)(K:St->Prop)(t:St):Prop:=SR t a/\U8 outs t t K
def kO(l:List<|Nat×OV)(t u:St)(i:Nat)(K:St->Prop)(x:SV):Prop:=U8 l t (YI u i x) K
def kL P [Lg P](l:List EF)(s:St)(i:Nat)(K:St->Prop)(x:V):Prop:=YO P l (YI s i<|.v x) K
def kA P [Lg P](f:Zp)(fr fl:Bool)(K:V->Prop)(xs:Zr):Prop:=R4 P f fr fl xs K
def Qm P [Lg P](fr fl:Bool)(K:V->Prop)(xs:Zr)(v:V):Prop:=Wb (J8 v) λn=>R4 P n.1 fr fl (xs++n.2) K
def Bl P [Lg P](x:Option V)(fr fl:Bool)(K:V->Prop)(xs:Zr):Prop:=Wb x<|Qm P fr fl K xs
def Bm P [Lg P](f:Option FuncId)(ks:List OT)(K:V->Prop)(xs:Zr):Prop:=Wb f λn=>zM P n ks xs K
def kW P [Lg P](l:List EF)(s:St)(i:Nat)(K:St->Prop)(a:Zr):Prop:=if a=[]then YO P l s K else YO P l (YI s i<|.v<|.am<|.bool xw::a) K
def kT(_:V):Prop:=True
section
variable {P:Z6}[Lg P]{N R:St->Prop}{X:Nat->St->Prop}{K:St->Prop}{s t u:St}
@[simp]theorem Zee b:kS P b N X R s↔Yx P b s N X R:=ZiQ
@[simp]theorem ZfX id:xB id N X id s↔N s:=by simp[xB]
def Kb id i:xB id N X i s↔if i=id then N s else X i s:=ZiQ
@[simp]theorem ZfW{id i}(h:i≠id):xB id N X i s↔X i s:=by simp[xB,h]
@[simp]theorem Zed a outs:kR a outs K t↔SR t a/\U8 outs t t K:=ZiQ
@[simp]theorem Zec l i x:kO l t u i K x↔U8 l t (YI u i x) K:=ZiQ
@[simp]theorem Zeb l i x:kL P l s i K x↔YO P l (YI s i<|.v x) K:=ZiQ
@[simp]theorem Zea f fr fl K xs:kA P f fr fl K xs↔R4 P f fr fl xs K:=ZiQ
@[simp]theorem Ze8 v fr fl K xs:Bl P (J v) fr fl K xs↔Qm P fr fl K xs v:=ZiQ
@[simp]theorem Ze7(f:Zp)(fr fl:Bool)(K:V->Prop)(xs:Zr):Qm P fr fl K xs (.fn f)↔R4 P f fr fl xs K:=by simp[Qm,J8]
@[simp]theorem Ze6 f cs fr fl K xs:Qm P fr fl K xs (.cq f cs)↔R4 P f fr fl (xs++cs) K:=by simp[Qm,J8]
@[simp]theorem Ze9 f ks K xs:Bm P (J f) ks K xs↔zM P f ks xs K:=ZiQ
@[simp]theorem Zeh(l:List EF)(i:Nat):kW P l s i K []↔YO P l s K:=by simp[kW]
@[simp]theorem Zeg l i x a:kW P l s i K (x::a)↔YO P l (YI s i<|.v<|.am<|.bool xw::x::a) K:=by simp[kW]
@[simp]theorem Zef x:kT x↔True:=ZiQ
@[simp]theorem ZfS r:Yx P (.ao r) s N X R↔jJ P r s N:=ZiQ
@[simp]theorem ZfV:Yx P .skip s N X R↔N s:=ZiQ
@[simp]theorem ZfU a b:Yx P (.seq a b) s N X R↔Yx P a s (kS P b N X R) X R:=ZiQ
@[simp]theorem ZfQ c a b:Yx P (.cond c a b) s N X R↔Aq (eval s c) (Yx P a s N X R) (Yx P b s N X R):=by
 rfl
@[simp]theorem ZfP id a:Yx P (.block id a) s N X R↔Yx P a s N (xB id N X) R:=ZiQ
@[simp]theorem ZfR id:Yx P (.exit id) s N X R↔X id s:=ZiQ
@[simp]theorem ZfT:Yx P .ret s N X R↔R s:=ZiQ
def S7{keep a}(I:St->Prop)(μ:St->Nat)(f:I<|YW keep s)(g:∀s,I s->Yx P a s (λd=>I (YW keep d)/\μ (YW keep d)<μ s) X R):Yx P (.loop keep a) s N X R:=⟨I,μ,f,g⟩
@[simp]theorem ZfO d a outs:jJ P ⟨d,a,outs⟩ s K↔YO P d s (kR a outs K):=ZiQ
@[simp]theorem ZfN:U8 [] t u K↔K u:=ZiQ
@[simp]theorem ZfM i o l:U8 ((i,o)::l) t u K↔Wb (WU t o) (kO l t u i K):=by
 simp[U8,kO];cases WU t o<;>rfl
@[simp]theorem ZfG:SR t []↔True:=ZiQ
@[simp]theorem ZfF C e l:SR t ((C,e)::l)↔(VU t C=xk->Wb (eval t e) kT)/\SR t l:=by
 simp[SR,kT];cases eval t e<;>simp
@[simp]theorem ZfL:YO P [] s K↔K s:=ZiQ
@[simp]theorem ZfK i C e l:YO P (.lt i C e::l) s K↔if VU s C=xk then Wb (eval s e) (kL P l s i K)else YO P l s K:=by
 simp[YO,kL];cases eval s e<;>rfl
@[simp]theorem ZfH i C f fr fl es l:YO P (.call i C (.id f) fr fl es::l) s K↔if VU s C=xk then Wb (YH s es) (kA P f fr fl<|kL P l s i K)else YO P l s K:=by
 simp[YO,Wb,R4,T4];cases YH s es<;>simp
@[simp]theorem ZfI i C x fr fl es l:YO P (.call i C (.e x) fr fl es::l) s K↔if VU s C=xk then Wb (YH s es) (Bl P (eval s x) fr fl<|kL P l s i K)else YO P l s K:=by
 simp[YO,Wb,Bl,Qm,R4,T4];cases YH s es with
 |none=>simp
 |some d=>
  cases eval s x with
  |none=>simp
  |some v=>cases a:J8 v<;>simp[a]
@[simp]theorem ZfJ i C f ks es l:YO P (.cn i C f ks es::l) s K↔
  if VU s C=xk then Wb (YH s es)<|Bm P (Vz s f) ks<|kL P l s i K
  else Wb (WD s ks es)<|kW P l s i K:=by
 simp[YO,Wb,zM,Bm,kW];split;cases YH s es<;>cases Vz s f<;>simp
 cases WD s ks es with
 |none=>simp
 |some a=>cases a<;>simp
@[simp]theorem ZeY e:WU t (.v e)=(eval t e).map .v:=rfl
@[simp]theorem ZeW l:WU t (.m l)=(YH t l).map .m:=rfl
@[simp]theorem ZeX:WU t .no=J .no:=rfl
@[simp]theorem Ze1:VU s []=xk:=rfl
def Z4i i b(C:ZF):VU s ((i,b)::C)=((match get s i with|.v (.bool c)=>c==b|_=>xw)&&VU s C):=rfl
end
@[simp]theorem ZdZ x(s:St):get (x::s) 0=x:=rfl
@[simp]theorem ZdY x(s:St)n:get (x::s) (n+1)=get s n:=by simp[get]
@[simp]theorem Zf3 x y(s:St):YI (y::s) 0 x=x::s:=rfl
@[simp]theorem Zf2 x y(s:St)n:YI (y::s) (n+1) x=y::YI s n x:=rfl
@[simp]theorem Zf1 x:YI [] 0 x=[x]:=rfl
@[simp]theorem Zf0 x n:YI [] (n+1) x=.no::YI [] n x:=rfl
@[simp]theorem ZeV s:YW [] s=[]:=rfl
@[simp]theorem ZeU i l s:YW (i::l) s=YI (YW l s) i (get s i):=rfl
attribute [simp] Lv eval YH Z4i Wp Tk U4 Q9 Q8 XC JN R1 Tv Vz WD
section
variable {k:IntKind}{a b:Int}{x y:V}{l r:Zr}
@[simp]theorem Zcq:Xa .add (.int k a) (.int k b)=J (.int k<|k.wrap<|a+b):=by simp[Xa]
@[simp]theorem ZcA:Xa .sub (.int k a) (.int k b)=J (.int k<|k.wrap<|a-b):=by simp[Xa]
@[simp]theorem Zcw:Xa .mul (.int k a) (.int k b)=J (.int k<|k.wrap<|a*b):=by simp[Xa]
@[simp]theorem Zcy:Xa .quo (.int k a) (.int k b)=if b≠0 then J (.int k<|k.wrap<|a.tdiv b)else U:=by simp[Xa]
@[simp]theorem Zcz:Xa .rem (.int k a) (.int k b)=if b≠0 then J (.int k<|a.tmod b)else U:=by simp[Xa]
@[simp]theorem Zcr:Xa .eql (.int k a) (.int k b)=J (.bool<|decide (a=b)):=by simp[Xa];rfl
@[simp]theorem Zcx:Xa .neq (.int k a) (.int k b)=J (.bool<|!decide (a=b)):=by simp[Xa];rfl
@[simp]theorem Zcv:Xa .lss (.int k a) (.int k b)=J (.bool<|decide (a<b)):=by simp[Xa]
@[simp]theorem Zcu:Xa .leq (.int k a) (.int k b)=J (.bool<|decide (a<=b)):=by simp[Xa]
@[simp]theorem Zct:Xa .gtr (.int k a) (.int k b)=J (.bool<|decide (b<a)):=by simp[Xa]
@[simp]theorem Zcs:Xa .geq (.int k a) (.int k b)=J (.bool<|decide (b<=a)):=by simp[Xa]
@[simp]theorem ZcX p q n:R7 n (.bool p) (.bool q)=J (.bool<|n ^^ (p==q)):=rfl
@[simp]theorem Zfy:SM .neg (.int k a)=J (.int k<|k.wrap<|0-a):=rfl
@[simp]theorem Zfz p:SM .not (.bool p)=J (.bool !p):=rfl
@[simp]theorem ZcW k':Ja k' (.int k a)=J (.int k'<|k'.wrap a):=rfl
@[simp]theorem Zei:Qq (.sl l)=J (.int .i64<|I l):=rfl
@[simp]theorem Zeo id vs:Rh (.mp id l vs)=J (.int .i64<|I l):=rfl
@[simp]theorem Zel id vs:L3 (.mp id l vs)=J (.mp id [] []):=rfl
@[simp]theorem Zem:Qv (.int k a) (.int k b)=J (.int k<|if b<a then b else a):=rfl
@[simp]theorem Zek:Qu (.int k a) (.int k b)=J (.int k<|if b>a then b else a):=rfl
@[simp]theorem ZcY i:Se (.am l) i=l[i]? :=rfl
@[simp]theorem Ze3(i n:Nat):X9 (.sl l) (.int k i) n=(l[i]?).bind λz=>if I z.cells=n then J z else U:=by simp[X9]
@[simp]theorem ZcI:(V.int k a).cells=[V.int k a]:=rfl
@[simp]theorem ZcG p:(V.bool p).cells=[V.bool p]:=rfl
@[simp]theorem ZcL s:(V.str s).cells=[V.str s]:=rfl
@[simp]theorem ZcK:(V.sl l).cells=[V.sl l]:=rfl
@[simp]theorem ZcE:(V.agg l).cells=l:=rfl
@[simp]theorem ZcJ id:(V.mp id l r).cells=[V.mp id l r]:=rfl
@[simp]theorem ZcH f:(V.fn f).cells=[V.fn f]:=rfl
@[simp]theorem ZeQ:(V.int k a).one=xk:=rfl
@[simp]theorem ZeM p:(V.bool p).one=xk:=rfl
@[simp]theorem ZeT:(V.sl l).one=xk:=rfl
@[simp]theorem ZeR id:(V.mp id l r).one=xk:=rfl
@[simp]theorem ZeP f:(V.fn f).one=xk:=rfl
@[simp]theorem ZeL:(V.agg l).one=xw:=rfl
@[simp]theorem ZeF:YS (.int k a)=J (.int k a):=rfl
@[simp]theorem ZeB p:YS (.bool p)=J (.bool p):=rfl
@[simp]theorem ZeJ s:YS (.str s)=J (.str s):=rfl
@[simp]theorem ZeI:YS (.sl l)=J (.sl l):=rfl
@[simp]theorem ZeG id:YS (.mp id l r)=J (.mp id l r):=rfl
@[simp]theorem ZeE f:YS (.fn f)=J (.fn f):=rfl
@[simp]theorem Zd1 o:ZZ (.agg l) o=(l[o]?).bind YS:=rfl
@[simp]theorem Zdn:ZZ (.int k a) 0=J (.int k a):=rfl
@[simp]theorem Zd2 p:ZZ (.bool p) 0=J (.bool p):=rfl
@[simp]theorem ZdN:ZZ (.sl l) 0=J (.sl l):=rfl
@[simp]theorem ZdO s:ZZ (.str s) 0=J (.str s):=rfl
@[simp]theorem ZdP o n:UA (.agg l) o n=if o+n<=(I l) then J (.agg<|(l.drop o).take n)else U:=rfl
@[simp]theorem Zfm n:VI (.agg l) n=if I l=n then J (.agg l)else U:=rfl
@[simp]theorem Ze4:Ql (.agg l)=J (.agg l):=rfl
@[simp]theorem Zfl:To (.ptr l)=J (.agg l):=rfl
@[simp]theorem Ze5 p A B:Jw (.bool p) A B=if p=xk then A else B:=by cases p<;>rfl
@[simp]theorem Zcc:Sa l=.agg (flat l):=rfl
@[simp]theorem ZcZ:flat (x::l)=x.cells++flat l:=rfl
@[simp]theorem Zd0:flat []=[]:=rfl
@[simp]theorem Zcp n:RZ n (.sl l) (.sl r)=if I l+I r<=Y3/\Xv n r=xk then J (.sl<|l++r)else U:=rfl
@[simp]theorem Zfe n:Xv n []=xk:=rfl
@[simp]theorem Zfb n:Xv n (x::l)=(I x.cells==n&&Xv n l):=rfl
def K1{α:Type}{f n}{l:List α}(h:∀x,(f x).cells.length=n):Xv n (l.map f)=xk:=by
 simp[Xv,h]
abbrev Z8:=List Int
@[simp]theorem LW(l:Z8):Xv 1 (l.map<|V.int k)=xk:=K1 λ_=>rfl
@[simp]theorem Zen(n:Nat):L5 x (.int k n)=if n<=Y3 then J (.sl<|List.replicate n x)else U:=by
 simp only[L5];have:(n<=Y3)↔n<=Y3:=Z0;simp
@[simp]theorem Zaa(i j n:Nat):RE n (.sl l) (.int k i) (.int k j)=if i<=j/\j<=I l/\Xv n l=xk then J (.sl<|(l.take j).drop i)else U:=by
 simp[RE]
@[simp]theorem Zfj(i n:Nat):QP n (.sl l) (.int k (i:Int))=if i<=I l/\Xv n l=xk then J (.sl<|l.drop i)else U:=by
 simp[QP]
@[simp]theorem ZfA(i o:Nat):RJ (.sl l) (.int k i) o y=(l[i]?).bind λz=>if o+I y.cells<=I z.cells/\y.cells≠[]then J (.sl<|l.set i<|z.put o y.cells)else U:=by
 simp[RJ]
end
abbrev vi(n:Int):V:=.int .i64 n
abbrev vu(n:Int):V:=.int .u64 n
@[simp]theorem Zeq(n:Nat):((n:Int)<0)↔False:=by simp
def Zy n(a: -9223372036854775808<=n)(h2:n<=9223372036854775807):IntKind.i64.wrap n=n:=by
 rw[IntKind.wrap_i64];omega
end
end Vm
end
section
namespace Vm
open Go Go.ChangeShapes Go.WideShapes Go.ChangeAt Go.RowKit
section
def KK(P:Z6)(n:Nat):List Field->Nat->Bool
 | [],o=>o==n
 |f::l,o=>f.offset==o&&KK P n l (o+P.cellsOf f.type)
def Sv(P:Z6):Nat->TypeId->Bool
 |0,_=>xw
 |n+1,t=>match P.underlying t with
  |some .bool|some (.int _)|some .string=>xk
  |some (.slice e)=>Sv P n e&&decide (0<P.cellsOf e)
  |some (.struct a)=>KK P (P.cellsOf t) a.toList 0&&a.toList.all λf=>Sv P n f.type
  |some (.array m e)=>Sv P n e&&m*P.cellsOf e==P.cellsOf t
  |_=>xw
def Xj(P:Z6):Nat->TypeId->V->Prop
 |0,_,_=>False
 |n+1,t,x=>match P.underlying t with
  |some .bool=>∃b,x=.bool b
  |some (.int k)=>∃m,x=.int k m/\(Lit.int k m).wf=xk
  |some .string=>∃s,x=.str s/\s.size<=maxLen
  |some (.slice e)=>∃l,x=.sl l/\I l<=maxLen/\∀y∈l,Xj P n e y
  |some (.struct d)=>∃a,x=.agg (flat a)/\I a=I d.toList/\∀(i:Nat) (f:Field) (y:V),d.toList[i]?=J f->a[i]?=J y->Xj P n f.type y
  |some (.array m e)=>∃a,x=.agg (flat a)/\I a=m/\∀y∈a,Xj P n e y
  |_=>False
def RdC(w:Z3)(G:Z4)(cs:Zr)(vs:Zm):Prop:=
 I vs=I cs/\∀(i:Nat) (c:V),cs[i]?=J c->c.one=xk/\∃u,vs[i]?=J u/\Rd w G c u
def RdC.nil{w G}:RdC w G [] []:=⟨rfl,λi c h=>ZgD⟩
def RdC.append{w G cs d vs f}(h:RdC w G cs vs)(h':RdC w G d f):RdC w G (cs++d)<|vs++f:=by
 refine⟨by simp[h.1,h'.1],λi c g=> ?_⟩;rw[List.getElem?_append]at g⊢;rw[h.1];split at g;rename_i a;rw[Zhc a];exact h.2 i c g;rename_i a;rw[Zh9 a];exact h'.2 _ c g
theorem RdC.one{w G c v}(a:c.one=xk)(h:Rd w G c v):RdC w G [c] [v]:=
 ⟨rfl,λi x d=>by
  grind⟩
def zP{α:Type}{Q:Nat->α->Prop}:∀n,(∀i,i<n->∃y,Q i y)->∃l:List α,I l=n/\∀i y,l[i]?=J y->Q i y
 |0,_=>Z1
 |n+1,h=>by
  let⟨l,d,f⟩:=zP n λi o=>h i Z0;let⟨y,j⟩:=h n Z0;refine⟨l++[y],by simp[d],λi z a=> ?_⟩;rw[List.getElem?_append]at a;split at a;exact f i z a;rename_i g;rw[List.getElem?_singleton]at a;split at a;rename_i k;have:i=n:=Z0;subst this;simp[ZgX]at a;subst a;exact j;cases a
def Ak{w:Z3}{b a n cs}(h:w.cells? b a n=J cs):I cs=n/\∀i,i<n->w.cell? (a.add i)=cs[i]? :=by
 unfold World.cells? at h;split at h;have d:=mapM_some_length h;rw[List.length_range]at d;refine⟨d,λi f=>mapM_some_get h i i ?_⟩;simp_all;cases h
def Z39{w:Z3}{a v}(h:w.cell? a=J v):a.block<xz (xj w):=by
 grind [World.cell?]
def D3{w G}:∀ {ys} {a:List (List Value)},I a=I ys->(∀(i:Nat) y vs,ys[i]?=J y->a[i]?=J vs->RdC w G y.cells vs)->RdC w G (flat ys) a.flatten
 | [],[],_,_=>by simpa using RdC.nil
 | [],_::_,h,_=>ZgD
 |_::_,[],h,_=>ZgD
 |y::ys,vs::a,h,d=>by
  exact(d 0 y vs rfl rfl).append (D3 ZfZ λi z f j g=>d (i+1) z f ZfZ ZfZ)
def GT{P n}{cs:Zm}:∀ {l} {o:Nat},KK P n l o=xk->o<=n/\(I cs=n->cs.drop o=(l.map λf=>(cs.drop f.offset).take<|P.cellsOf f.type).flatten)
 | [],o,h=>by
   simp_all[KK,ZhQ]
 |f::l,o,h=>by
  simp[KK,ZhQ]at h;let⟨d,a⟩:=h;let⟨g,j⟩:=GT (cs:=cs) a;refine⟨Z0,λk=> ?_⟩;grind [List.drop_drop,List.take_append_drop]
def Z2m{cs:Zm}{k}:∀ {m},I cs=m*k->cs=((List.range m).map λi=>(cs.drop<|i*k).take k).flatten:=by
 have:∀m (cs:Zm),cs.take (m*k)=((List.range m).map λi=>(cs.drop<|i*k).take k).flatten:=by
  intro m;induction m with
  |zero=>simp
  |succ m d=>
   simp_all[Zji,Zig,List.flatten_append,Zii,List.take_add]
 intro m h;have a:=this m cs;grind
section
abbrev ZfY:=Nat->Bool
variable {H:Type}{enc:TypeId×Value->H}{P:Z6}{w:Z3}{spare:ZfY}{held:Bool}
def qY:∀ {n} {t:Zf} {C:Nat} {cs:Zm} {d:DataW H×List MemPlace},Sv P n t=xk->DataW.trod enc P w 0 spare held C t cs=J d->
  ∃x,Xj P n t x/\RdC w (λb=>b<xz (xj w)) x.cells cs
 |0,t,C,cs,d,L,h=>by cases L
 |n+1,t,C,cs,d,L,h=>by
  unfold Sv at L;unfold Xj;split at L;rename_i N;obtain⟨b,rfl,_⟩:=DataW.trod_bool N h;exact⟨.bool b,⟨b,rfl⟩,.one rfl<|.bool b⟩;rename_i k N;obtain⟨m,rfl,_,hw⟩:=DataW.trod_int N h;exact⟨.int k m,Zg0,.one rfl<|.int k m⟩;rename_i N;obtain⟨s,rfl,_,hw⟩:=DataW.trod_string N h;exact⟨.str s,Zg0,.one rfl<|.str s⟩;rename_i e N;simp only[Zh1,Zhy]at L;let⟨M,A⟩:=L;obtain⟨rfl,_⟩|⟨a,len,cap,a8,b3,m,_,rfl,_,_,b5,a4,b4,D,_⟩:=DataW.trod_slice N h;exact⟨.sl [],Z1,.one rfl<|.nil _ _ Z0⟩;have F:∀i,i<len->∃y,Xj P n e y/\∃vs,w.cells? 0 (a.add<|i*P.cellsOf e) (P.cellsOf e)=J vs/\RdC w (λb=>b<xz (xj w)) y.cells vs:=by
   intro i g;have p:=D i g;rw[ZgY Z0]at p;simp only[ZgW]at p;let⟨vs,S,B⟩:=p;let⟨y,r,T⟩:=qY M B;exact⟨y,r,vs,S,T⟩
  let⟨l,b1,a1⟩:=zP len F;have b6:∀y∈l,Xj P n e y:=λy r=>by
   let⟨i,g⟩:=Zhr r;exact(a1 i y g).1
  refine⟨.sl l,ZfZ,.one rfl ?_⟩;cases a5:len with
  |zero=>
   have:l=[]:=Zg0;subst this;exact .nil _ _ a4
  |succ b2=>
   let⟨b,o,a0⟩:=a;have a2:a0=U:=by
    let⟨y,_,vs,O,_⟩:=F 0 Z0;let⟨p,S⟩:=Ak O;have B:=S 0 A;rw[ZgY Z0]at B;have h4:=World.cell?_spot B;obtain _|s:=a0;rfl;simp[Addr.add]at h4
   subst a2;have z:∀(i j:Nat) (y:V),l[i]?=J y->j<P.cellsOf e->∃(u:Ze),w.cell? ⟨b,o+(i*P.cellsOf e+j),U⟩=J u/\∃c,y.cells[j]?=J c/\c.one=xk/\Rd w (λb=>b<xz (xj w)) c u:=by
    intro i j y r Z;let⟨_,vs,O,T⟩:=a1 i y r;let⟨p,S⟩:=Ak O;have B:=S j Z;rw[ZiB,ZiB,ZgY Z0]at B;have b7:j<I y.cells:=by rw[<-T.1];omega
    let⟨q1,u,q2,q3⟩:=T.2 j y.cells[j] Z1;rw[ZgY Z0,ZgX]at q2;subst q2;exact⟨_,by rw[<-Zib];exact B,_,Z1,q1,q3⟩
   have K:∀y∈l,y.aw<|P.cellsOf e:=λy r=>by
    let⟨i,g⟩:=Zhr r;let⟨_,vs,O,T⟩:=a1 i y g;refine⟨by rw[<-T.1,(Ak O).1],λc hc=> ?_⟩;let⟨j,Z⟩:=Zhr hc;exact(T.2 j c Z).1
   have Y:∀i,i<I l*P.cellsOf e->∃y,l[i / P.cellsOf e]?=J y/\i%P.cellsOf e<P.cellsOf e/\i=i / P.cellsOf e*P.cellsOf e+i%P.cellsOf e:=by
    intro i g;have p:=(Zl6 A).2 g;exact⟨_,ZgY p,Zkk _ A,by rw[Nat.mul_comm];exact(Nat.div_add_mod _ _).symm⟩
   have hb:b<xz (xj w):=by
    obtain⟨y,r⟩:∃y,l[0]?=J y:=⟨_,ZgY Z0⟩;let⟨u,hu,_⟩:=z 0 0 y r A;exact Z39 hu
   have a6:=Rd.sl (w:=w) (G:=λb=>b<xz (xj w)) l b o cap (P.cellsOf e) (λi=>(w.cell? ⟨b,o+i,U⟩).getD xy) Z0 a4 hb K (λi g=> ?_) (λi c g=> ?_);rw[b1,a5]at a6;exact a6;let⟨y,p,S,B⟩:=Y i g;let⟨u,hu,_⟩:=z _ _ y p S;rw[<-B]at hu;rw[hu];rfl;have b0:i<I l*P.cellsOf e:=by
    rw[<-Sf K];exact(ZgZ.1 g).1
   let⟨y,p,S,B⟩:=Y i b0;let⟨u,hu,c',a9,_,T⟩:=z _ _ y p S;rw[<-B]at hu;rw[B,VQ K p _ S,a9]at g;cases g;simp only[hu,Zhw];exact T
  rename_i fs N;simp only[Zh1,Zhd]at L;let⟨M,A⟩:=L;let⟨xs,m,_,_,a3,a7,D⟩:=DataW.trod_struct N h
  let⟨ys,R,W⟩:=zP (Q:=λi y=>∀f,fs.toList[i]?=J f->Xj P n f.type y/\RdC w (λb=>b<xz (xj w)) y.cells ((cs.drop f.offset).take<|P.cellsOf f.type)) (I fs.toList) (by
   intro i g;have hf:fs.toList[i]?=J fs.toList[i]:=Z1;have p:=D i fs.toList[i] Z1;rw[ZgY (by rw[a7];exact g)]at p;let⟨y,r,T⟩:=qY (A _<|Zhm g) p;exact⟨y,ZfZ⟩)
  refine⟨.agg<|flat ys,⟨ys,rfl,R,λi f y hf r=>ZfZ⟩,?_⟩;have X:=(GT (cs:=cs) M).2 a3;rw[List.drop_zero]at X;rw[X];refine D3 (by simp[R]) λi y vs r O=> ?_;rw[Zhq,Zh0]at O;obtain⟨f,hf,rfl⟩:=O;exact(W i y r f hf).2;rename_i m e N;simp only[Zh1,ZhQ]at L;let⟨M,A⟩:=L;let⟨xs,q,_,_,a3,a7,D⟩:=DataW.trod_array N h
  let⟨ys,R,W⟩:=zP (Q:=λi y=>Xj P n e y/\RdC w (λb=>b<xz (xj w)) y.cells ((cs.drop<|i*P.cellsOf e).take<|P.cellsOf e)) m (by
   intro i g;have p:=D i g;rw[ZgY Z0]at p;exact qY M p)
  refine⟨.agg<|flat ys,⟨ys,rfl,R,λy r=> ?_⟩,?_⟩;let⟨i,g⟩:=Zhr r;exact(W i y g).1;rw[Z2m (cs:=cs) (k:=P.cellsOf e) (m:=m) Z0];refine D3 (by simp[R]) λi y vs r O=> ?_;rw[Zhq,Zh0]at O;obtain⟨j,Z,rfl⟩:=O;have:j=i:=by
   rw[ZgZ]at Z;let⟨_,Z⟩:=Z;simpa using Z.symm
  subst this;exact(W j y r).2;cases L
def Z8J{n t v d F r D}(j:Sv P n t=xk)(a:Value.okWide P w r D t v)(h:DataW.Trod enc P w 0 spare held t v d F):
  ∃x,Xj P n t x/\Rd w (λb=>b<xz (xj w)) x v:=by
 let⟨B,h⟩:=h;let⟨x,g,l⟩:=qY j h;refine⟨x,g,?_⟩;have o:∀ {c},x=c->c.cells=[c]->v.cells.toList=[v]->Rd w (λb=>b<xz (xj w)) x v:=by
  intro c y q A;subst y;rw[q,A]at l;let⟨_,u,p,C⟩:=l.2 0 x rfl;simp at p;subst p;exact C
 have K:∀ {cs} {vs:Zb},x=.agg cs->v=.agg vs->Rd w (λb=>b<xz (xj w)) x v:=by
  intro cs vs y A;subst y A;refine .agg cs vs (by have:=l.1;simpa[Value.cells]using this) (λc q=> ?_) λi c z=> ?_;let⟨i,z⟩:=Zhr q;exact(l.2 i c z).1;let⟨_,u,p,C⟩:=l.2 i c z;have:vs.getD i xy=u:=by
   have G:vs[i]?=J u:=by simpa[Value.cells]using p
   simp[G]
  grind
 cases n with
 |zero=>cases j
 |succ n=>
  unfold Sv at j;unfold Xj at g;split at j;rename_i f;rw[f]at g;obtain⟨b,rfl⟩:=g;obtain⟨c,rfl⟩:=okWide_bool f a;exact o rfl rfl rfl;rename_i k f;rw[f]at g;obtain⟨b,rfl,_⟩:=g;obtain⟨c,rfl⟩:=okWide_int f a;exact o rfl rfl rfl;rename_i f;rw[f]at g;obtain⟨b,rfl,_⟩:=g;obtain⟨c,rfl⟩:=okWide_string f a;exact o rfl rfl rfl;rename_i e f;rw[f]at g;obtain⟨b,rfl,_⟩:=g;obtain⟨c,_,_,rfl⟩:=okWide_slice f a;exact o rfl rfl rfl;rename_i H f;rw[f]at g;simp[Value.okWide]at a;grind;rename_i m e f;rw[f]at g;simp[Value.okWide]at a;grind;cases j
def On{n r F}:∀ {ts} {vs:Zm} {l:List (DataW H)} {z:List MemPlace},DataW.TrodAll enc P w 0 spare held ts vs l z->(∀t∈ts,Sv P n t=xk)->
  (∀(j:Nat) t v,ts[j]?=J t->vs[j]?=J v->Value.okWide P w r F t v)->
  ∃k:Zr,I k=I vs/\I vs=I ts/\I l=I ts/\(∀(i:Nat) t x,ts[i]?=J t->k[i]?=J x->Xj P n t x)/\∀(i:Nat) x v,k[i]?=J x->vs[i]?=J v->Rd w (λb=>b<xz (xj w)) x v
 | [],vs,l,z,h,_,_=>by
   obtain⟨rfl,rfl,rfl⟩:=trodAll_nil h;simp
 |t::ts,vs,l,z,h,D,a=>by
  obtain⟨v,S,d,G,p,q,rfl,rfl,rfl,K,L⟩:=trodAll_cons h;let⟨x,u,y⟩:=Z8J (D t Z1) (a 0 t v rfl rfl) K;let⟨k,M,N,R,O,Q⟩:=On L (λt g=>D t<|by simp[g]) λj A B g o=>a (j+1) A B ZfZ ZfZ;refine⟨x::k,by simp[M],by simp[N],by simp[R],λi A C g f=> ?_,λi C B f o=> ?_⟩;cases i with
  |zero=>simp at g f;subst g f;exact u
  |succ i=>exact O i A C ZfZ Zgi
  cases i with
  |zero=>simp at o f;subst o f;exact y
  |succ i=>exact Q i C B Zgi ZfZ
def FG{W W'}(k:laidOutB P=xk)(g:Below (xz<|xj W) W W'):∀ {ts} {vs:Zm} {f:List (DataW H)} {a:List MemPlace},DataW.TrodAll enc P W 0 (λ_=>xk) xk ts vs f a->
  (∀t∈ts,P.readableRec t=xk/\t<P.types.size)->(∀x∈a,x.block<xz (xj W))->DataW.TrodAll enc P W' 0 (λb=>decide (b<xz (xj W))) xk ts vs f a
 | [],vs,f,a,h,_,_=>by
   obtain⟨rfl,rfl,rfl⟩:=trodAll_nil h;rfl
 |t::ts,vs,f,a,h,j,r=>by
  obtain⟨v,w,d,l,p,q,rfl,rfl,rfl,n,o⟩:=trodAll_cons h;exact trodAll_cons_mk (Below.trod k (j t Z1).1 (j t Z1).2 n g λx u=>Zg0) (FG k g o Zg0 λx u=>Zg0)
end
def Z5H{P} [Lg P]{f fn}{s:ChangeSpec}{tb}n(S:laidOutB P=xk)(C:(fn.params.toList.all λt=>Sv P n t)=xk)(k:(fn.params.toList.all λt=>P.readableRec t&&decide (t<P.types.size))=xk)
  (a:s.vars=[]) (u:fn.resultTypes=#[tb]) (O:P.underlying tb=J .bool)
  (h:∀H ds,I ds=I fn.params.toList->s.fn H ds= {results:=[.lit<|.bool xk],args:=ds})
  (o:∀y,I y=I fn.params.toList->(∀(i:Nat) t x,fn.params.toList[i]?=J t->y[i]?=J x->Xj P n t x)->VC P f xw y (.bool xk))
  H enc W base args (ds gs:List<|DataW H) d
  (w:∀(j:Nat) t v,fn.params[j]?=J t->args[j]?=J v->Value.okWide P W .any base t v)
  (A:DataW.Whole enc P fn.params.toList s.vars xw W args.toList ds gs d):
  Lg.kx P f args W λe G=>∃v,e=.returned v/\s.post enc P fn xw xk xw xw W args v G:=by
 have r:=λx z=>by simpa using A.lt x z
 have l:=A;obtain⟨p,q,K,L,rfl,_,_⟩:=A;rw[a]at L;obtain⟨rfl,rfl⟩:=trodVars_none L;rw[Zim]at r l;let⟨y,N,T,q5,X,Y⟩:=On (n:=n) K (Zhd.1 C) λj t v M Z=>w j t v ZfZ ZfZ;let⟨_,F⟩:=o y (by rw[N,T]) X;refine Lg.dx (F W (λb=>b<xz (xj W)) args Z0 ZfZ λi x z=> ?_) λe G Q=> ?_;have R:i<I args.toList:=by rw[<-N];exact(ZgZ.1 z).1
 have:args.getD i xy=args.toList[i]:=by
  have B:i<args.size:=by simpa using R
  simp[Zh5,B]
 rw[this];exact Y i x _ z Z1;obtain⟨v,rfl,g,D⟩:=Q;cases D;refine⟨_,rfl,ds,[],p,[],p,[],l,?_,?_,?_,g.frame _,Z1⟩;rw[h H _ ZfZ,u];exact trodAll_mk1<|shut_bool O xk;rw[h H _ ZfZ,Zim];exact FG S g K (λt M=>by simpa using Zhd.1 k t M) r;rw[a,h H _ ZfZ];rfl
def ID{α:Type}{enc}{Q:α->Prop}:∀ {l:Zr},(∀y∈l,∃a,y=enc a/\Q a)->∃d:List α,l=d.map enc/\∀a∈d,Q a
 | [],_=>Z1
 |y::l,h=>by
  obtain⟨a,rfl,g⟩:=h y Z1;obtain⟨d,rfl,j⟩:=ID (l:=l) λz f=>h z<|ZhG _ f;exact⟨a::d,rfl,Zg0⟩
def PO{P n t x k}(d:P.underlying t=J (.int k))(h:Xj P (n+1) t x):∃m,x=.int k m/\k.min<=m/\m<=k.max:=by
 unfold Xj at h;rw[d]at h;obtain⟨m,rfl,a⟩:=h;simp[Lit.wf,Zhy]at a;exact⟨m,rfl,a⟩
def DR{P n t e x}{α:Type}{enc}{Q:α->Prop}(g:P.underlying t=J (.slice e))(h:Xj P (n+1) t x)(f:∀y,Xj P n e y->∃a,y=enc a/\Q a):∃l:List α,x=.sl (l.map enc)/\I l<=maxLen/\∀a∈l,Q a:=by
 unfold Xj at h;rw[g]at h;obtain⟨l,rfl,k,d⟩:=h;obtain⟨p,rfl,o⟩:=ID λy j=>f y<|d y j;grind
def PP{P n t x fs}(d:P.underlying t=J (.struct fs))(h:Xj P (n+1) t x):∃a,x=.agg (flat a)/\I a=I fs.toList/\∀(i:Nat) f y,fs.toList[i]?=J f->a[i]?=J y->Xj P n f.type y:=by
 simp_all[Xj]
end
end Vm
end
section
namespace Vm
open Go Go.Proofs
section
def U1(s:St):List (Nat×SV)->St
 | []=>s
 |(i,x)::l=>U1 (YI s i x) l
@[simp]theorem Zf5(s:St):U1 s []=s:=rfl
@[simp]theorem Zf4(s:St)(i:Nat)(x:SV)(l:List<|Nat×SV):U1 s ((i,x)::l)=U1 (YI s i x) l:=rfl
section
variable {P:Z6}[Lg P]{K K':St->Prop}
def Z0h(d:∀s,K s->K' s){t:St}:∀ {l:List (Nat×OV)} {u:St},U8 l t u K->U8 l t u K'
 | [],_,h=>d _ h
 | (i,o)::l,u,h=>by
   simp only[U8]at h⊢;split;rename_i x a;rw[a]at h;exact Z0h d h;rename_i a;rw[a]at h;exact h
def RP(g:∀s,K s->K' s):∀ {l:List EF} {s:St},YO P l s K->YO P l s K'
 | [],_,h=>g _ h
 | .lt i C e::l,s,h=>by
   simp only[YO]at h⊢;split;rename_i a;rw[Zhc a]at h;split;rename_i x d;rw[d]at h;exact RP g h;rename_i d;rw[d]at h;exact h;rename_i a;rw[Zh9 a]at h;exact RP g h
 | .call i C f u fl t::l,s,h=>by
   simp only[YO]at h⊢;split;rename_i a;rw[Zhc a]at h;split;rename_i x n d k;rw[d,k]at h;obtain⟨r,j,o,p⟩:=h;exact⟨r,j,o,RP g p⟩;rename_i q;split at h;rename_i x n d k;exact(q x n d k).elim;exact h;rename_i a;rw[Zh9 a]at h;exact RP g h
 | .cn i C f w t::l,s,h=>by
   simp only[YO]at h⊢;split;rename_i a;rw[Zhc a]at h;split;rename_i x n d k;rw[d,k]at h;obtain⟨r,j,p⟩:=h;exact⟨r,j,RP g p⟩;rename_i d;split at h;rename_i x n j o;exact(d x n j o).elim;exact h;rename_i a;rw[Zh9 a]at h;split at h;exact RP g h;exact RP g h;exact h.elim
def RR:∀ {a:Stm} {s:St} {N p R q:St->Prop} {X u:Nat->St->Prop},Yx P a s N X R->(∀s,N s->p s)->(∀i s,X i s->u i s)->(∀s,R s->q s)->Yx P a s p u q
 |.ao r,s,_,_,_,_,_,_,h,d,_,_=>RP (λt j=>⟨j.1,Z0h d j.2⟩) h
 |.skip,s,_,_,_,_,_,_,h,d,_,_=>d _ h
 |.seq a b,s,_,_,_,_,_,_,h,d,g,f=>RR (a:=a) (s:=s) h (λt j=>RR (a:=b) (s:=t) j d g f) g f
 | .cond c a b,s,_,_,_,_,_,_,h,d,g,f=>by
   simp only[Yx]at h⊢;split;rename_i k;rw[k]at h;exact RR h d g f;rename_i k;rw[k]at h;exact RR h d g f;rename_i l n;split at h;rename_i k;exact(l k).elim;rename_i k;exact(n k).elim;exact h
 | .block id a,s,_,_,_,_,_,_,h,d,g,f=>RR (a:=a) (s:=s) h d (λi t j=>by
   split;rename_i o;rw[Zhc o]at j;exact d _ j;rename_i o;rw[Zh9 o]at j;exact g _ _ j) f
 | .loop w a,s,_,_,_,_,_,_,h,d,g,f=>by
   obtain⟨I,m,l,n⟩:=h;exact⟨I,m,l,λt j=>RR (a:=a) (s:=t) (n t j) (λ_ h=>h) g f⟩
 |.exit id,s,_,_,_,_,_,_,h,_,g,_=>g _ _ h
 |.ret,s,_,_,_,_,_,_,h,_,_,f=>f _ h
end
def RQ{P:Z6} [Lg P]{keep:Za}{a:Stm}{s:St}{N R:St->Prop}{X:Nat->St->Prop}{ι:Type}(L:ι->List (Nat×SV))(Inv:ι->Prop)(m:St->Nat)(d:ι)
  (g:YW keep s=U1 (YW keep s) (L d)) (k:Inv d)
  (j:∀p,Inv p->Yx P a (U1 (YW keep s)<|L p) (λf=>∃q,Inv q/\YW keep f=U1 (YW keep s) (L q)/\m (U1 (YW keep s)<|L q)<m (U1 (YW keep s)<|L p)) X R):
  Yx P (.loop keep a) s N X R:=by
 refine⟨λt=>∃p,Inv p/\t=U1 (YW keep s) (L p),m,⟨d,k,g⟩,?_⟩;rintro t ⟨p,o,rfl⟩;refine RR (j p o) (λf u=> ?_) (λ_ _ h=>h) (λ_ h=>h);obtain⟨q,r,l,n⟩:=u;rw[l];exact⟨⟨q,r,rfl⟩,n⟩
def XQ(c:Nat)(n:Nat)(t:St):Nat:=match get t c with|.v (.int _ k)=>n-k.toNat|_=>0
def VL{P:Z6} [Lg P]{keep:Za}{a:Stm}{s:St}{N R:St->Prop}{X:Nat->St->Prop}(c n:Nat)(L:Nat->List (Nat×SV))(Inv:Z4)
  (g:YW keep s=U1 (YW keep s) (L 0)) (hc:∀i,get (U1 (YW keep s)<|L i) c=.v (vi i)) (k:Inv 0)
  (j:∀i,i<=n->Inv i->Yx P a (U1 (YW keep s)<|L i) (λf=>i<n/\Inv (i+1)/\YW keep f=U1 (YW keep s) (L<|i+1)) X R):
  Yx P (.loop keep a) s N X R:=by
 refine RQ L (λi=>i<=n/\Inv i) (XQ c n) 0 g ⟨Z0,k⟩ ?_;rintro i ⟨o,q⟩;refine RR (j i o q) (λf p=> ?_) (λ_ _ h=>h) (λ_ h=>h);obtain⟨h,d,l⟩:=p;refine⟨i+1,⟨Z0,d⟩,l,?_⟩;simp only[XQ,hc];simp;omega
def jK{P:Z6} [Lg P]{keep:Za}{a:Stm}{s:St}{N R:St->Prop}{X:Nat->St->Prop}(c n:Nat)(Inv:Z4)
  (d:YW keep s=YI (YW keep s) c (.v<|vi 0)) (hc:∀x,get (YI (YW keep s) c x) c=x) (g:Inv 0)
  (f:∀i,i<=n->Inv i->Yx P a (YI (YW keep s) c<|.v<|vi i) (λh=>i<n/\Inv (i+1)/\YW keep h=YI (YW keep s) c (.v<|vi<|i+1)) X R):
  Yx P (.loop keep a) s N X R:=
 VL c n (λi=>[(c,.v<|vi i)]) Inv d (λi=>hc _) g f
end
def qC:Fn:=⟨4,[0,2,3,9],pQ [pR [pV 1<|pU 0,pV 2<|pI 0],pQ [.ao ⟨[.lt 4 []<|pl (.s 0)<|pU 1],[([(4,xw)],pj (.s 0)<|pU 9223372036854775807)],[pV 3<|.ite (.s 4) pT<|pj (.s 0)<|pU 9223372036854775807]⟩]<|pw (.s 3)<|px [pV 1<|pU 0,pV 2<|pI 1]]<|px [pV 1<|pa (pm (pU 2)<|.s 0)<|pU 1,pV 2<|pI 0],[(1,.v),(2,.v)]⟩
def c28:ZX [.fz] Try.f28=J qC:=Z2
def N8:Fn:=⟨3,[0,1,2],pQ [pR [(1,pS 0 2),pV 2 pF],.ao ⟨[.lt 3 []<|pg (.m 1 0)<|pI 0,.lt 4 []<|.ite (.s 3) (pL (.m 1 0)<|pI 255) pF,.lt 5 []<|.ite (.s 4) (pg (.m 1 1)<|pI 0) pF],[([(3,xk)],pL (.m 1 0)<|pI 255),([(4,xk)],pg (.m 1 1)<|pI 0),([(5,xk)],pL (.m 1 1)<|.m 1 0)],[pV 2<|.ite (.s 5) (pL (.m 1 1)<|.m 1 0) pF]⟩] .ret,[(2,.v)]⟩
def c44:ZX [.fz] Try.f44=J N8:=Z2
def Nb:Fn:=⟨6,[0,1,2,3,4,8],pQ [pR [(1,pS 0 2),pV 2<|pU 0,pV 3<|pI 0],pC [pK 6 70 [.mm 1 0 2]] [pV 4<|.s 6],pi 5 (.un .not<|.s 4)<|px [pV 2<|pU 0,pV 3<|pI 1]]<|px [pV 2<|pm (pU 2)<|pa (.conv .u64<|.m 1 0)<|pm (pU 65536)<|.conv .u64<|.m 1 1,pV 3<|pI 0],[(2,.v),(3,.v)]⟩
def c50:ZX [.fz] Try.f50=J Nb:=Z2
def qF:Fn:=⟨4,[0,2,3,9],pQ [pR [pV 1<|pU 0,pV 2<|pI 0],pQ [.ao ⟨[.lt 4 []<|pl (.s 0)<|pU 1],[([(4,xw)],pj (.s 0)<|pU 9223372036854775807)],[pV 3<|.ite (.s 4) pT<|pj (.s 0)<|pU 9223372036854775807]⟩]<|pw (.s 3)<|px [pV 1<|pU 0,pV 2<|pI 1]]<|px [pV 1<|pa (pm (pU 2)<|.s 0)<|pU 1,pV 2<|pI 0],[(1,.v),(2,.v)]⟩
def c54:ZX [.fz] Try.f54=J qF:=Z2
def Lm:Fn:=⟨5,[0,2,3,5,12],pQ [pR [pV 1<|pU 0,pV 2<|pI 0],pi 3 (pe (.s 0)<|pU 0)<|px [pV 1<|pU 0,pV 2<|pI 6],pQ [.ao ⟨[.lt 5 []<|pe (.bp .rem (.s 0)<|pU 2)<|pU 0],[([(5,xw)],pe (.s 0)<|pU 1)],[pV 4<|.ite (.s 5) pT<|pe (.s 0)<|pU 1]⟩]<|pw (.s 4)<|px [pV 1<|pU 0,pV 2<|pI 3]]<|px [pV 1<|.bp .quo (.s 0)<|pU 2,pV 2<|pI 0],[(1,.v),(2,.v)]⟩
def c58:ZX [.fz] Try.f58=J Lm:=Z2
def Nk:Fn:=⟨5,[0,2,3,4,20],pQ [pR [(1,.m [pI 0,pI 0]),pV 2<|pI 0],pR [(3,pM (.ag [.conv .i64<|.bp .rem (.bp .shr (.s 0)<|pU 1)<|pU 65536,.conv .i64<|.bp .shr (.s 0)<|pU 17]) 2)],pQ [.ao ⟨[.lt 5 []<|pn (.bp .rem (.s 0)<|pU 2)<|pU 0,.call 6 [(5,xw)] (.id 44) xw xw [.mm 3 0 2]],[([(5,xw)],.un .not<|.s 6)],[pV 4<|.ite (.s 5) pT<|.un .not<|.s 6]⟩]<|pw (.s 4)<|px [(1,pM (.ag [pI 0,pI 0]) 2),pV 2<|pI 3]]<|px [(1,pM (.mm 3 0 2) 2),pV 2<|pI 0],[(1,(.ag 2)),(2,.v)]⟩
def c64:ZX [.fz] Try.f64=J Nk:=Z2
def Nm:Fn:=⟨3,[0,1,2],pQ [pR [(1,pS 0 2),pV 2 pF],.ao ⟨[.lt 3 []<|pg (.m 1 0)<|pI 0,.lt 4 []<|.ite (.s 3) (pL (.m 1 0)<|pI 255) pF,.lt 5 []<|.ite (.s 4) (pg (.m 1 1)<|pI 0) pF],[([(3,xk)],pL (.m 1 0)<|pI 255),([(4,xk)],pg (.m 1 1)<|pI 0),([(5,xk)],pL (.m 1 1)<|.m 1 0)],[pV 2<|.ite (.s 5) (pL (.m 1 1)<|.m 1 0) pF]⟩] .ret,[(2,.v)]⟩
def c70:ZX [.fz] Try.f70=J Nm:=Z2
def Yq(n:Int):Prop:= -9223372036854775808<=n/\n<=9223372036854775807
def ZC(n:Int):Prop:=0<=n/\n<18446744073709551616
def ZS(n:Int)(a:0<=n)(h2:n<=18446744073709551615):IntKind.u64.wrap n=n:=by
 rw[IntKind.wrap_u64];omega
def Yl{α:Type}{l:List α}{i:Nat}{x:α}(h:l[i]?=J x):∀a:i<I l,l[i]'a=x:=λa=>by
 rw[ZgY a]at h;exact ZiK h
def YC(size ptrs:Int):Bool:=decide (0<=size)&&decide (size<=255)&&decide (0<=ptrs)&&decide (ptrs<=size)
theorem YD{s p:Int}:YC s p=xk↔0<=s/\s<=255/\0<=p/\p<=s:=by simp[YC,and_assoc]
abbrev WY(s p:Int):V:=.agg [vi s,vi p]
def Da{s p:Int}:VC xP 44 xw [WY s p]<|.bool<|YC s p:=by
 refine ZQ EX follows Z2 c44 rfl ?_;by_cases a:0<=s<;>by_cases d:s<=255<;>by_cases f:0<=p<;>by_cases g:p<=s<;>simp[N8,YC,a,d,f,g]
def Z8U{s p:Int}:VC xP 70 xw [WY s p]<|.bool<|YC s p:=by
 refine ZQ Z1J follows Z2 c70 rfl ?_;by_cases a:0<=s<;>by_cases d:s<=255<;>by_cases f:0<=p<;>by_cases g:p<=s<;>simp[Nm,YC,a,d,f,g]
def adr(w:Int):Int×Int:=if w=0 then(0,6)else if w%2=0\/w=1 then(0,3)else(w / 2,0)
def Kl{w:Int}(l:ZC w):VC xP 58 xw [vu w]<|.am [vu (adr w).1,vi (adr w).2]:=by
 refine ZQ F1 follows Z2 c58 rfl ?_;obtain⟨f,n⟩:=l;have d:w.tmod 2=w%2:=Zi5 f;have j:w.tdiv 2=w / 2:=Zkw f;have k:=ZS (w / 2) Z0 Z0;by_cases a:w=0;simp[Lm,adr,a];by_cases g:w%2=0;simp[Lm,adr,a,d,g];by_cases h:w=1;subst h;simp[Lm,adr];simp[Lm,adr,a,d,j,g,h,k]
def Xn(a:Int):Int×Int:=if a<1\/9223372036854775807<a then(0,1)else(2*a+1,0)
def Z8i{a:Int}(j:ZC a):VC xP 28 xw [vu a]<|.am [vu (Xn a).1,vi (Xn a).2]:=by
 refine ZQ EU follows Z2 c28 rfl ?_;obtain⟨k,l⟩:=j;by_cases d:a<1;simp[qC,Xn,d];by_cases f:9223372036854775807<a;simp[qC,Xn,d,f];have g:=ZS (2*a) Z0 Z0;have h:=ZS (2*a+1) Z0 Z0;simp[qC,Xn,d,f,g,h]
def Z8R{a:Int}(j:ZC a):VC xP 54 xw [vu a]<|.am [vu (Xn a).1,vi (Xn a).2]:=by
 refine ZQ Z1A follows Z2 c54 rfl ?_;obtain⟨k,l⟩:=j;by_cases d:a<1;simp[qF,Xn,d];by_cases f:9223372036854775807<a;simp[qF,Xn,d,f];have g:=ZS (2*a) Z0 Z0;have h:=ZS (2*a+1) Z0 Z0;simp[qF,Xn,d,f,g,h]
def Xt(s p:Int):Int×Int:=if YC s p then(2*(s+65536*p),0)else(0,1)
def Z8Q{s p:Int}:VC xP 50 xw [WY s p]<|.am [vu (Xt s p).1,vi (Xt s p).2]:=by
 refine ZQ Z1w follows Z2 c50 rfl ?_;simp[Nb];refine Zz Z8U Z1 ?_;cases h:YC s p;simp[Xt,h];obtain⟨k,l,n,o⟩:=YD.1 h;have a:=ZS s Z0 Z0;have d:=ZS p Z0 Z0;have f:=ZS (65536*p) Z0 Z0;have g:=ZS (s+65536*p) Z0 Z0;have j:=ZS (2*(s+65536*p)) Z0 Z0;simp[Xt,h,a,d,f,g,j]
def ZR(w:Int):Int×Int×Int:=if w%2=0/\YC (w / 2%65536) (w / 131072)=xk then(w / 2%65536,w / 131072,0)else(0,0,3)
def PT{w:Int}(l:ZC w):VC xP 64 xw [vu w]<|.am [WY (ZR w).1 (ZR w).2.1,vi (ZR w).2.2]:=by
 refine ZQ F4 follows Z2 c64 rfl ?_;obtain⟨k,r⟩:=l;have p:w.fdiv (2 ^ min 1 IntKind.u64.bits)=w / 2:=by
  rw[show(2:Int) ^ min 1 IntKind.u64.bits=2 by decide];exact Zkv _ Z0
 have q:w.fdiv (2 ^ min 17 IntKind.u64.bits)=w / 131072:=by
  rw[show(2:Int) ^ min 17 IntKind.u64.bits=131072 by decide];exact Zkv _ Z0
 have n:=ZS (w / 2) Z0 Z0;have o:=ZS (w / 131072) Z0 Z0;have f:w.tmod 2=w%2:=Zi5 k;have g:(w / 2).tmod 65536=w / 2%65536:=Zi5 Z0;have h:=Zy (w / 2%65536) Z0 Z0;have j:=Zy (w / 131072) Z0 Z0;simp[Nk,Xa,p,q,f,g,h,j,n,o];by_cases a:w%2=0;simp[a];refine Zz Da Z1 ?_;cases d:YC (w / 2%65536)<|w / 131072;simp[ZR,a,d];simp[ZR,a,d];simp[a,ZR]
def N0:Fn:=⟨10,[0,1,2,3,4,5,9,17,6,33],pQ [pR [(2,pS 0 7),(3,pS 1 2),pV 4<|pU 0,pV 5<|pI 0],pQ [pC [pK 10 47 [.mm 2 0 7]] [pV 6<|.un .not<|.s 10]]<|pw (.s 6)<|px [pV 4<|pU 0,pV 5<|pI 1],pQ [.ao ⟨[.lt 11 []<|pl (.m 3 0)<|pI 1],[([(11,xw)],pj (.m 3 0)<|pI 4)],[pV 7<|.ite (.s 11) pT<|pj (.m 3 0)<|pI 4]⟩]<|pw (.s 7)<|px [pV 4<|pU 0,pV 5<|pI 6],pC [pK 12 48 [.mm 2 0 7]] [(8,pM (.sz (.ai (.s 12) (pb (.m 3 0)<|pI 1) 4 2 xk) 2) 2)],pQ [.ao ⟨[.lt 13 []<|pl (.m 3 1)<|pI 0],[([(13,xw)],pg (.m 3 1)<|.m 8 1)],[pV 9<|.ite (.s 13) pT<|pg (.m 3 1)<|.m 8 1]⟩]<|pw (.s 9)<|px [pV 4<|pU 0,pV 5<|pI 6]]<|px [pV 4<|pa (.m 8 0)<|.conv .u64<|.m 3 1,pV 5<|pI 0],[(4,.v),(5,.v)]⟩
def c26:ZX [.fz,.fz] Try.f26=J N0:=Z2
def N9:Fn:=⟨4,[0,1,2,25],pQ [pR [(1,pS 0 7),pV 2 pF],pQ [.ao ⟨[.lt 4 []<|pl (.m 1 1)<|pI 0,.lt 5 []<|.ite (.s 4) pT<|pj (.m 1 1)<|pI 4096,.lt 6 []<|.ite (.s 5) pT<|pl (.m 1 0)<|pU 1],[([(4,xw)],pj (.m 1 1)<|pI 4096),([(5,xw)],pl (.m 1 0)<|pU 1),([(6,xw)],pj (.m 1 0)<|pb (pU 9223372036854775808)<|pm (pU 2)<|.conv .u64<|.m 1 1)],[pV 3<|.ite (.s 6) pT<|pj (.m 1 0)<|pb (pU 9223372036854775808)<|pm (pU 2)<|.conv .u64<|.m 1 1]⟩]<|pw (.s 3)<|px [pV 2 pF],.ao ⟨[.lt 7 []<|pe (.m 1 2)<|pI 0,.lt 8 []<|.ite (.s 7) pT<|pe (.m 1 2)<|pI 1,.call 9 [(8,xk)] (.id 68) xw xw [.m 1 3,.m 1 4,.m 1 1],.lt 10 []<|.ite (.s 8) (.s 9) pF,.call 11 [(10,xk)] (.id 68) xw xw [.m 1 5,.m 1 6,.m 1 1]],[([(7,xw)],pe (.m 1 2)<|pI 1)],[pV 2<|.ite (.s 10) (.s 11) pF]⟩] .ret,[(2,.v)]⟩
def c47:ZX [.fz] Try.f47=J N9:=Z2
def Na:Fn:=⟨3,[0,1,2],pQ [pR [(1,pS 0 7),(2,.m [pU 0,pI 0,pU 0,pI 0,pU 0,pI 0,pU 0,pI 0])],pC [pK 3 69 [.mm 1 0 7,pI 1],pK 4 69 [.mm 1 0 7,pI 2],pK 5 69 [.mm 1 0 7,pI 3],pK 6 69 [.mm 1 0 7,pI 4]] [(2,pM (.ag [.ae (.ag [.one<|.s 3,.m 1 3]) 0,.ae (.ag [.one<|.s 3,.m 1 3]) 1,.ae (.ag [.one<|.s 4,.m 1 4]) 0,.ae (.ag [.one<|.s 4,.m 1 4]) 1,.ae (.ag [.one<|.s 5,.m 1 5]) 0,.ae (.ag [.one<|.s 5,.m 1 5]) 1,.ae (.ag [.one<|.s 6,.m 1 6]) 0,.ae (.ag [.one<|.s 6,.m 1 6]) 1]) 8)]] .ret,[(2,(.ag 8))]⟩
def c48:ZX [.fz] Try.f48=J Na:=Z2
def Nc:Fn:=⟨11,[0,1,2,3,4,5,6,12,7,8,28],pQ [pR [(2,pS 0 7),(3,pS 1 2),pV 4<|pU 0,pV 5<|pI 0],pC [pK 11 71 [.mm 2 0 7]] [pV 6<|.s 11],pi 7 (.un .not<|.s 6)<|px [pV 4<|pU 0,pV 5<|pI 1],pC [pK 12 72 [.mm 2 0 7,.m 3 0]] [pV 8<|.ext (.s 12) 0,pV 9<|.ext (.s 12) 1],pQ [.ao ⟨[.lt 13 []<|pl (.m 3 1)<|pI 0],[([(13,xw)],pg (.m 3 1)<|.s 9)],[pV 10<|.ite (.s 13) pT<|pg (.m 3 1)<|.s 9]⟩]<|pw (.s 10)<|px [pV 4<|pU 0,pV 5<|pI 6]]<|px [pV 4<|pa (.s 8)<|.conv .u64<|.m 3 1,pV 5<|pI 0],[(4,.v),(5,.v)]⟩
def c52:ZX [.fz,.fz] Try.f52=J Nc:=Z2
def Nj:Fn:=⟨12,[0,1,2,4,5,10,14,15,7,6,13,31],pQ [pR [(2,pS 0 7),(3,.m [pI 0,pI 0]),pV 4<|pI 0],pQ [pC [pK 12 47 [.mm 2 0 7]] [pV 5<|.un .not<|.s 12]]<|pw (.s 5)<|px [(3,pM (.ag [pI 0,pI 0]) 2),pV 4<|pI 1],pQ [pC [pK 10 48 [.mm 2 0 7]] [pV 6<|pI 0]]<|po [0,1,2,3,4,5,6,10] 7 (pl (.s 6)<|pI 4) (pQ [pR [(8,pM (.sz (.ai (.s 10) (.s 6) 4 2 xk) 2) 2),pV 9<|.s 6],.ao ⟨[.lt 13 []<|pg (.s 1)<|.m 8 0],[([(13,xk)],pl (pb (.s 1)<|.m 8 0)<|.conv .u64<|.m 8 1)],[pV 11<|.ite (.s 13) (pl (pb (.s 1)<|.m 8 0)<|.conv .u64<|.m 8 1) pF]⟩]<|pw (.s 11)<|px [(3,pM (.ag [pa (.s 9)<|pI 1,.conv .i64<|pb (.s 1)<|.m 8 0]) 2),pV 4<|pI 0])<|pc 6]<|px [(3,pM (.ag [pI 0,pI 0]) 2),pV 4<|pI 6],[(3,(.ag 2)),(4,.v)]⟩
def c62:ZX [.fz,.fz] Try.f62=J Nj:=Z2
def Nl:Fn:=⟨4,[0,1,2,5],pQ [pR [(1,pS 0 7),pV 2<|pI 0],pQ [pC [pK 4 47 [.mm 1 0 7]] [pV 3<|.un .not<|.s 4]]<|pw (.s 3)<|px [pV 2<|pI 0]]<|px [pV 2<|pb (pb (.m 1 1)<|.m 1 3)<|.m 1 4],[(2,.v)]⟩
def c65:ZX [.fz] Try.f65=J Nl:=Z2
def qG:Fn:=⟨4,[0,1,2,6],pQ [pR [pV 3 pF],.ao ⟨[.lt 4 []<|pg (.s 0)<|pI 0,.lt 5 []<|.ite (.s 4) (pg (.s 1)<|pI 0) pF,.lt 6 []<|.ite (.s 5) (pL (.s 0)<|.s 2) pF],[([(4,xk)],pg (.s 1)<|pI 0),([(5,xk)],pL (.s 0)<|.s 2),([(6,xk)],pL (.s 1)<|pb (.s 2)<|.s 0)],[pV 3<|.ite (.s 6) (pL (.s 1)<|pb (.s 2)<|.s 0) pF]⟩] .ret,[(3,.v)]⟩
def c68:ZX [.fz,.fz,.fz] Try.f68=J qG:=Z2
def Ln:Fn:=⟨10,[0,1,2,4,5,9,8,11,13,15],pQ [pR [(2,pS 0 7),pV 3<|pU 0],pR [pV 4<|.m 2 0],pQ [pR [pV 6<|.s 1]]<|.block 0<|pQ [.block 4<|pQ [.block 3<|pQ [.block 2<|pQ [.block 1<|pQ [pQ [pi 5 (pe (.s 6)<|pI 2)<|.exit 1,pi 7 (pe (.s 6)<|pI 1)<|.exit 2,pi 8 (pe (.s 6)<|pI 4)<|.exit 3]<|pi 9 (pe (.s 6)<|pI 3)<|.exit 4]<|.exit 0]<|pR [pV 4<|pa (.s 4)<|.conv .u64<|pb (.m 2 1)<|.m 2 4],pR [pV 4<|pa (.s 4)<|.conv .u64<|pm (.m 2 2)<|.m 2 1]]<|.exit 0]<|pR [pV 4<|pa (.s 4)<|.conv .u64<|pb (.m 2 1)<|.m 2 6],pR [pV 4<|pa (.s 4)<|.conv .u64<|pm (pb (pI 1)<|.m 2 2)<|.m 2 1]]<|.exit 0]<|px [pV 3<|.s 4],[(3,.v)]⟩
def c69:ZX [.fz,.fz] Try.f69=J Ln:=Z2
def Nn:Fn:=⟨5,[0,1,2,35,53],pQ [pR [(1,pS 0 7),pV 2 pF],pQ [.ao ⟨[.lt 5 []<|pl (.m 1 0)<|pU 1,.lt 6 []<|.ite (.s 5) pT<|pl (.m 1 1)<|pI 0,.lt 7 []<|.ite (.s 6) pT<|pj (.m 1 1)<|pI 4096,.lt 8 []<|.ite (.s 7) pT<|pj (.m 1 0)<|pb (pU 9223372036854775808)<|pm (pU 2)<|.conv .u64<|.m 1 1,.lt 9 []<|.ite (.s 8) pT<|pl (.m 1 2)<|pI 0],[([(5,xw)],pl (.m 1 1)<|pI 0),([(6,xw)],pj (.m 1 1)<|pI 4096),([(7,xw)],pj (.m 1 0)<|pb (pU 9223372036854775808)<|pm (pU 2)<|.conv .u64<|.m 1 1),([(8,xw)],pl (.m 1 2)<|pI 0),([(9,xw)],pj (.m 1 2)<|pI 1)],[pV 3<|.ite (.s 9) pT<|pj (.m 1 2)<|pI 1]⟩]<|pw (.s 3)<|px [pV 2 pF],pQ [.ao ⟨[.lt 10 []<|pl (.m 1 3)<|pI 0,.lt 11 []<|.ite (.s 10) pT<|pl (.m 1 4)<|pI 0,.lt 12 []<|.ite (.s 11) pT<|pl (.m 1 5)<|pI 0],[([(10,xw)],pl (.m 1 4)<|pI 0),([(11,xw)],pl (.m 1 5)<|pI 0),([(12,xw)],pl (.m 1 6)<|pI 0)],[pV 4<|.ite (.s 12) pT<|pl (.m 1 6)<|pI 0]⟩]<|pw (.s 4)<|px [pV 2 pF],.ao ⟨[.lt 13 []<|pL (.m 1 3)<|.m 1 1,.lt 14 []<|.ite (.s 13) (pL (.m 1 4)<|pb (.m 1 1)<|.m 1 3) pF,.lt 15 []<|.ite (.s 14) (pL (.m 1 5)<|.m 1 1) pF],[([(13,xk)],pL (.m 1 4)<|pb (.m 1 1)<|.m 1 3),([(14,xk)],pL (.m 1 5)<|.m 1 1),([(15,xk)],pL (.m 1 6)<|pb (.m 1 1)<|.m 1 5)],[pV 2<|.ite (.s 15) (pL (.m 1 6)<|pb (.m 1 1)<|.m 1 5) pF]⟩] .ret,[(2,.v)]⟩
def c71:ZX [.fz] Try.f71=J Nn:=Z2
def Cn:Fn:=⟨12,[0,1,2,4,5,6,7,28,27,33,45,50],pQ [pR [(2,pS 0 7),pV 3<|pU 0,pV 4<|pI 0],pR [pV 5<|pa (.m 2 0)<|.conv .u64<|pm (.m 2 2)<|.m 2 1],pR [pV 6<|pa (.m 2 0)<|.conv .u64<|pm (pb (pI 1)<|.m 2 2)<|.m 2 1],pQ [pR [pV 8<|.s 1]]<|.block 0<|pu 7 (pe (.s 8)<|pI 1) (px [pV 3<|.s 5,pV 4<|.m 2 3])<|pu 9 (pe (.s 8)<|pI 2) (px [pV 3<|pa (.s 5)<|.conv .u64<|pb (.m 2 1)<|.m 2 4,pV 4<|.m 2 4])<|pu 10 (pe (.s 8)<|pI 3) (px [pV 3<|.s 6,pV 4<|.m 2 5])<|pi 11 (pe (.s 8)<|pI 4)<|px [pV 3<|pa (.s 6)<|.conv .u64<|pb (.m 2 1)<|.m 2 6,pV 4<|.m 2 6]]<|px [pV 3<|pU 0,pV 4<|pI 0],[(3,.v),(4,.v)]⟩
def FU:ZX [.fz,.fz] Try.f72=J Cn:=Z2
structure Ly where
 base:Int
 cap:Int
 to:Int
 H:Int
 ab:Int
 ah:Int
 ak:Int
 deriving DecidableEq,Inhabited
def X3(l:Ly):V:=.agg [vu l.base,vi l.cap,vi l.to,vi l.H,vi l.ab,vi l.ah,vi l.ak]
@[simp]theorem Zfr l:VI (X3 l) 7=J (X3 l):=rfl
@[simp]theorem Zej l:(X3 l).cells=[vu l.base,vi l.cap,vi l.to,vi l.H,vi l.ab,vi l.ah,vi l.ak]:=rfl
@[simp]theorem Zdo l:ZZ (X3 l) 0=J (vu l.base):=rfl
@[simp]theorem Zdp l:ZZ (X3 l) 1=J (vi l.cap):=rfl
@[simp]theorem Zdq l:ZZ (X3 l) 2=J (vi l.to):=rfl
@[simp]theorem Zdr l:ZZ (X3 l) 3=J (vi l.H):=rfl
@[simp]theorem Zds l:ZZ (X3 l) 4=J (vi l.ab):=rfl
@[simp]theorem Zdt l:ZZ (X3 l) 5=J (vi l.ah):=rfl
@[simp]theorem Zdu l:ZZ (X3 l) 6=J (vi l.ak):=rfl
def Ly.aw(l:Ly):Prop:=ZC l.base/\Yq l.cap/\Yq l.to/\Yq l.H/\Yq l.ab/\Yq l.ah/\Yq l.ak
def S6(a b words:Int):Bool:=decide (0<=a)&&decide (0<=b)&&decide (a<=words)&&decide (b<=words-a)
def ZI(l:Ly):Bool:=decide (0<=l.cap)&&decide (l.cap<=4096)&&decide (1<=l.base)&&decide (l.base<=9223372036854775808-2*l.cap)&&(decide (l.to=0)||decide (l.to=1))&&S6 l.H l.ab l.cap&&S6 l.ah l.ak l.cap
theorem XN{l}:ZI l=xk↔0<=l.cap/\l.cap<=4096/\1<=l.base/\l.base<=9223372036854775808-2*l.cap/\(l.to=0\/l.to=1)/\(0<=l.H/\0<=l.ab/\l.H<=l.cap/\l.ab<=l.cap-l.H)/\(0<=l.ah/\0<=l.ak/\l.ah<=l.cap/\l.ak<=l.cap-l.ah):=by
 simp[ZI,S6,and_assoc]
theorem Vp{l}:ZI l=xw↔ ¬(0<=l.cap/\l.cap<=4096/\1<=l.base/\l.base<=9223372036854775808-2*l.cap/\(l.to=0\/l.to=1)/\(0<=l.H/\0<=l.ab/\l.H<=l.cap/\l.ab<=l.cap-l.H)/\(0<=l.ah/\0<=l.ak/\l.ah<=l.cap/\l.ak<=l.cap-l.ah)):=by
 grind [XN]
def Z08{a b w:Int}(h:Yq a)(n:Yq b)(j:Yq w):VC xP 68 xw [vi a,vi b,vi w]<|.bool<|S6 a b w:=by
 refine ZQ Z1G follows Z2 c68 rfl ?_;obtain⟨k,l⟩:=h;obtain⟨w1,w2⟩:=j;by_cases d:0<=a;by_cases g:a<=w;have e:=Zy (w-a) Z0 Z0;by_cases f:0<=b<;>simp[qG,S6,d,g,f,e];by_cases f:0<=b<;>simp[qG,S6,d,g,f];simp[qG,S6,d]
def LJ{l:Ly}(y:l.aw):VC xP 47 xw [X3 l]<|.bool<|ZI l:=by
 refine ZQ F0 follows Z2 c47 rfl ?_;obtain⟨⟨u,w⟩,x,B,p,q,r,t⟩:=y;obtain⟨d,c2⟩:=x;simp[N9];by_cases g1:l.cap<0;grind [ZI,Vp];by_cases g2:4096<l.cap;grind [ZI,Vp];by_cases k:l.base<1;grind [ZI,Vp];have f:=ZS l.cap Z0 Z0;have g:=ZS (2*l.cap) Z0 Z0;have j:=ZS (9223372036854775808-2*l.cap) Z0 Z0;by_cases n:9223372036854775808-2*l.cap<l.base;grind [ZI,Vp];by_cases a:l.to=0\/l.to=1
 .have k1:=Z08 p q ⟨d,c2⟩;have A:=Z08 r t ⟨d,c2⟩;have z:ZI l=(S6 l.H l.ab l.cap&&S6 l.ah l.ak l.cap):=by
   obtain h|h:=a<;>simp[ZI,show 0<=l.cap by omega,show l.cap<=4096 by omega,show 1<=l.base by omega,show l.base<=9223372036854775808-2*l.cap by omega,h]
  rw[z];obtain a|a:=a;all_goals
   cases o:S6 l.H l.ab l.cap;rw[o]at k1;simp[g1,g2,k,f,g,j,n,a];refine Zz k1 Z1 ?_;simp;rw[o]at k1;simp[g1,g2,k,f,g,j,n,a];refine Zz k1 Z1 ?_;simp;refine Zz A Z1 ?_;simp
 simp_all[ZI,Vp]
def Z8V{l:Ly}(j:l.aw):VC xP 71 xw [X3 l]<|.bool<|ZI l:=by
 refine ZQ Z1K follows Z2 c71 rfl ?_;obtain⟨⟨f,g⟩,h,y,a,w,d,x⟩:=j;obtain⟨k,c2⟩:=h;simp[Nn];by_cases q:l.base<1;grind [ZI,Vp];by_cases g1:l.cap<0;grind [ZI,Vp];by_cases g2:4096<l.cap;grind [ZI,Vp];have n:=ZS l.cap Z0 Z0;have o:=ZS (2*l.cap) Z0 Z0;have p:=ZS (9223372036854775808-2*l.cap) Z0 Z0;by_cases r:9223372036854775808-2*l.cap<l.base;grind [ZI,Vp];by_cases t:l.to<0;grind [ZI,Vp];by_cases u:1<l.to;grind [ZI,Vp];by_cases D:l.H<0;grind [ZI,Vp];by_cases F:l.ab<0;grind [ZI,Vp];by_cases G:l.ah<0;grind [ZI,Vp];by_cases H:l.ak<0;grind [ZI,Vp];obtain⟨z,A⟩:=a;obtain⟨B,C⟩:=d;have w1:=Zy (l.cap-l.H) Z0 Z0;have w2:=Zy (l.cap-l.ah) Z0 Z0;grind [ZI,XN,Vp]
def Xu(l:Ly):Int:=if ZI l then l.cap-l.H-l.ab else 0
def Z9b{l:Ly}(a:l.aw):VC xP 65 xw [X3 l]<|vi<|Xu l:=by
 refine ZQ F5 follows Z2 c65 rfl ?_;simp[Nl];refine Zz (LJ a) Z1 ?_;cases h:ZI l;simp[Xu,h];have g:=XN.1 h;have d:=Zy (l.cap-l.H) Z0 Z0;have f:=Zy (l.cap-l.H-l.ab) Z0 Z0;simp_all[Xu]
def fstL(l:Ly)(part:Int):Int:=
 if part=1 then l.base+l.to*l.cap else if part=2 then l.base+l.to*l.cap+(l.cap-l.ab)else if part=3 then l.base+(1-l.to)*l.cap else l.base+(1-l.to)*l.cap+(l.cap-l.ak)
def YR(l:Ly)(part:Int):Int:=if part=1 then l.H else if part=2 then l.ab else if part=3 then l.ah else l.ak
def jE{l}(a:ZI l=xk):(l.to*l.cap=0/\(1-l.to)*l.cap=l.cap)\/(l.to*l.cap=l.cap/\(1-l.to)*l.cap=0):=by
 grind [XN]
def V5{l}(a:ZI l=xk)k:1<=fstL l k/\fstL l k+YR l k<=9223372036854775808/\0<=YR l k/\YR l k<=4096:=by
 have h:=XN.1 a;have d:=jE a;unfold fstL YR;omega
def yg{l:Ly}(d:ZI l=xk){k:Int}(t:1<=k/\k<=4):VC xP 69 xw [X3 l,vi k]<|vu<|fstL l k:=by
 refine ZQ Z1H follows Z2 c69 rfl ?_;have h:=XN.1 d;have u:=jE d;have w1:=Zy (l.to*l.cap) Z0 Z0;have w2:=Zy (1-l.to) Z0 Z0;have w3:=Zy ((1-l.to)*l.cap) Z0 Z0;have w4:=Zy (l.cap-l.ab) Z0 Z0;have r:=Zy (l.cap-l.ak) Z0 Z0;have f:=ZS (l.to*l.cap) Z0 Z0;have g:=ZS ((1-l.to)*l.cap) Z0 Z0;have j:=ZS (l.cap-l.ab) Z0 Z0;have n:=ZS (l.cap-l.ak) Z0 Z0;have v1:=ZS (l.base+l.to*l.cap) Z0 Z0;have o:=ZS (l.base+(l.cap-l.ab)) Z0 Z0;have p:=ZS (l.base+(l.cap-l.ab)+l.to*l.cap) Z0 Z0;have v4:=ZS (l.base+(1-l.to)*l.cap) Z0 Z0;have q:=ZS (l.base+(l.cap-l.ak)) Z0 Z0;have v6:=ZS (l.base+(l.cap-l.ak)+(1-l.to)*l.cap) Z0 Z0;have a:k=1\/k=2\/k=3\/k=4:=Z0;obtain rfl|rfl|rfl|rfl:=a;simp[Ln,Kb,fstL,w1,f,v1];simp[Ln,Kb,fstL,w1,f,w4,j,o,p];omega;simp[Ln,Kb,fstL,w2,w3,g,v4];simp[Ln,Kb,fstL,w2,w3,g,r,n,q,v6];omega
def V0(l:Ly):V:=.agg [vu<|fstL l 1,vi l.H,vu<|fstL l 2,vi l.ab,vu<|fstL l 3,vi l.ah,vu<|fstL l 4,vi l.ak]
def Pt{l:Ly}(a:ZI l=xk):VC xP 48 xw [X3 l]<|V0 l:=by
 refine ZQ Z1u follows Z2 c48 rfl ?_;simp[Na];refine Zz (yg a (k:=1) Z0) (by simp[X3]) ?_;simp;refine Zz (yg a (k:=2) Z0) (by simp[X3]) ?_;simp;refine Zz (yg a (k:=3) Z0) (by simp[X3]) ?_;simp;refine Zz (yg a (k:=4) Z0) (by simp[X3]) ?_;simp[V0]
@[simp]theorem LR l:YR l 1=l.H:=rfl
@[simp]theorem LT l:YR l 2=l.ab:=rfl
@[simp]theorem LU l:YR l 3=l.ah:=rfl
@[simp]theorem LV l:YR l 4=l.ak:=rfl
def Y1(l:Ly)(part at_:Int):Int×Int:=
 if ZI l=xw then(0,1)else if part<1\/4<part then(0,6)else if at_<0\/YR l part<=at_ then(0,6)else(fstL l part+at_,0)
def Fi{l:Ly}(p:l.aw){part at_:Int}:VC xP 26 xw [X3 l,.agg [vi part,vi at_]]<|.am [vu (Y1 l part at_).1,vi (Y1 l part at_).2]:=by
 refine ZQ ES follows Z2 c26 rfl ?_;simp[N0];refine Zz (LJ p) Z1 ?_;cases d:ZI l;simp[Y1,d];simp;by_cases k:part<1;grind [Y1];by_cases n:4<part;simp_all[Y1];have o:part=1\/part=2\/part=3\/part=4:=Z0;simp[k,n];refine Zz (Pt d) Z1 ?_;obtain rfl|rfl|rfl|rfl:=o;have a:=V5 d 1;simp only[LR]at a;simp[V0,Y8,Zy];by_cases f:at_<0;grind [Y1];by_cases g:l.H<=at_;simp_all[Y1];have h:=ZS at_ Z0 Z0;have j:=ZS (fstL l 1+at_) Z0 Z0;simp_all[Y1];have a:=V5 d 2;simp only[LT]at a;simp[V0,Y8,Zy];by_cases f:at_<0;grind [Y1];by_cases g:l.ab<=at_;simp_all[Y1];have h:=ZS at_ Z0 Z0;have j:=ZS (fstL l 2+at_) Z0 Z0;simp_all[Y1];have a:=V5 d 3;simp only[LU]at a;simp[V0,Y8,Zy];by_cases f:at_<0;grind [Y1];by_cases g:l.ah<=at_;simp_all[Y1];have h:=ZS at_ Z0 Z0;have j:=ZS (fstL l 3+at_) Z0 Z0;simp_all[Y1];have a:=V5 d 4;simp only[LV]at a;simp[V0,Y8,Zy];by_cases f:at_<0;grind [Y1];by_cases g:l.ak<=at_;simp_all[Y1];have h:=ZS at_ Z0 Z0;have j:=ZS (fstL l 4+at_) Z0 Z0;simp_all[Y1]
def qZ{l:Ly}(d:ZI l=xk){k:Int}(r:1<=k/\k<=4):VC xP 72 xw [X3 l,vi k]<|.am [vu<|fstL l k,vi<|YR l k]:=by
 refine ZQ F8 follows Z2 FU rfl ?_;have h:=XN.1 d;have t:=jE d;have w1:=Zy (l.to*l.cap) Z0 Z0;have w2:=Zy (1-l.to) Z0 Z0;have w3:=Zy ((1-l.to)*l.cap) Z0 Z0;have w4:=Zy (l.cap-l.ab) Z0 Z0;have q:=Zy (l.cap-l.ak) Z0 Z0;have f:=ZS (l.to*l.cap) Z0 Z0;have g:=ZS ((1-l.to)*l.cap) Z0 Z0;have j:=ZS (l.cap-l.ab) Z0 Z0;have n:=ZS (l.cap-l.ak) Z0 Z0;have v1:=ZS (l.base+l.to*l.cap) Z0 Z0;have o:=ZS (l.base+l.to*l.cap+(l.cap-l.ab)) Z0 Z0;have v4:=ZS (l.base+(1-l.to)*l.cap) Z0 Z0;have p:=ZS (l.base+(1-l.to)*l.cap+(l.cap-l.ak)) Z0 Z0;have a:k=1\/k=2\/k=3\/k=4:=Z0;obtain rfl|rfl|rfl|rfl:=a;all_goals simp[Cn,Kb,fstL,w1,f,w2,w3,g,w4,j,q,n,v1,o,v4,p]
def Z8O{l:Ly}(d:ZI l=xk){k:Int}(a:k<1\/4<k):VC xP 72 xw [X3 l,vi k]<|.am [vu 0,vi 0]:=by
 refine ZQ F8 follows Z2 FU rfl ?_;simp[Cn,Kb,show k≠1 by omega,show k≠2 by omega,show k≠3 by omega,show k≠4 by omega]
def Z8N{l:Ly}(p:l.aw){part at_:Int}:VC xP 52 xw [X3 l,.agg [vi part,vi at_]]<|.am [vu (Y1 l part at_).1,vi (Y1 l part at_).2]:=by
 refine ZQ Z1y follows Z2 c52 rfl ?_;simp[Nc];refine Zz (Z8V p) Z1 ?_;cases a:ZI l;simp[Y1,a];simp;by_cases n:part<1\/4<part;refine Zz (Z8O a n) Z1 ?_;by_cases d:at_<0;simp[Y1,a,n,d];simp[Y1,a,n,d,show 0<=at_ by omega];have o:part=1\/part=2\/part=3\/part=4:=Z0;obtain rfl|rfl|rfl|rfl:=o;have g:=V5 a 1;simp only[LR]at g;refine Zz (qZ a (k:=1) Z0) Z1 ?_;by_cases d:at_<0;simp[Y1,a,d];by_cases f:l.H<=at_;simp[Y1,a,d,f];have h:=ZS at_ Z0 Z0;have j:=ZS (fstL l 1+at_) Z0 Z0;simp[Y1,a,d,f,h,j];have g:=V5 a 2;simp only[LT]at g;refine Zz (qZ a (k:=2) Z0) Z1 ?_;by_cases d:at_<0;simp[Y1,a,d];by_cases f:l.ab<=at_;simp[Y1,a,d,f];have h:=ZS at_ Z0 Z0;have j:=ZS (fstL l 2+at_) Z0 Z0;simp[Y1,a,d,f,h,j];have g:=V5 a 3;simp only[LU]at g;refine Zz (qZ a (k:=3) Z0) Z1 ?_;by_cases d:at_<0;simp[Y1,a,d];by_cases f:l.ah<=at_;simp[Y1,a,d,f];have h:=ZS at_ Z0 Z0;have j:=ZS (fstL l 3+at_) Z0 Z0;simp[Y1,a,d,f,h,j];have g:=V5 a 4;simp only[LV]at g;refine Zz (qZ a (k:=4) Z0) Z1 ?_;by_cases d:at_<0;simp[Y1,a,d];by_cases f:l.ak<=at_;simp[Y1,a,d,f];have h:=ZS at_ Z0 Z0;have j:=ZS (fstL l 4+at_) Z0 Z0;simp[Y1,a,d,f,h,j]
def X2(l:Ly)(a k:Int):Bool:=decide (fstL l k<=a)&&decide (a<fstL l k+YR l k)
theorem Sm{l a k}:X2 l a k=xk↔fstL l k<=a/\a<fstL l k+YR l k:=by simp[X2]
def yL{l a k}:X2 l a k=xw↔ ¬(fstL l k<=a/\a<fstL l k+YR l k):=by grind [Sm]
def Yf(l:Ly)(a:Int):Int×Int×Int:=
 if ZI l=xw then(0,0,1)else if X2 l a 1 then(1,a-fstL l 1,0)else if X2 l a 2 then(2,a-fstL l 2,0)else if X2 l a 3 then(3,a-fstL l 3,0)else if X2 l a 4 then(4,a-fstL l 4,0)else(0,0,6)
def Z3C{l:Ly}(x:l.aw){a:Int}(w:ZC a):VC xP 62 xw [X3 l,vu a]<|.am [.agg [vi (Yf l a).1,vi (Yf l a).2.1],vi (Yf l a).2.2]:=by
 refine ZQ F3 follows Z2 c62 rfl ?_;simp[Nj];refine Zz (LJ x) Z1 ?_;cases o:ZI l;simp[Yf,o];obtain⟨z,A⟩:=w;simp;refine Zz (Pt o) (by simp[X3]) ?_;simp;have r:∀k,1<=fstL l k/\fstL l k+YR l k<=9223372036854775808/\0<=YR l k/\YR l k<=4096:=λk=>V5 o k;have w1:=r 1;have w2:=r 2;have w3:=r 3;have w4:=r 4;simp only[LR,LT,LU,LV]at w1 w2 w3 w4;refine jK 6 4 (λi=>(0<i->X2 l a 1=xw)/\(1<i->X2 l a 2=xw)/\(2<i->X2 l a 3=xw)/\(3<i->X2 l a 4=xw)) Z1 Z1 Z1 ?_;rintro i B ⟨n,p,t,y⟩;have u:i=0\/i=1\/i=2\/i=3\/i=4:=Z0;obtain rfl|rfl|rfl|rfl|rfl:=u;have h:=ZS l.H Z0 Z0;by_cases f:fstL l 1<=a;have j:=ZS (a-fstL l 1) Z0 Z0;by_cases g:a-fstL l 1<l.H;have q:=Zy (a-fstL l 1) Z0 Z0;have d:X2 l a 1=xk:=Sm.2 ⟨f,by rw[LR];omega⟩;simp[V0,Y8,Zy,f,h,j,g,q,Yf,o,d];have d:X2 l a 1=xw:=yL.2 (by rw[LR];omega);simp[V0,Y8,Zy,f,h,j,g,d];have d:X2 l a 1=xw:=by simp[X2,f]
 simp[V0,Y8,Zy,f,d];have h:=ZS l.ab Z0 Z0;by_cases f:fstL l 2<=a;have j:=ZS (a-fstL l 2) Z0 Z0;by_cases g:a-fstL l 2<l.ab;have q:=Zy (a-fstL l 2) Z0 Z0;have d:X2 l a 2=xk:=Sm.2 ⟨f,by rw[LT];omega⟩;simp[V0,Y8,Zy,f,h,j,g,q,Yf,o,d,n Z0];have d:X2 l a 2=xw:=yL.2 (by rw[LT];omega);simp[V0,Y8,Zy,f,h,j,g,d,n Z0];have d:X2 l a 2=xw:=by simp[X2,f]
 simp[V0,Y8,Zy,f,d,n Z0];have h:=ZS l.ah Z0 Z0;by_cases f:fstL l 3<=a;have j:=ZS (a-fstL l 3) Z0 Z0;by_cases g:a-fstL l 3<l.ah;have q:=Zy (a-fstL l 3) Z0 Z0;have d:X2 l a 3=xk:=Sm.2 ⟨f,by rw[LU];omega⟩;simp[V0,Y8,Zy,f,h,j,g,q,Yf,o,d,n Z0,p Z0];have d:X2 l a 3=xw:=yL.2 (by rw[LU];omega);simp[V0,Y8,Zy,f,h,j,g,d,n Z0,p Z0];have d:X2 l a 3=xw:=by simp[X2,f]
 simp[V0,Y8,Zy,f,d,n Z0,p Z0];have h:=ZS l.ak Z0 Z0;by_cases f:fstL l 4<=a;have j:=ZS (a-fstL l 4) Z0 Z0;by_cases g:a-fstL l 4<l.ak;have q:=Zy (a-fstL l 4) Z0 Z0;have d:X2 l a 4=xk:=Sm.2 ⟨f,by rw[LV];omega⟩;simp[V0,Y8,Zy,f,h,j,g,q,Yf,o,d,n Z0,p Z0,t Z0];have d:X2 l a 4=xw:=yL.2 (by rw[LV];omega);simp[V0,Y8,Zy,f,h,j,g,d,n Z0,p Z0,t Z0];have d:X2 l a 4=xw:=by simp[X2,f]
 simp[V0,Y8,Zy,f,d,n Z0,p Z0,t Z0];simp[Yf,o,n Z0,p Z0,t Z0,y Z0]
def N1:Fn:=⟨3,[0,1,2],pQ [pR [(1,pS 0 10),(2,.m [pU 0,pI 0,pI 0,pI 0,pI 0,pI 0,pI 0])]]<|px [(2,pM (.ag [.m 1 0,.m 1 1,.m 1 2,.len<|.m 1 5,.len<|.m 1 6,.len<|.m 1 7,.len<|.m 1 8]) 7)],[(2,(.ag 7))]⟩
def c27:ZX [.fz] Try.f27=J N1:=Z2
def Ci:Fn:=⟨4,[0,1,4,6],pQ [pR [pV 2<|pI 0],pi 3 (pl (.s 0)<|pI 0)<|pR [pV 0<|.un .neg<|pa (.s 0)<|pI 1]]<|px [pV 2<|.bp .rem (.s 0)<|.s 1],[(2,.v)]⟩
def c31:ZX [.fz,.fz] Try.f31=J Ci:=Z2
def qD:Fn:=⟨8,[0,1,2,4,6,5,10,14],pQ [pR [(2,pS 0 10),pV 3 pN],pQ [pR [pV 5<|.s 1]]<|.block 0<|pu 4 (pe (.s 5)<|pI 1) (px [pV 3<|.m 2 5])<|pu 6 (pe (.s 5)<|pI 2) (px [pV 3<|.m 2 6])<|pi 7 (pe (.s 5)<|pI 3)<|px [pV 3<|.m 2 7]]<|px [pV 3<|.m 2 8],[(3,.v)]⟩
def c33:ZX [.fz,.fz] Try.f33=J qD:=Z2
def qE:Fn:=⟨9,[0,1,2,3,6,10,7,14,18],pQ [pR [(3,pS 0 10),(4,pZ)],pQ [pR [pV 6<|.s 1]]<|.block 0<|pu 5 (pe (.s 6)<|pI 1) (pR [(3,.m [.m 3 0,.m 3 1,.m 3 2,.m 3 3,.m 3 4,.one<|.s 2,.m 3 6,.m 3 7,.m 3 8,.m 3 9])])<|pu 7 (pe (.s 6)<|pI 2) (pR [(3,.m [.m 3 0,.m 3 1,.m 3 2,.m 3 3,.m 3 4,.m 3 5,.one<|.s 2,.m 3 7,.m 3 8,.m 3 9])])<|pu 8 (pe (.s 6)<|pI 3) (pR [(3,.m [.m 3 0,.m 3 1,.m 3 2,.m 3 3,.m 3 4,.m 3 5,.m 3 6,.one<|.s 2,.m 3 8,.m 3 9])])<|pR [(3,.m [.m 3 0,.m 3 1,.m 3 2,.m 3 3,.m 3 4,.m 3 5,.m 3 6,.m 3 7,.one<|.s 2,.m 3 9])]]<|px [(4,pM (.mm 3 0 10) 10)],[(4,(.ag 10))]⟩
def c35:ZX [.fz,.fz,.fz] Try.f35=J qE:=Z2
def Cm:Fn:=⟨4,[0,1,4,6],pQ [pR [pV 2<|pI 0],pi 3 (pl (.s 0)<|pI 0)<|pR [pV 0<|.un .neg<|pa (.s 0)<|pI 1]]<|px [pV 2<|.bp .rem (.s 0)<|.s 1],[(2,.v)]⟩
def c49:ZX [.fz,.fz] Try.f49=J Cm:=Z2
def Nf:Fn:=⟨3,[0,1,2],pQ [pR [(1,pS 0 10),(2,.m [pU 0,pI 0,pI 0,pI 0,pI 0,pI 0,pI 0])]]<|px [(2,pM (.ag [.m 1 0,.m 1 1,.m 1 2,.len<|.m 1 5,.len<|.m 1 6,.len<|.m 1 7,.len<|.m 1 8]) 7)],[(2,(.ag 7))]⟩
def c53:ZX [.fz] Try.f53=J Nf:=Z2
structure Hp where
 base:Int
 cap:Int
 to:Int
 Y:Bool
 Z:Int
 H:List Int
 ab:List Int
 ah:List Int
 ak:List Int
 E:List Int
 deriving DecidableEq,Inhabited
def ZD(h:Hp):V:=.agg [vu h.base,vi h.cap,vi h.to,.bool h.Y,vi h.Z,.sl<|h.H.map vu,.sl<|h.ab.map vu,.sl<|h.ah.map vu,.sl<|h.ak.map vu,.sl<|h.E.map vu]
@[simp]theorem Zfq(h:Hp):VI (ZD h) 10=J (ZD h):=rfl
@[simp]theorem Ze2(h:Hp):(ZD h).cells=[vu h.base,vi h.cap,vi h.to,.bool h.Y,vi h.Z,.sl<|h.H.map vu,.sl<|h.ab.map vu,.sl<|h.ah.map vu,.sl<|h.ak.map vu,.sl<|h.E.map vu]:=rfl
@[simp]theorem Zdd(h:Hp):ZZ (ZD h) 0=J (vu h.base):=rfl
@[simp]theorem Zde(h:Hp):ZZ (ZD h) 1=J (vi h.cap):=rfl
@[simp]theorem Zdf(h:Hp):ZZ (ZD h) 2=J (vi h.to):=rfl
@[simp]theorem Zdg(h:Hp):ZZ (ZD h) 3=J (.bool h.Y):=rfl
@[simp]theorem Zdh(h:Hp):ZZ (ZD h) 4=J (vi h.Z):=rfl
@[simp]theorem Zdi(h:Hp):ZZ (ZD h) 5=J (.sl<|h.H.map vu):=rfl
@[simp]theorem Zdj(h:Hp):ZZ (ZD h) 6=J (.sl<|h.ab.map vu):=rfl
@[simp]theorem Zdk(h:Hp):ZZ (ZD h) 7=J (.sl<|h.ah.map vu):=rfl
@[simp]theorem Zdl(h:Hp):ZZ (ZD h) 8=J (.sl<|h.ak.map vu):=rfl
@[simp]theorem Zdm(h:Hp):ZZ (ZD h) 9=J (.sl<|h.E.map vu):=rfl
def Zv(h:Hp):Ly:=⟨h.base,h.cap,h.to,I h.H,I h.ab,I h.ah,I h.ak⟩
structure Hp.ok (h:Hp):Prop where
 base:ZC h.base
 cap:Yq h.cap
 to:Yq h.to
 Z:Yq h.Z
 H:I h.H<=1000000
 ab:I h.ab<=1000000
 ah:I h.ah<=1000000
 ak:I h.ak<=1000000
 E:I h.E<=1000000
 gg:∀w∈h.H,ZC w
 gj:∀w∈h.ab,ZC w
 kr:∀w∈h.ah,ZC w
 kg:∀w∈h.ak,ZC w
 dm:∀w∈h.E,ZC w
def yh{α:Type}{l:List α}(h:I l<=1000000):Yq (I l:Int):=⟨Z0,Z0⟩
def Hp.ok.bb{h:Hp}(a:h.ok):(Zv h).aw:=⟨a.base,a.cap,a.to,yh a.H,yh a.ab,yh a.ah,yh a.ak⟩
def Et{h:Hp}:VC xP 27 xw [ZD h]<|X3<|Zv h:=by
 refine ZQ ET follows Z2 c27 rfl ?_;simp[N1,X3,Zv]
def Z8P{h:Hp}:VC xP 53 xw [ZD h]<|X3<|Zv h:=by
 refine ZQ Z1z follows Z2 c53 rfl ?_;simp[Nf,X3,Zv]
def Zx(h:Hp)(n:Int):List Int:=if n=1 then h.H else if n=2 then h.ab else if n=3 then h.ah else h.ak
@[simp]theorem Vl(h:Hp):Zx h 1=h.H:=rfl
@[simp]theorem qI(h:Hp):Zx h 2=h.ab:=rfl
@[simp]theorem NH(h:Hp):Zx h 3=h.ah:=rfl
@[simp]theorem qJ(h:Hp):Zx h 4=h.ak:=rfl
def EA{h:Hp}{n:Int}:VC xP 33 xw [ZD h,vi n]<|.sl<|(Zx h n).map vu:=by
 refine ZQ Z1o follows Z2 c33 rfl ?_;by_cases a:n=1;simp[qD,Zx,a];by_cases d:n=2;simp[qD,Zx,d];by_cases f:n=3<;>simp[qD,Zx,a,d,f]
def Xk(h:Hp)(n:Int)(l:Z8):Hp:=if n=1 then {h with H:=l}else if n=2 then {h with ab:=l}else if n=3 then {h with ah:=l}else {h with ak:=l}
@[simp]theorem ZfB(h:Hp)(l:Z8):Xk h 1 l= {h with H:=l}:=rfl
@[simp]theorem ZfC(h:Hp)(l:Z8):Xk h 2 l= {h with ab:=l}:=rfl
@[simp]theorem ZfD(h:Hp)(l:Z8):Xk h 3 l= {h with ah:=l}:=rfl
@[simp]theorem ZfE(h:Hp)(l:Z8):Xk h 4 l= {h with ak:=l}:=rfl
def Fh{h:Hp}{n:Int}{l:Z8}:VC xP 35 xw [ZD h,vi n,.sl<|l.map vu]<|ZD<|Xk h n l:=by
 refine ZQ Z1q follows Z2 c35 rfl ?_;by_cases a:n=1;simp[qE,Xk,a,ZD];by_cases d:n=2;simp[qE,Xk,d,ZD];by_cases f:n=3<;>simp[qE,Xk,a,d,f,ZD]
def pick(c n:Int):Int:=(if c<0 then-(c+1)else c) %n
def Th{c n:Int}(a:0<n):0<=pick c n/\pick c n<n:=⟨ZkZ _ Z0,Zkz _ a⟩
def Lr{c n:Int}(hc:Yq c)(f:0<n):VC xP 31 xw [vi c,vi n]<|vi<|pick c n:=by
 refine ZQ Z1m follows Z2 c31 rfl ?_;obtain⟨a,d⟩:=hc;by_cases h:c<0;simp[Ci,h];simp(disch:=omega) only[Zy];refine⟨Z0,?_⟩;unfold pick;grind;simp[Ci,h];refine⟨Z0,?_⟩;simp_all[pick,Zh9,Zi5]
def NM{c n:Int}(hc:Yq c)(f:0<n):VC xP 49 xw [vi c,vi n]<|vi<|pick c n:=by
 refine ZQ Z1v follows Z2 c49 rfl ?_;obtain⟨a,d⟩:=hc;by_cases h:c<0;simp[Cm,h];simp(disch:=omega) only[Zy];refine⟨Z0,?_⟩;unfold pick;grind;simp[Cm,h];refine⟨Z0,?_⟩;simp_all[pick,Zh9,Zi5]
def N2:Fn:=⟨13,[0,1,4,5,6,7,16,8,9,30,10,78,97],pQ [pR [(2,.m [pN,pN])],pR [pV 3<|.mn (.len<|.s 0)<|pI 10],pR [(4,.m [pN,pN])],pQ [pR [pV 5<|pI 0]]<|.block 0<|.loop [0,1,2,3,4,5]<|pQ [pu 6 (pl (.s 5)<|.s 3) .skip<|.exit 0,.block 1<|pQ [pR [(7,.m [pN,pN])],pQ [pR [pV 8<|pI 0]]<|.block 2<|.loop [0,1,2,3,4,5,6,7,8]<|pQ [pQ [.ao ⟨[.lt 13 []<|pl (.s 8)<|.len<|.ae (.ba (.s 0) (.s 5) 2) 0],[([(13,xk)],pl (.s 8)<|pI 4)],[pV 9<|.ite (.s 13) (pl (.s 8)<|pI 4) pF]⟩]<|.cond (.s 9) .skip<|.exit 2,.block 3<|pC [pK 14 49 [.ae (.ba (.ae (.ba (.s 0) (.s 5) 2) 0) (.s 8) 1) 0,pa (.s 3)<|pI 1]] [(7,.m [.app (.m 7 0) (.lit [pb (.s 14)<|pI 1]) 1,.m 7 1])]]<|pc 8,pR [(7,.m [.m 7 0,.app pN (.gz (.ae (.ba (.s 0) (.s 5) 2) 1) (pI 0) (.mn (.len<|.ae (.ba (.s 0) (.s 5) 2) 1)<|pI 4) 1) 1])]]<|pR [(4,.m [.app (.m 4 0) (.lit [.mm 7 0 2]) 2,.m 4 1])]]<|pc 5,pQ [pR [pV 10<|pI 0]]<|.block 4<|.loop [0,1,2,3,4,5,6,10]<|pQ [pQ [.ao ⟨[.lt 15 []<|pl (.s 10)<|.len<|.s 1],[([(15,xk)],pl (.s 10)<|pI 5)],[pV 11<|.ite (.s 15) (pl (.s 10)<|pI 5) pF]⟩]<|.cond (.s 11) .skip<|.exit 4,.block 5<|pC [pK 16 49 [.ae (.ba (.s 1) (.s 10) 1) 0,pa (.s 3)<|pI 1]] [(4,.m [.m 4 0,.app (.m 4 1) (.lit [pb (.s 16)<|pI 1]) 1])]]<|pc 10,pi 12 (pe (.len<|.m 4 1)<|pI 0)<|pR [(4,.m [.m 4 0,.app (.m 4 1) (.lit [pb (.s 3)<|pI 1]) 1])]]<|px [(2,pM (.mm 4 0 2) 2)],[(2,(.ag 2))]⟩
def c29:ZX [.fz,.fz] Try.f29=J N2:=Z2
def Ch:Fn:=⟨10,[0,1,2,3,6,7,8,14,9,31],pQ [pR [(3,pS 0 7),pV 4<|pI 0,pV 5 pF],pR [pV 6<|.s 1],pi 7 (pj (.len<|.m 3 2)<|pI 0)<|pR [pV 6<|.ae (.ba (.m 3 2) (.bp .rem (.s 1)<|.len<|.m 3 2) 1) 0],pC [pK 10 31 [.s 6,pI 3]] [pV 8<|.s 10],pQ [.ao ⟨[.lt 11 []<|pe (.s 8)<|pI 2],[([(11,xk)],.un .not<|.s 2)],[pV 9<|.ite (.s 11) (.un .not<|.s 2) pF]⟩]<|pw (.s 9)<|pR [pV 8<|pI 1],pC [pK 12 31 [.bp .quo (.s 6)<|pI 3,pI 2]] [pV 4<|.s 8,pV 5<|pe (.s 12)<|pI 1]] .ret,[(4,.v),(5,.v)]⟩
def c30:ZX [.fz,.fz,.fz] Try.f30=J Ch:=Z2
def N3:Fn:=⟨15,[0,1,2,3,4,5,6,8,9,10,11,12,44,13,76],pQ [pR [(4,pS 0 14),(5,pS 1 2),(6,pS 2 2),(7,.m [pU 0,pI 0,pI 0,pF,pI 0,pN,pN,pN,pN,pN,pN,pN,pN,pN])],pC [pK 15 33 [.mm 4 0 10,.m 5 0]] [pV 8<|.app pN (.s 15) 1],pC [pK 16 50 [.ag [pa (.len<|.m 6 0)<|.len<|.m 6 1,.len<|.m 6 0]]] [pV 9<|.ext (.s 16) 0,pV 10<|.ext (.s 16) 1],.ao ⟨[],[([],.ba (.s 8) (.m 5 1) 1)],[pV 8<|.upd (.s 8) (.m 5 1) 0<|.one<|.s 9]⟩,pQ [pR [pV 11<|pI 0]]<|.block 0<|.loop [0,1,2,3,4,5,6,7,8,9,10,11]<|pQ [pu 12 (pl (.s 11)<|.len<|.m 6 0) .skip<|.exit 0,.block 1<|.ao ⟨[pK 17 51 [.mm 4 0 14,.ag [.m 5 0,pa (pa (.m 5 1)<|pI 1)<|.s 11],.ae (.ba (.m 6 0) (.s 11) 1) 0,pa (.s 3)<|.s 11]],[([],.ba (.s 8) (pa (pa (.m 5 1)<|pI 1)<|.s 11) 1)],[pV 8<|.upd (.s 8) (pa (pa (.m 5 1)<|pI 1)<|.s 11) 0<|.one<|.s 17]⟩]<|pc 11,pQ [pR [pV 13<|pI 0]]<|.block 2<|.loop [0,1,2,3,4,5,6,7,8,9,10,11,12,13]<|pQ [pu 14 (pl (.s 13)<|.len<|.m 6 1) .skip<|.exit 2,.block 3<|.ao ⟨[],[([],.ba (.s 8) (pa (pa (pa (.m 5 1)<|pI 1)<|.len<|.m 6 0)<|.s 13) 1)],[pV 8<|.upd (.s 8) (pa (pa (pa (.m 5 1)<|pI 1)<|.len<|.m 6 0)<|.s 13) 0<|.ae (.ba (.m 6 1) (.s 13) 1) 0]⟩]<|pc 13,pC [pK 18 35 [.mm 4 0 10,.m 5 0,.s 8]] [(4,.m [.ae (.sz (.s 18) 10) 0,.ae (.sz (.s 18) 10) 1,.ae (.sz (.s 18) 10) 2,.ae (.sz (.s 18) 10) 3,.ae (.sz (.s 18) 10) 4,.ae (.sz (.s 18) 10) 5,.ae (.sz (.s 18) 10) 6,.ae (.sz (.s 18) 10) 7,.ae (.sz (.s 18) 10) 8,.ae (.sz (.s 18) 10) 9,.m 4 10,.m 4 11,.m 4 12,.m 4 13])]]<|px [(7,pM (.mm 4 0 14) 14)],[(7,(.ag 14))]⟩
def c32:ZX [.fz,.fz,.fz,.fz] Try.f32=J N3:=Z2
def Cj:Fn:=⟨10,[0,1,2,3,4,11,5,6,7,8],pQ [pR [(2,pS 0 14),(3,pS 1 2),pV 4<|pU 0],pi 5 (pe (.m 3 0)<|pI 0)<|px [pV 4<|pU 0],pC [pK 10 53 [.mm 2 0 10],pK 11 52 [.s 10,.mm 3 0 2]] [pV 6<|.ext (.s 11) 0,pV 7<|.ext (.s 11) 1],pC [pK 12 54 [.s 6]] [pV 8<|.ext (.s 12) 0,pV 9<|.ext (.s 12) 1]]<|px [pV 4<|.s 8],[(4,.v)]⟩
def c34:ZX [.fz,.fz] Try.f34=J Cj:=Z2
def Sx:Fn:=⟨10,[0,1,2,3,4,5,8,10,13,54],pQ [pR [(4,pS 0 14),(5,pS 1 2),pV 6<|pU 0],pi 7 (pl (.s 2)<|pI 0)<|px [pV 6<|pU 0],pi 8 (pj (.m 5 0)<|pI 2)<|pQ [pC [pK 10 34 [.mm 4 0 14,.bd (.ba (.m 4 13) (.s 2) 2) 0 2]] [pV 6<|.s 10]] .ret,pQ [.ao ⟨[.lt 11 []<|pe (.m 5 0)<|pI 1,.lt 12 []<|.ite (.s 11) (pg (.m 5 1)<|.m 4 4) pF,.lt 13 [(12,xk)]<|pe (.ae (.ba (.m 4 12) (.s 2) 2) 0)<|pI 0,.lt 14 [(12,xk),(13,xw)]<|pj (.ae (.ba (.m 4 13) (.s 2) 2) 0)<|pI 0],[([(11,xk)],pg (.m 5 1)<|.m 4 4),([(12,xk),(13,xw),(14,xk)],pe (.bp .rem (.s 3)<|pI 2)<|pI 0),([(12,xk),(13,xw)],.ite (.s 14) (pe (.bp .rem (.s 3)<|pI 2)<|pI 0) pF),([(12,xk)],.ite (.s 13) pT<|.ite (.s 14) (pe (.bp .rem (.s 3)<|pI 2)<|pI 0) pF)],[pV 9<|.ite (.s 12) (.ite (.s 13) pT<|.ite (.s 14) (pe (.bp .rem (.s 3)<|pI 2)<|pI 0) pF) pF]⟩]<|pw (.s 9)<|pQ [pC [pK 15 34 [.mm 4 0 14,.bd (.ba (.m 4 13) (.s 2) 2) 0 2]] [pV 6<|.s 15]] .ret,pC [pK 16 34 [.mm 4 0 14,.bd (.ba (.m 4 12) (.s 2) 2) 0 2]] [pV 6<|.s 16]] .ret,[(6,.v)]⟩
def c51:ZX [.fz,.fz,.fz,.fz] Try.f51=J Sx:=Z2
structure Nd where
 M:List Int
 data:List Int
 deriving DecidableEq,Inhabited
structure Gr where
 nodes:List Nd
 E:List Int
 deriving DecidableEq,Inhabited
def Yk(n:Nd):V:=.agg [.sl<|n.M.map vi,.sl<|n.data.map vu]
def YB(g:Gr):V:=.agg [.sl<|g.nodes.map Yk,.sl<|g.E.map vi]
@[simp]theorem Zer(n:Nd):(Yk n).cells=[.sl<|n.M.map vi,.sl<|n.data.map vu]:=rfl
@[simp]theorem Zfd(l:List Nd):Xv 2 (l.map Yk)=xk:=K1 λ_=>rfl
@[simp]theorem ZdS(n:Nd):UA (Yk n) 0 2=J (Yk n):=rfl
@[simp]theorem Zdv(n:Nd):ZZ (Yk n) 0=J (.sl<|n.M.map vi):=rfl
@[simp]theorem Zdw(n:Nd):ZZ (Yk n) 1=J (.sl<|n.data.map vu):=rfl
@[simp]theorem Zfs(n:Nd):VI (Yk n) 2=J (Yk n):=rfl
@[simp]theorem ZdR(g:Gr):UA (YB g) 0 2=J (YB g):=rfl
@[simp]theorem Zdb(g:Gr):ZZ (YB g) 0=J (.sl<|g.nodes.map Yk):=rfl
@[simp]theorem Zdc(g:Gr):ZZ (YB g) 1=J (.sl<|g.E.map vi):=rfl
@[simp]theorem Zfp(g:Gr):VI (YB g) 2=J (YB g):=rfl
@[simp]theorem Ze0(g:Gr):(YB g).cells=[.sl<|g.nodes.map Yk,.sl<|g.E.map vi]:=rfl
@[simp]theorem Zfi{k:IntKind}{l:Zr}(j n:Nat):RE n (.sl l) (.int k 0) (.int k (j:Int))=if j<=I l/\Xv n l=xk then J (.sl<|l.take j)else U:=by
 have:=Zaa (k:=k) (l:=l) 0 j n;simpa using this
def rp(n:Nat)(p:Int):Int:=pick p (n+1) -1
def Tc(n:Nat)(x:Nd):Nd:=⟨(x.M.take 4).map<|rp n,x.data.take 4⟩
def VD(l:List Nd):Nat:=min (I l) 10
def ZW(l:List Nd)(a:Z8):Gr:=⟨(l.take<|VD l).map<|Tc<|VD l,if a.take 5=[]then [(VD l:Int) -1]else(a.take 5).map (rp<|VD l)⟩
def Z0Q{l:List Nd}{a:Z8}(hl:∀x∈l,∀p∈x.M,Yq p)(hr:∀p∈a,Yq p):VC xP 29 xw [.sl<|l.map Yk,.sl<|a.map vi]<|YB<|ZW l a:=by
 refine ZQ Z1k follows Z2 c29 rfl ?_;have S:VD l<=10:=by grind [VD]
 have a1:VD l<=I l:=by grind [VD]
 have z:(if(10:Int)< (I l:Int)then(10:Int)else(I l:Int))=(VD l:Int):=by
  unfold VD;split<;>omega
 simp[N2,z];generalize hn:VD l=n at*;have C:=Zy ((n:Int)+1) Z0 Z0;refine S7 (λt=>∃i:Nat,i<=n/\t=[.v<|.sl<|l.map Yk,.v<|.sl<|a.map vi,.m [.sl [],.sl []],.v<|vi n,.m [.sl<|((l.take i).map<|Tc n).map Yk,.sl []],.v<|vi i]) (λt=>match get t 5 with|.v (.int _ i)=>n-i.toNat|_=>0) ?_ ?_;exact⟨0,Z1,Z1⟩
 .rintro t ⟨i,hi,rfl⟩;have hw:=Zy ((i:Int)+1) Z0 Z0;by_cases h:i<n
  .have r:i<I l:=Z0;have P:l[i]?=J l[i]:=ZgY r;simp[h];generalize A:l[i]=x at P;have Q:∀p∈x.M,Yq p:=hl x<|Zha P;have F:(if(4:Int)< (I x.data:Int)then(4:Int)else(I x.data:Int))=((min (I x.data) 4:Nat):Int):=by split<;>omega
   refine S7 (λt=>∃k:Nat,k<=I x.M/\k<=4/\t=[.v<|.sl<|l.map Yk,.v<|.sl<|a.map vi,.m [.sl [],.sl []],.v<|vi n,.m [.sl<|((l.take i).map<|Tc n).map Yk,.sl []],.v<|vi i,.v<|.bool xk,.m [.sl<|((x.M.take k).map<|rp n).map vi,.sl []],.v<|vi k]) (λt=>match get t 8 with|.v (.int _ i)=>4-i.toNat|_=>0) ?_ ?_;exact⟨0,Z1,Z1,Z1⟩
   .rintro t ⟨k,G,Z,rfl⟩;have w:=Zy ((k:Int)+1) Z0 Z0;by_cases W:k<I x.M/\k<4;obtain⟨f,Y⟩:=W;have M:x.M[k]?=J x.M[k]:=ZgY f;have g:(k:Int)<4:=Z0;simp[r,A,f,g,C];refine Zz (NM (Q _<|Zhm f) Z0) Z1 ?_;have N:=Th (c:=x.M[k]) (n:=(n:Int)+1) Z0;have y:=Zy (pick x.M[k] ((n:Int)+1) -1) Z0 Z0;simp[w,y];refine⟨by grind [Y3],⟨k+1,Z0,Z0,?_,Z1⟩,Z0⟩;rw[ZhX,Zhq,M];rfl
    .have d:(x.M.take k)=x.M.take 4:=by
      by_cases f:k<I x.M;grind;grind
     have o:(l.take<|i+1).map (Yk∘Tc n)=(l.take i).map (Yk∘Tc n)++[V.agg [.sl<|(x.M.take k).map<|vi∘rp n,.sl<|(x.data.take<|min (I x.data) 4).map vu]]:=by
      rw[ZhX,P,Zig,d];have L:x.data.take (min (I x.data) 4)=x.data.take 4:=by
       by_cases hd:I x.data<=4;grind;grind
      rw[L];simp[Yk,Tc]
     have B:Xv 1 ((x.data.take<|min (I x.data) 4).map vu)=xk:=LW _;have u:min (I x.data) 4<=Y3:=by grind [Y3]
     have H:min i (I l)+1<=Y3:=by grind [Y3]
     have K:min (I x.data) 4<=I x.data:=Z0;simp only[List.map_take]at o B;have g:k<I x.M->¬(k:Int)<4:=Z0;by_cases f:k<I x.M
     all_goals (
      simp[r,A,f,g,F,u,H,B,hw,K];exact⟨⟨i+1,Z0,o.symm,Z1⟩,Z0⟩)
  .have:i=n:=Z0;subst this;simp;have D:=Zy ((i:Int) -1) Z0 Z0;refine S7 (λt=>∃k:Nat,k<=I a/\k<=5/\t=[.v<|.sl<|l.map Yk,.v<|.sl<|a.map vi,.m [.sl [],.sl []],.v<|vi i,.m [.sl<|(l.take i).map<|Yk∘Tc i,.sl<|(a.take k).map<|vi∘rp i],.v<|vi i,.v<|.bool xw,.no,.no,.no,.v<|vi k]) (λt=>match get t 10 with|.v (.int _ i)=>5-i.toNat|_=>0) ?_ ?_;exact⟨0,Z1,Z1,Z1⟩
   .rintro t ⟨k,G,a0,rfl⟩;have w:=Zy ((k:Int)+1) Z0 Z0;by_cases X:k<I a/\k<5;obtain⟨f,Y⟩:=X;have M:a[k]?=J a[k]:=ZgY f;have g:(k:Int)<5:=Z0;simp[f,g,C];refine Zz (NM (hr _<|Zhm f) Z0) Z1 ?_;have N:=Th (c:=a[k]) (n:=(i:Int)+1) Z0;have y:=Zy (pick a[k] ((i:Int)+1) -1) Z0 Z0;simp[w,y];refine⟨by grind [Y3],⟨k+1,Z0,Z0,?_,Z1⟩,Z0⟩;rw[ZhX,Zhq,M];rfl
    .have d:(a.take k)=a.take 5:=by
      by_cases f:k<I a;grind;grind
     have g:k<I a->¬(k:Int)<5:=Z0;have R:ZW l a=⟨(l.take i).map<|Tc i,if a.take 5=[]then [(i:Int) -1]else(a.take 5).map (rp i)⟩:=by
      unfold ZW;rw[hn]
     have q:I (a.take k)=k:=by rw[Zi4];omega
     by_cases T:k=0;subst T;have j:a.take 5=[]:=by rw[<-d];rfl
     rw[R,Zhc j];have f:¬0<I a:=Z0;have u:1<=Y3:=by simp[Y3]
     simp[f,YB,D,u]
     .have j:a.take 5≠[]:=by
       rw[<-d];intro h;rw[h]at q;simp at q;omega
      rw[R,Zh9 j,<-d];have O:¬a=[]:=by intro h;rw[h]at G;simp at G;omega
      by_cases f:k<I a;all_goals simp[f,g,YB,T,O]
def OL{n:Nat}{p:Int}: -1<=rp n p/\rp n p<n:=by
 have:=Th (c:=p) (n:=(n:Int)+1) Z0;grind [rp]
def qa(l:List Nd)(a:Z8):(ZW l a).nodes.length=VD l:=by
 simp[ZW,VD]
def BN(l:List Nd)(a:Z8):VD l<=10/\(ZW l a).E.length<=5/\∀x∈(ZW l a).nodes,I x.M<=4/\I x.data<=4:=by
 refine⟨by grind [VD],?_,λx d=> ?_⟩;grind [ZW];simp only[ZW,Zhl]at d;obtain⟨y,_,rfl⟩:=d;grind [Tc,List.length_map,List.length_take]
def p7:Fn:=⟨5,[0,1,2,3,10],pQ [pR [(1,pS 0 7),(2,pZ)],pC [pK 5 14 [.mm 1 0 7,pT]] [(3,pS 5 14)],pi 4 (pe (.len<|.m 3 5)<|pI 0)<|pQ [pC [pK 6 15 [.mm 1 0 7]] [(2,pS 6 10)]] .ret,pC [pK 7 16 [.mm 3 0 14,.mm 1 0 7]] [(2,pS 7 10)]] .ret,[(2,(.ag 10))]⟩
def c7:ZX [.fz] Try.f7=J p7:=Z2
def MQ:Fn:=⟨19,[0,1,2,4,5,6,7,8,26,9,10,11,12,13,57,81,14,82,165],pQ [pR [(2,pS 0 7),(3,.m [pU 0,pI 0,pI 0,pF,pI 0,pN,pN,pN,pN,pN,pN,pN,pN,pN])],.ao ⟨[pK 19 29 [.m 2 0,.m 2 1]],[([],.ag [pU 0,pI 0,pI 0,pF,pI 0,pN,pN,pN,pN,pN,.ae (.sz (.s 19) 2) 0,.ae (.sz (.s 19) 2) 1,pN,pN])],[(4,.m [pU 0,pI 0,pI 0,pF,pI 0,pN,pN,pN,pN,pN,.ae (.sz (.s 19) 2) 0,.ae (.sz (.s 19) 2) 1,pN,pN])]⟩,pR [(5,.m [pI 0,pI 0,pI 0,pI 0,pI 0])],pR [pV 6<|pI 0],pQ [pR [pV 7<|pI 0]]<|.block 0<|.loop [0,1,2,3,4,5,6,7]<|pQ [pu 8 (pl (.s 7)<|.len<|.m 4 10) .skip<|.exit 0,.block 1<|pQ [pC [pK 20 30 [.mm 2 0 7,.s 7,.s 1]] [pV 9<|.ext (.s 20) 0,pV 10<|.ext (.s 20) 1],pR [pV 11<|pa (pa (pI 1)<|.len<|.ae (.ba (.m 4 10) (.s 7) 2) 0)<|.len<|.ae (.ba (.m 4 10) (.s 7) 2) 1],pR [(12,pM (.ag [pI 0,pI 0]) 2)],pR [(13,pM (.ag [pI 0,pI 0]) 2)],pu 14 (pl (.s 9)<|pI 2) (pQ [.ao ⟨[],[([],.ai (.c<|.agg [(.bool xk),(.bool xk),(.bool xk),(.bool xk),(.bool xk)]) (pb (pI 2)<|.s 9) 5 1 xw)],[(12,pM (.ag [pb (pI 2)<|.s 9,.one<|.ai (.mm 5 0 5) (pb (pI 2)<|.s 9) 5 1 xw]) 2)]⟩]<|.ao ⟨[],[([],.ai (.c<|.agg [(.bool xk),(.bool xk),(.bool xk),(.bool xk),(.bool xk)]) (pb (pI 2)<|.s 9) 5 1 xw)],[(5,pM (.di (.mm 5 0 5) (pb (pI 2)<|.s 9) 5 1<|pa (.ai (.mm 5 0 5) (pb (pI 2)<|.s 9) 5 1 xw)<|.s 11) 5)]⟩)<|pR [pV 6<|pa (.s 6)<|.s 11],pQ [pC [.lt 21 []<|pj (.s 9)<|pI 0] [pV 15<|.ite (.s 21) (.s 1) pF]]<|pw (.s 15)<|pQ [pR [pV 16<|pI 3],pi 17 (.s 10)<|pR [pV 16<|pI 4],.ao ⟨[],[([],.ai (.c<|.agg [(.bool xk),(.bool xk),(.bool xk),(.bool xk),(.bool xk)]) (.s 16) 5 1 xw)],[(13,pM (.ag [.one<|.s 16,.one<|.ai (.mm 5 0 5) (.s 16) 5 1 xw]) 2)]⟩]<|.ao ⟨[],[([],.ai (.c<|.agg [(.bool xk),(.bool xk),(.bool xk),(.bool xk),(.bool xk)]) (.s 16) 5 1 xw)],[(5,pM (.di (.mm 5 0 5) (.s 16) 5 1<|pa (.ai (.mm 5 0 5) (.s 16) 5 1 xw)<|.s 11) 5)]⟩,pR [(4,.m [.m 4 0,.m 4 1,.m 4 2,.m 4 3,.m 4 4,.m 4 5,.m 4 6,.m 4 7,.m 4 8,.m 4 9,.m 4 10,.m 4 11,.app (.m 4 12) (.lit [.mm 12 0 2]) 2,.m 4 13])]]<|pR [(4,.m [.m 4 0,.m 4 1,.m 4 2,.m 4 3,.m 4 4,.m 4 5,.m 4 6,.m 4 7,.m 4 8,.m 4 9,.m 4 10,.m 4 11,.m 4 12,.app (.m 4 13) (.lit [.mm 13 0 2]) 2])]]<|pc 7,.ao ⟨[pK 22 31 [.m 2 6,pI 2]],[([],.ai (.c<|.agg [(.bool xk),(.bool xk),(.bool xk),(.bool xk),(.bool xk)]) (pI 1) 5 1 xw),([],.ai (.c<|.agg [(.bool xk),(.bool xk),(.bool xk),(.bool xk),(.bool xk)]) (pI 2) 5 1 xw),([],.ai (.c<|.agg [(.bool xk),(.bool xk),(.bool xk),(.bool xk),(.bool xk)]) (pI 3) 5 1 xw),([],.ai (.c<|.agg [(.bool xk),(.bool xk),(.bool xk),(.bool xk),(.bool xk)]) (pI 4) 5 1 xw),([],.ag [pU 0,pI 0,.one<|.s 22,.one<|.s 1,pI 0,.mk (.int .u64 0)<|.ai (.mm 5 0 5) (pI 1) 5 1 xw,.mk (.int .u64 0)<|.ai (.mm 5 0 5) (pI 2) 5 1 xw,.mk (.int .u64 0)<|.ai (.mm 5 0 5) (pI 3) 5 1 xw,.mk (.int .u64 0)<|.ai (.mm 5 0 5) (pI 4) 5 1 xw,pN])],[(4,.m [pU 0,pI 0,.one<|.s 22,.one<|.s 1,pI 0,.mk (.int .u64 0)<|.ai (.mm 5 0 5) (pI 1) 5 1 xw,.mk (.int .u64 0)<|.ai (.mm 5 0 5) (pI 2) 5 1 xw,.mk (.int .u64 0)<|.ai (.mm 5 0 5) (pI 3) 5 1 xw,.mk (.int .u64 0)<|.ai (.mm 5 0 5) (pI 4) 5 1 xw,pN,.m 4 10,.m 4 11,.m 4 12,.m 4 13])]⟩,.ao ⟨[pK 23 31 [.m 2 4,pI 12]],[([],.ai (.c<|.agg [(.bool xk),(.bool xk),(.bool xk),(.bool xk),(.bool xk)]) (pI 1) 5 1 xw),([],.ai (.c<|.agg [(.bool xk),(.bool xk),(.bool xk),(.bool xk),(.bool xk)]) (pI 2) 5 1 xw),([],.ai (.c<|.agg [(.bool xk),(.bool xk),(.bool xk),(.bool xk),(.bool xk)]) (pI 3) 5 1 xw),([],.ai (.c<|.agg [(.bool xk),(.bool xk),(.bool xk),(.bool xk),(.bool xk)]) (pI 4) 5 1 xw)],[(4,.m [.m 4 0,pa (.mx (pa (pa (.ai (.mm 5 0 5) (pI 1) 5 1 xw)<|.ai (.mm 5 0 5) (pI 2) 5 1 xw)<|.s 6)<|pa (.ai (.mm 5 0 5) (pI 3) 5 1 xw)<|.ai (.mm 5 0 5) (pI 4) 5 1 xw)<|.s 23,.m 4 2,.m 4 3,.m 4 4,.m 4 5,.m 4 6,.m 4 7,.m 4 8,.m 4 9,.m 4 10,.m 4 11,.m 4 12,.m 4 13])]⟩,pR [(4,.m [pa (pU 1)<|.bp .rem (.m 2 3)<|pb (pU 9223372036854775808)<|pm (pU 2)<|.conv .u64<|.m 4 1,.m 4 1,.m 4 2,.m 4 3,.m 4 4,.m 4 5,.m 4 6,.m 4 7,.m 4 8,.m 4 9,.m 4 10,.m 4 11,.m 4 12,.m 4 13])],.ao ⟨[],[([],.ai (.c<|.agg [(.bool xk),(.bool xk),(.bool xk),(.bool xk),(.bool xk)]) (pI 1) 5 1 xw)],[(4,.m [.m 4 0,.m 4 1,.m 4 2,.m 4 3,.one<|.ai (.mm 5 0 5) (pI 1) 5 1 xw,.m 4 5,.m 4 6,.m 4 7,.m 4 8,.m 4 9,.m 4 10,.m 4 11,.m 4 12,.m 4 13])]⟩,pQ [.ao ⟨[.lt 24 []<|.s 1],[([(24,xk)],.ai (.c<|.agg [(.bool xk),(.bool xk),(.bool xk),(.bool xk),(.bool xk)]) (pI 1) 5 1 xw),([(24,xk)],pj (.ai (.mm 5 0 5) (pI 1) 5 1 xw)<|pI 0)],[pV 18<|.ite (.s 24) (pj (.ai (.mm 5 0 5) (pI 1) 5 1 xw)<|pI 0) pF]⟩]<|pw (.s 18)<|.ao ⟨[pK 25 31 [.m 2 5,.ai (.mm 5 0 5) (pI 1) 5 1 xw]],[([],.ai (.c<|.agg [(.bool xk),(.bool xk),(.bool xk),(.bool xk),(.bool xk)]) (pI 1) 5 1 xw)],[(4,.m [.m 4 0,.m 4 1,.m 4 2,.m 4 3,.one<|.s 25,.m 4 5,.m 4 6,.m 4 7,.m 4 8,.m 4 9,.m 4 10,.m 4 11,.m 4 12,.m 4 13])]⟩]<|px [(3,pM (.mm 4 0 14) 14)],[(3,(.ag 14))]⟩
def c14:ZX [.fz,.fz] Try.f14=J MQ:=Z2
def MR:Fn:=⟨3,[0,1,2],pQ [pR [(1,pS 0 7),(2,pZ)],pC [pK 3 14 [.mm 1 0 7,pF],pK 4 16 [.s 3,.mm 1 0 7]] [(2,pS 4 10)]] .ret,[(2,(.ag 10))]⟩
def Q2:ZX [.fz] Try.f15=J MR:=Z2
def MT:Fn:=⟨17,[0,1,2,3,4,5,16,6,31,59,83,7,8,9,125,10,134],pQ [pR [(2,pS 0 14),(3,pS 1 7),(4,pZ)],pQ [pR [pV 5<|pI 0]]<|.block 0<|.loop [0,1,2,3,4,5]<|pQ [pu 6 (pl (.s 5)<|.len<|.m 2 10) .skip<|.exit 0,.block 1<|pQ [pR [(7,pM (.bd (.ba (.m 2 10) (.s 5) 2) 0 2) 2)],pi 8 (pj (.ae (.ba (.m 2 12) (.s 5) 2) 0)<|pI 0)<|pC [pK 17 32 [.mm 2 0 14,.bd (.ba (.m 2 12) (.s 5) 2) 0 2,.mm 7 0 2,pa (.m 3 4)<|.s 5]] [(2,pS 17 14)],pQ [.ao ⟨[.lt 18 []<|pj (.ae (.ba (.m 2 13) (.s 5) 2) 0)<|pI 0],[([(18,xk)],pe (.ae (.ba (.m 2 12) (.s 5) 2) 0)<|pI 0)],[pV 9<|.ite (.s 18) (pe (.ae (.ba (.m 2 12) (.s 5) 2) 0)<|pI 0) pF]⟩]<|pw (.s 9)<|pC [pK 19 32 [.mm 2 0 14,.bd (.ba (.m 2 13) (.s 5) 2) 0 2,.mm 7 0 2,pI 0]] [(2,pS 19 14)],.ao ⟨[.lt 20 []<|pj (.ae (.ba (.m 2 13) (.s 5) 2) 0)<|pI 0],[([(20,xk)],pj (.ae (.ba (.m 2 12) (.s 5) 2) 0)<|pI 0)],[pV 10<|.ite (.s 20) (pj (.ae (.ba (.m 2 12) (.s 5) 2) 0)<|pI 0) pF]⟩]<|pw (.s 10)<|pQ [pC [pK 21 33 [.mm 2 0 10,.ae (.ba (.m 2 13) (.s 5) 2) 0]] [pV 11<|.app pN (.s 21) 1],.ao ⟨[pK 22 34 [.mm 2 0 14,.bd (.ba (.m 2 12) (.s 5) 2) 0 2]],[([],.ba (.s 11) (.ae (.ba (.m 2 13) (.s 5) 2) 1) 1)],[pV 11<|.upd (.s 11) (.ae (.ba (.m 2 13) (.s 5) 2) 1) 0<|.one<|.s 22]⟩]<|pC [pK 23 35 [.mm 2 0 10,.ae (.ba (.m 2 13) (.s 5) 2) 0,.s 11]] [(2,.m [.ae (.sz (.s 23) 10) 0,.ae (.sz (.s 23) 10) 1,.ae (.sz (.s 23) 10) 2,.ae (.sz (.s 23) 10) 3,.ae (.sz (.s 23) 10) 4,.ae (.sz (.s 23) 10) 5,.ae (.sz (.s 23) 10) 6,.ae (.sz (.s 23) 10) 7,.ae (.sz (.s 23) 10) 8,.ae (.sz (.s 23) 10) 9,.m 2 10,.m 2 11,.m 2 12,.m 2 13])]]<|pc 5,pR [pV 12 pN],pQ [pR [pV 13<|pI 0]]<|.block 2<|.loop [0,1,2,3,4,5,6,12,13]<|pQ [pu 14 (pl (.s 13)<|.len<|.m 2 11) .skip<|.exit 2,.block 3<|pQ [pR [pV 15<|pU 0],pi 16 (pg (.ae (.ba (.m 2 11) (.s 13) 1) 0)<|pI 0)<|pC [pK 24 34 [.mm 2 0 14,.bd (.ba (.m 2 12) (.ae (.ba (.m 2 11) (.s 13) 1) 0) 2) 0 2]] [pV 15<|.s 24]]<|pR [pV 12<|.app (.s 12) (.lit [.one<|.s 15]) 1]]<|pc 13,pR [(2,.m [.m 2 0,.m 2 1,.m 2 2,.m 2 3,.m 2 4,.m 2 5,.m 2 6,.m 2 7,.m 2 8,.one<|.s 12,.m 2 10,.m 2 11,.m 2 12,.m 2 13])]]<|px [(4,pM (.mm 2 0 10) 10)],[(4,(.ag 10))]⟩
def c16:ZX [.fz,.fz] Try.f16=J MT:=Z2
end Vm
end
section
namespace Vm
open Go Go.Proofs
structure Pl where
 part:Int
 aa:Int
 deriving DecidableEq,Inhabited
def Wc(p:Pl):V:=.agg [vi p.part,vi p.aa]
@[simp]theorem ZeZ p:(Wc p).cells=[vi p.part,vi p.aa]:=rfl
@[simp]theorem ZdV p:UA (Wc p) 0 2=J (Wc p):=rfl
@[simp]theorem ZdC p:ZZ (Wc p) 0=J (vi p.part):=rfl
@[simp]theorem ZdD p:ZZ (Wc p) 1=J (vi p.aa):=rfl
@[simp]theorem Zfu p:VI (Wc p) 2=J (Wc p):=rfl
@[simp]theorem Zfg(l:List Pl):Xv 2 (l.map Wc)=xk:=K1 λ_=>rfl
structure Rw where
 nodes:List Nd
 E:List Int
 dg:List Int
 base:Int
 be:Int
 Z:Int
 to:Int
 deriving Inhabited
def Wq(x:Rw):V:=.agg [.sl<|x.nodes.map Yk,.sl<|x.E.map vi,.sl<|x.dg.map vi,vu x.base,vi x.be,vi x.Z,vi x.to]
@[simp]theorem Zfv x:VI (Wq x) 7=J (Wq x):=rfl
@[simp]theorem Zf9 x:(Wq x).cells=[.sl<|x.nodes.map Yk,.sl<|x.E.map vi,.sl<|x.dg.map vi,vu x.base,vi x.be,vi x.Z,vi x.to]:=rfl
@[simp]theorem ZdE x:ZZ (Wq x) 0=J (.sl<|x.nodes.map Yk):=rfl
@[simp]theorem ZdF x:ZZ (Wq x) 1=J (.sl<|x.E.map vi):=rfl
@[simp]theorem ZdG x:ZZ (Wq x) 2=J (.sl<|x.dg.map vi):=rfl
@[simp]theorem ZdH x:ZZ (Wq x) 3=J (vu x.base):=rfl
@[simp]theorem ZdI x:ZZ (Wq x) 4=J (vi x.be):=rfl
@[simp]theorem ZdJ x:ZZ (Wq x) 5=J (vi x.Z):=rfl
@[simp]theorem ZdK x:ZZ (Wq x) 6=J (vi x.to):=rfl
structure Rw.ok (x:Rw):Prop where
 M:∀n∈x.nodes,∀p∈n.M,Yq p
 data:∀n∈x.nodes,∀p∈n.data,ZC p
 E:∀p∈x.E,Yq p
 dg:∀p∈x.dg,Yq p
 base:ZC x.base
 be:Yq x.be
 Z:Yq x.Z
 to:Yq x.to
def U2(x:Rw)(i:Nat):Int:=if I x.dg=0 then i else(x.dg[i%I x.dg]?).getD 0
def V3(x:Rw)(i:Nat)(cycle:Bool):Int:=if pick (U2 x i) 3=2/\cycle=xw then 1 else pick (U2 x i) 3
def Ww(x:Rw)(i:Nat):Bool:=decide (pick ((U2 x i).tdiv 3) 2=1)
def R5 x i cycle:V3 x i cycle=0\/V3 x i cycle=1\/(V3 x i cycle=2/\cycle=xk):=by
 have:=Th (c:=U2 x i) (n:=3) Z0;unfold V3;grind
def Z3e{x:Rw}(hx:x.ok){i:Nat}(C:i<=1000){cycle:Bool}:VC xP 30 xw [Wq x,vi i,.bool cycle]<|.am [vi<|V3 x i cycle,.bool<|Ww x i]:=by
 refine ZQ Z1l follows Z2 c30 rfl ?_;have t:Yq<|U2 x i:=by
  unfold U2;split;exact⟨Z0,Z0⟩;rename_i h;have:i%I x.dg<I x.dg:=Zkk _ Z0;rw[ZgY this];exact hx.dg _<|Zhm this
 have g:=Lr (c:=U2 x i) (n:=3) t Z0;have p:Yq<|(U2 x i).tdiv 3:=by
  obtain⟨B,f⟩:=t;unfold Yq;rw[Int.tdiv_eq_ediv];have:Int.sign 3=1:=rfl;split<;>omega
 have d:=Zy _ p.1 p.2;have a:=Lr (c:=(U2 x i).tdiv 3) (n:=2) p Z0;have fin:∀(b:Bool),(decide (pick ((U2 x i).tdiv 3) 2=1)=b)->Ww x i=b:=λb h=>h;by_cases q:I x.dg=0;have k:U2 x i=i:=by simp[U2,q]
 rw[k]at g a d;rw[Zkw Z0]at a d;simp[Ch,q];refine Zz g Z1 ?_;by_cases f:pick (i:Int) 3=2;cases cycle;simp[f,d];refine Zz a Z1 ?_;simp[V3,Ww,k,f];simp[f,d];refine Zz a Z1 ?_;simp[V3,Ww,k,f];simp[f,d];refine Zz a Z1 ?_;simp[V3,Ww,k,f];have l:i%I x.dg<I x.dg:=Zkk _ Z0;have w:x.dg[i%I x.dg]?=J x.dg[i%I x.dg]:=ZgY l;have k:U2 x i=x.dg[i%I x.dg]:=by simp[U2,q,w]
 have z:(i:Int).tmod (I x.dg:Int)=((i%I x.dg:Nat):Int):=by
  rw[Zi5 Z0];rfl
 rw[k]at g a d;have u:0<I x.dg:=Z0;have r:x.dg≠[]:=λe=>Zg0;have A:((i:Int) % (I x.dg:Int))=((i%I x.dg:Nat):Int):=rfl;generalize o:x.dg[i%I x.dg]=c at*;generalize y:i%I x.dg=j at*;simp[Ch,u,r,z,l,o];refine Zz g Z1 ?_;by_cases f:pick c 3=2;cases cycle;simp[f,d];refine Zz a Z1 ?_;simp[V3,Ww,k,f];simp[f,d];refine Zz a Z1 ?_;simp[V3,Ww,k,f];simp[f,d];refine Zz a Z1 ?_;simp[V3,Ww,k,f]
def ZK(n:Nd):Nat:=1+I n.M+I n.data
structure St8 where
 n1:Nat
 n2:Nat
 n3:Nat
 n4:Nat
 wt:Nat
 ax:List Pl
 ah:List Pl
def X6(x:Rw)(cycle:Bool)(sz:Nat)(i:Nat)(s:St8):St8:=
 let k:=V3 x i cycle;let a:=Ww x i;let o:Bool:=decide (0<k)&&cycle
 {n1:=if k=1 then s.n1+sz else s.n1
  n2:=if k=0 then s.n2+sz else s.n2
  n3:=if o&& !a then s.n3+sz else s.n3
  n4:=if o&&a then s.n4+sz else s.n4
  wt:=if k=2 then s.wt+sz else s.wt
  ax:=s.ax++[if k=0 then⟨2,s.n2⟩else if k=1 then⟨1,s.n1⟩else⟨0,0⟩]
  ah:=s.ah++[if o then(if a then⟨4,s.n4⟩else⟨3,s.n3⟩)else⟨0,0⟩]}
def Y4(x:Rw)(cycle:Bool)(g:Gr):Nat->St8
 |0=>⟨0,0,0,0,0,[],[]⟩
 |i+1=>X6 x cycle (ZK<|(g.nodes[i]?).getD default) i<|Y4 x cycle g i
def Zas{x cycle sz i}(h:sz<=9)s(d:s.n1+s.n2+s.wt<=9*i)(h2:s.n3+s.n4<=9*i)(f:I s.ax=i)(g:I s.ah=i):
  (X6 x cycle sz i s).n1+(X6 x cycle sz i s).n2+(X6 x cycle sz i s).wt<=9*(i+1)/\(X6 x cycle sz i s).n3+(X6 x cycle sz i s).n4<=9*(i+1)/\(X6 x cycle sz i s).ax.length=i+1/\(X6 x cycle sz i s).ah.length=i+1:=by
 obtain a|a|⟨a,rfl⟩:=R5 x i cycle;grind [X6];grind [Ww,X6];grind [Ww,X6]
def z5{x cycle g}(a:∀n∈g.nodes,ZK n<=9):∀i,i<=I g.nodes->(Y4 x cycle g i).n1+(Y4 x cycle g i).n2+(Y4 x cycle g i).wt<=9*i/\(Y4 x cycle g i).n3+(Y4 x cycle g i).n4<=9*i/\(Y4 x cycle g i).ax.length=i/\(Y4 x cycle g i).ah.length=i
 |0,_=>by simp[Y4]
 |i+1,k=>by
  let⟨d,f,h,j⟩:=z5 (x:=x) (cycle:=cycle) a i Z0;simp[Y4,ZgY (Z0:i<I g.nodes)];simp_all[Zas]
structure Bt where
 h:Hp
 g:Gr
 ax:List Pl
 ah:List Pl
def Xx(b:Bt):List V:=[vu b.h.base,vi b.h.cap,vi b.h.to,.bool b.h.Y,vi b.h.Z,.sl<|b.h.H.map vu,.sl<|b.h.ab.map vu,.sl<|b.h.ah.map vu,.sl<|b.h.ak.map vu,.sl<|b.h.E.map vu,.sl<|b.g.nodes.map Yk,.sl<|b.g.E.map vi,.sl<|b.ax.map Wc,.sl<|b.ah.map Wc]
def Xg(b:Bt):V:=.agg [vu b.h.base,vi b.h.cap,vi b.h.to,.bool b.h.Y,vi b.h.Z,.sl<|b.h.H.map vu,.sl<|b.h.ab.map vu,.sl<|b.h.ah.map vu,.sl<|b.h.ak.map vu,.sl<|b.h.E.map vu,.sl<|b.g.nodes.map Yk,.sl<|b.g.E.map vi,.sl<|b.ax.map Wc,.sl<|b.ah.map Wc]
def Yz(x:Rw)(cycle:Bool):Bt:=
 let g:=ZW x.nodes x.E;let s:=Y4 x cycle g<|I g.nodes;let cap:Int:=max ((s.n1:Int)+s.n2+s.wt) ((s.n3:Int)+s.n4)+pick x.be 12
 ⟨⟨1+x.base% (9223372036854775808-2*cap),cap,pick x.to 2,cycle,if cycle=xk/\0<s.n1 then pick x.Z s.n1 else s.n1,List.replicate s.n1 0,List.replicate s.n2 0,List.replicate s.n3 0,List.replicate s.n4 0,[]⟩,g,s.ax,s.ah⟩
def Pw{x:Rw}(hx:x.ok){cycle:Bool}:VC xP 14 xw [Wq x,.bool cycle]<|Xg<|Yz x cycle:=by
 refine ZQ Z1e follows Z2 c14 rfl ?_;simp[MQ];refine Zz (Z0Q hx.M hx.E) Z1 ?_;obtain⟨M,N,B⟩:=BN x.nodes x.E;have O:=qa x.nodes x.E;unfold Yz;generalize ZW x.nodes x.E=g at*;have l:∀n∈g.nodes,ZK n<=9:=λn d=>by have:=B n d;unfold ZK;omega
 simp
 refine VL 7 (I g.nodes) (λi=>[(4,.m [.int .u64 0,.int .i64 0,.int .i64 0,.bool xw,.int .i64 0,.sl [],.sl [],.sl [],.sl [],.sl [],.sl<|g.nodes.map Yk,.sl<|g.E.map vi,.sl<|(Y4 x cycle g i).ax.map Wc,.sl<|(Y4 x cycle g i).ah.map Wc]),
  (5,.m [vi 0,vi (Y4 x cycle g i).n1,vi (Y4 x cycle g i).n2,vi (Y4 x cycle g i).n3,vi (Y4 x cycle g i).n4]),(6,.v<|vi (Y4 x cycle g i).wt),(7,.v<|vi i)]) (λ_=>True) (by simp[Y4]) (λi=>Z1) trivial ?_
 rintro i R-;have o:=Zy ((i:Int)+1) Z0 Z0;obtain⟨s1,s2,s3,s4⟩:=z5 (x:=x) (cycle:=cycle) l i R;by_cases h:i<I g.nodes;have d:g.nodes[i]?=J g.nodes[i]:=ZgY h;have p:=l _<|Zhm h;simp only[Y4,d,Zhw];generalize Y4 x cycle g i=s at*;generalize g.nodes[i]=n at*;have P:=Z3e hx (i:=i) Z0 (cycle:=cycle);have C:=R5 x i cycle;have w1:=Zy (1+(I n.M:Int)) (by unfold ZK at p;omega) (by unfold ZK at p;omega);have w2:=Zy (1+(I n.M:Int)+I n.data) (by unfold ZK at p;omega) (by unfold ZK at p;omega);have f:(1+(I n.M:Int)+I n.data)=(ZK n:Nat):=by unfold ZK;omega
 rw[f]at w2;simp[h];refine Zz P Z1 ?_;generalize K:ZK n=sz at*;unfold X6;generalize Ww x i=H at*;generalize V3 x i cycle=k at*;have t:=Zy ((s.n1:Int)+sz) Z0 Z0;have u:=Zy ((s.n2:Int)+sz) Z0 Z0;have w:=Zy ((s.n3:Int)+sz) Z0 Z0;have y:=Zy ((s.n4:Int)+sz) Z0 Z0;have z:=Zy ((s.wt:Int)+sz) Z0 Z0;have q:I s.ax+1<=Y3:=Zgt;have r:I s.ah+1<=Y3:=Zgt;obtain rfl|rfl|⟨rfl,rfl⟩:=C;cases cycle<;>simp[d,Yl d,w1,f,w2,Y8,UV,setCells,Zy,t,u,w,y,z,q,r,Wc,o];cases cycle;simp[d,Yl d,w1,f,w2,Y8,UV,setCells,Zy,t,u,w,y,z,q,r,Wc,o];cases H<;>simp[d,Yl d,w1,f,w2,Y8,UV,setCells,Zy,t,u,w,y,z,q,r,Wc,o];cases H<;>simp[d,Yl d,w1,f,w2,Y8,UV,setCells,Zy,t,u,w,y,z,q,r,Wc,o];have:i=I g.nodes:=Z0;subst this;generalize T:Y4 x cycle g (I g.nodes)=s at*;have G:=Lr (c:=x.to) (n:=2) hx.to Z0;have F:=Lr (c:=x.be) (n:=12) hx.be Z0;have W:=Th (c:=x.be) (n:=12) Z0;simp;refine Zz G Z1 ?_;have X:s.n1<=Y3:=Zgt;have Y:s.n2<=Y3:=Zgt;have Z:s.n3<=Y3:=Zgt;have q4:s.n4<=Y3:=Zgt;simp[Y8,X,Y,Z,q4];refine Zz F Z1 ?_;have w1:=Zy ((s.n1:Int)+s.n2) Z0 Z0;have w2:=Zy ((s.n1:Int)+s.n2+s.wt) Z0 Z0;have w3:=Zy ((s.n3:Int)+s.n4) Z0 Z0;have j:(if(s.n1:Int)+s.n2+s.wt< (s.n3:Int)+s.n4 then(s.n3:Int)+s.n4 else(s.n1:Int)+s.n2+s.wt)=max ((s.n1:Int)+s.n2+s.wt) ((s.n3:Int)+s.n4):=by split<;>omega
 obtain⟨cap,a⟩:∃cap:Int,max ((s.n1:Int)+s.n2+s.wt) ((s.n3:Int)+s.n4)+pick x.be 12=cap:=⟨_,rfl⟩;have Q:0<=cap/\cap<=200:=Z0;have w4:=Zy cap Z0 Z0;have w5:=ZS cap Z0 Z0;have w6:=ZS (2*cap) Z0 Z0;have w7:=ZS (9223372036854775808-2*cap) Z0 Z0;obtain⟨L,b2⟩:=hx.base;have w8:x.base.tmod (9223372036854775808-2*cap)=x.base% (9223372036854775808-2*cap):=Zi5 L;have h1:=ZkZ x.base (Z0:(9223372036854775808-2*cap)≠0);have h2:=Zkz x.base (Z0:0< (9223372036854775808-2*cap));have w9:=ZS (1+x.base% (9223372036854775808-2*cap)) Z0 Z0;have D:¬((9223372036854775808-2*cap)=0):=Z0;simp[Y8,w1,w2,w3,j,a,w4,w5,w6,w7,w8,w9,D];cases cycle;simp[Xg,a];by_cases A:0<s.n1;have S:=Lr (c:=x.Z) (n:=(s.n1:Int)) hx.Z Z0;simp[A];refine Zz S Z1 ?_;simp[Xg,a,A,Y8];simp[Xg,a,A]
end Vm
namespace Vm
open Go Go.Proofs
@[simp]theorem Zfn b:VI (Xg b) 14=J (Xg b):=rfl
@[simp]theorem ZcC b:(Xg b).cells=Xx b:=rfl
@[simp]theorem Zd3 b i:ZZ (Xg b) i=(Xx b)[i]?.bind YS:=rfl
def NF s p:0<=(Xt s p).1/\(Xt s p).1<100000000:=by
 grind [Xt,YD]
def Z2e l(g:l.aw)p a:0<=(Y1 l p a).1/\(Y1 l p a).1<=9223372036854775807:=by
 unfold Y1;split;simp;rename_i f;have d:ZI l=xk:=Zgi;split;simp;split;simp;have:=V5 d p;omega
def Z8h{a}:0<=(Xn a).1/\(Xn a).1<18446744073709551616:=by
 unfold Xn;split;simp;omega
def YJ(h:Hp)(p:Pl):Int:=if p.part=0 then 0 else(Xn (Y1 (Zv h) p.part p.aa).1).1
theorem D6 h p:ZC<|YJ h p:=by
 unfold YJ;split;exact⟨Z0,Z0⟩;exact Z8h
def LE{b:Bt}(f:(Zv b.h).aw){p:Pl}:VC xP 34 xw [Xg b,Wc p]<|vu<|YJ b.h p:=by
 refine ZQ Z1p follows Z2 c34 rfl ?_;by_cases d:p.part=0;simp[Cj,Xx,YJ,d];have g:=Z2e (Zv b.h) f p.part p.aa;simp[Cj,Xx,d];refine Zz (Z8P (h:=b.h)) (by simp[ZD]) ?_;simp;refine Zz (Z8N f (part:=p.part) (at_:=p.aa)) Z1 ?_;simp;refine Zz (Z8R (a:=(Y1 (Zv b.h) p.part p.aa).1) ⟨g.1,Z0⟩) Z1 ?_;simp[YJ,d]
def Vq(b:Bt)(p:Pl)(to tw:Int):Int:=
 if to<0 then 0 else if 2<p.part then YJ b.h<|(b.ah[to.toNat]?).getD ⟨0,0⟩
 else if p.part=1/\b.h.Z<=p.aa/\(((b.ax[to.toNat]?).getD ⟨0,0⟩).part=0\/0< ((b.ah[to.toNat]?).getD ⟨0,0⟩).part/\tw%2=0)then YJ b.h ((b.ah[to.toNat]?).getD ⟨0,0⟩)
 else YJ b.h<|(b.ax[to.toNat]?).getD ⟨0,0⟩
theorem Zae b p to tw:ZC<|Vq b p to tw:=by
 unfold Vq;split;exact⟨Z0,Z0⟩;grind [D6]
def PI(t:Int):t.tmod 2=0↔t%2=0:=by
 grind
def Zaf{b:Bt}(l:(Zv b.h).aw){p:Pl}{to tw:Int}(r:to<I b.ax)(h2:to<I b.ah):VC xP 51 xw [Xg b,Wc p,vi to,vi tw]<|vu<|Vq b p to tw:=by
 refine ZQ Z1x follows Z2 c51 rfl ?_;by_cases o:to<0;simp[Sx,Xx,Vq,o];obtain⟨t,rfl⟩:=Zhf (Z0:0<=to);have g1:b.ax[t]?=J (b.ax[t]'Z0):=ZgY Z0;have g2:b.ah[t]?=J (b.ah[t]'Z0):=ZgY Z0;generalize b.ax[t]'Z0=x at*;generalize b.ah[t]'Z0=y at*;unfold Vq;simp only[Zhh,g1,g2,Zhw,Zh9 o];by_cases a:2<p.part;simp[Sx,Xx,a,g2];refine Zz (LE l (p:=y)) (by simp[Xg]) ?_;simp;have k1:=LE l (p:=x);have q:=LE l (p:=y);by_cases f:p.part=1;by_cases g:b.h.Z<=p.aa;by_cases j:x.part=0;simp[Sx,Xx,a,f,g,j,g1,g2];refine Zz q (by simp[Xg]) ?_;simp;by_cases n:0<y.part;by_cases k:tw%2=0;have d:=(PI tw).2 k;simp[Sx,Xx,a,f,g,j,n,k,d,g1,g2];refine Zz q (by simp[Xg]) ?_;simp;have d:=mt (PI tw).1 k;simp[Sx,Xx,a,f,g,j,n,k,d,g1,g2];refine Zz k1 (by simp[Xg]) ?_;simp;simp[Sx,Xx,a,f,g,j,n,g1,g2];refine Zz k1 (by simp[Xg]) ?_;simp;simp[Sx,Xx,a,f,g,g1,g2];refine Zz k1 (by simp[Xg]) ?_;simp;simp[Sx,Xx,a,f,g1,g2];refine Zz k1 (by simp[Xg]) ?_;simp
@[simp]theorem Z8q x y:V.put (vu x) 0 [vu y]=vu y:=rfl
def Dq{l pre:List Int}{m}(h:I pre=m)(a:m<I l)z:(pre++l.drop m).set m z=pre++[z]++l.drop (m+1):=by
 subst h;rw[Zl3 _ _<|Zh3 _,ZiT,ZhV a,ZhM];rfl
def XO(b:Bt)(p:Pl)(a:Nat)(d:List Int)(tw:Int):List Int:=(List.range<|I d).map λi=>Vq b ⟨p.part,((a+1+i:Nat):Int)⟩ ((d[i]?).getD 0)<|IntKind.i64.wrap<|tw+i
def Sn(b:Bt)(p:Pl)(a:Nat)(n:Nd)(tw:Int):List Int:=
 let l:=Zx b.h p.part
 l.take a++[(Xt ((I n.M:Int)+I n.data)<|I n.M).1]++XO b p a n.M tw++n.data++l.drop (a+ZK n)
def Wj(b:Bt)(p:Pl)(n:Nd)(tw:Int):Bt:= {b with h:=Xk b.h p.part (Sn b p p.aa.toNat n tw)}
def Is{b:Bt}(hb:(Zv b.h).aw){p:Pl}{n:Nd}{tw:Int}{a:Nat}(ha:p.aa=a)(a4:I (Zx b.h p.part)<=1000000)(d:a+ZK n<=I (Zx b.h p.part))
  (h1:∀q∈n.M,q<I b.ax/\q<I b.ah):VC xP 32 xw [Xg b,Wc p,Yk n,vi tw]<|Xg<|Wj b p n tw:=by
 refine ZQ Z1n follows Z2 c32 rfl ?_;have O:I (Zx b.h p.part)<=Y3:=Zgt;have w1:=Zy ((I n.M:Int)+I n.data) Zgv Zgv;unfold Wj;rw[show p.aa.toNat=a by omega];simp[N3,Xx];refine Zz (EA (h:=b.h) (n:=p.part)) (by simp[ZD]) ?_;simp[O,w1];refine Zz (Z8Q (s:=(I n.M:Int)+I n.data) (p:=I n.M)) Z1 ?_;have Q:a< I (Zx b.h p.part):=Zgv;simp[ha,Q];generalize Y:Zx b.h p.part=l at*;generalize X:(Xt ((I n.M:Int)+I n.data)<|I n.M).1=A at*;have D:(l.map vu).set a (vu A)=((l.take a++[A])++l.drop (a+1)).map vu:=by
  rw[<-ZjL];congr 1;have:=Dq (l:=l) (pre:=l.take a) (m:=a) Zg1 Q A;rw[Zj8]at this;exact this
 simp only[Z8q,D];have H:=Zy ((a:Int)+1) Z0 Z0;have a5:I n.M<=I l:=Zgv;have R:I (XO b p a n.M tw)=I n.M:=by simp[XO]
 refine VL 11 (I n.M) (λk=>[(8,.v<|.sl<|((l.take a++[A]++(XO b p a n.M tw).take k)++l.drop (a+1+k)).map vu),(11,.v<|vi k)]) (λ_=>True) Z1 (λi=>Z1) trivial ?_;rintro k hk-;have L:=Zy ((k:Int)+1) Z0 Z0;have a0:=Zy ((a:Int)+1+k) Z0 Z0;by_cases o:k<I n.M;have M:n.M[k]?=J n.M[k]:=ZgY o;obtain⟨q1,q2⟩:=h1 _<|Zhm o;have t:=Zaf hb (p:=⟨p.part,((a+1+k:Nat):Int)⟩) (to:=n.M[k]) (tw:=IntKind.i64.wrap<|tw+k) q1 q2;have Z:(XO b p a n.M tw)[k]?=J (Vq b ⟨p.part,((a+1+k:Nat):Int)⟩ n.M[k]<|IntKind.i64.wrap<|tw+k):=by
  simp[XO,o]
 generalize n.M[k]=q at*;generalize Vq b ⟨p.part,((a+1+k:Nat):Int)⟩ q (IntKind.i64.wrap<|tw+k)=z at*;have G:(XO b p a n.M tw).take (k+1)=(XO b p a n.M tw).take k++[z]:=by rw[ZhX,Z];rfl
 have r:I (l.take a++[A]++(XO b p a n.M tw).take k)=a+1+k:=by simp[R];omega
 have P:a+1+k<I l:=Zgv;have F:=Dq (l:=l) r P z;generalize C:l.take a++[A]++(XO b p a n.M tw).take k=pre at*;have g:∃x,((pre++l.drop (a+1+k)).map vu)[a+1+k]?=J (vu x):=by
  refine⟨l[a+1+k],?_⟩;rw[Zhq,Zhp Z0,r,ZiT,ZhV P];rfl
 have f:((pre++l.drop (a+1+k)).map vu).set (a+1+k) (vu z)=(pre++[z]++l.drop (a+1+(k+1))).map vu:=by
  rw[<-ZjL,F];rfl
 obtain⟨m,B⟩:∃m:Nat,a+1+k=m:=⟨_,rfl⟩;have u:(a:Int)+1+k=m:=Z0;have w:=Zy (m:Int) Z0 Z0;rw[show a+1+(k+1)=a+1+k+1 by omega]at f⊢;rw[B]at g f t⊢;generalize W:(pre++l.drop m).map vu=LL at g f⊢;rw[G];obtain⟨y,hy⟩:=g;simp[o,M,Yl M,H,a0,u,w];refine Zz t (by simp[Xg]) ?_;simp[hy,f,L,o,H,u,w];rw[<-C];simp;have:k=I n.M:=Z0;subst this;rw[show(XO b p a n.M tw).take (I n.M)=XO b p a n.M tw from Zi9 Z0];have a1:=Zy ((a:Int)+1+I n.M) Z0 Z0;have a2:∀j:Nat,j<=1000+I n.data->IntKind.i64.wrap ((a:Int)+1+I n.M+j)=(a:Int)+1+I n.M+j:=λj hj=>Zy _ Z0 Zgv;generalize S:l.take a++[A]++XO b p a n.M tw=sp at*;have T:I sp=a+1+I n.M:=by rw[<-S];simp[R];omega
 simp;refine VL 13 (I n.data) (λk=>[(8,.v<|.sl<|((sp++n.data.take k)++l.drop (a+1+I n.M+k)).map vu),(13,.v<|vi k)]) (λ_=>True) Z1 (λi=>Z1) trivial ?_;rintro k hk-;have L:=Zy ((k:Int)+1) Z0 Zgv;by_cases o:k<I n.data;have M:n.data[k]?=J n.data[k]:=ZgY o;generalize n.data[k]=z at*;have G:n.data.take (k+1)=n.data.take k++[z]:=by rw[ZhX,M];rfl
 have r:I (sp++n.data.take k)=a+1+I n.M+k:=by simp[T];omega
 have P:a+1+I n.M+k<I l:=Zgv;have F:=Dq (l:=l) r P z;generalize C:sp++n.data.take k=pre at*;have g:∃x,((pre++l.drop (a+1+I n.M+k)).map vu)[a+1+I n.M+k]?=J (vu x):=by
  refine⟨l[a+1+I n.M+k],?_⟩;rw[Zhq,Zhp Z0,r,ZiT,ZhV P];rfl
 have f:((pre++l.drop (a+1+I n.M+k)).map vu).set (a+1+I n.M+k) (vu z)=(pre++[z]++l.drop (a+1+I n.M+k+1)).map vu:=by
  rw[<-ZjL,F]
 rw[show a+1+I n.M+(k+1)=a+1+I n.M+k+1 by omega];have a3:=a2 k Z0;obtain⟨m,B⟩:∃m:Nat,a+1+I n.M+k=m:=⟨_,rfl⟩;have u:(a:Int)+1+I n.M+k=m:=Z0;have w:=Zy (m:Int) Z0 Z0;rw[B]at g f⊢;generalize W:(pre++l.drop m).map vu=LL at g f⊢;rw[G];obtain⟨y,hy⟩:=g;simp[o,M,Yl M,H,a1,a3,u,w,hy,f,L];rw[<-C];simp;have:k=I n.data:=Z0;subst this;rw[show n.data.take (I n.data)=n.data from ZiM];have K:=Fh (h:=b.h) (n:=p.part) (l:=sp++n.data++l.drop (a+1+I n.M+I n.data));have N:Sn b p a n tw=sp++n.data++l.drop (a+1+I n.M+I n.data):=by
  unfold Sn;rw[Y,X];dsimp only;rw[S,show a+ZK n=a+1+I n.M+(I n.data) by unfold ZK;omega]
 rw[N];generalize sp++n.data++l.drop (a+1+I n.M+I n.data)=fin at*;simp;refine Zz K (by simp[ZD]) ?_;simp[Xg]
end Vm
namespace Vm
open Go Go.Proofs
def QS(h:Hp):Prop:=(∀k,∀w∈Zx h k,ZC w)/\∀w∈h.E,ZC w
structure BOk (b:Bt):Prop where
 bb:(Zv b.h).aw
 hl:I b.ax=I b.g.nodes
 ol:I b.ah=I b.g.nodes
 nn:I b.g.nodes<=10
 ptr:∀n∈b.g.nodes,∀q∈n.M,q< (I b.g.nodes:Int)
 tx:∀n∈b.g.nodes,∀q∈n.data,ZC q
 um:∀q∈b.g.E,q< (I b.g.nodes:Int)
 rl:I b.g.E<=5
 ax:∀(i:Nat) (p:Pl) (n:Nd),b.ax[i]?=J p->b.g.nodes[i]?=J n->p=⟨0,0⟩\/∃a:Nat,p.aa=a/\(p.part=1\/p.part=2)/\a+ZK n<=I (Zx b.h p.part)
 ah:∀(i:Nat) (p:Pl) (n:Nd),b.ah[i]?=J p->b.g.nodes[i]?=J n->p=⟨0,0⟩\/∃a:Nat,p.aa=a/\(p.part=3\/p.part=4)/\a+ZK n<=I (Zx b.h p.part)
 len:∀k,I (Zx b.h k)<=1000
 words:QS b.h
theorem qK{h h'}(a:Zv h'=Zv h)k:I (Zx h' k)=I (Zx h k):=by
 grind [Zv,Zx]
def BOk.keep{b}(hb:BOk b){h'}(hl:Zv h'=Zv b.h)(hw:QS h'):BOk {b with h:=h'} where
 bb:=by show(Zv h').aw;rw[hl];exact hb.bb
 hl:=hb.hl
 ol:=hb.ol
 nn:=hb.nn
 ptr:=hb.ptr
 tx:=hb.tx
 um:=hb.um
 rl:=hb.rl
 ax:=λi p n hp hn=>by
  obtain h|⟨a,h1,h2,h3⟩:=hb.ax i p n hp hn;grind;grind [qK]
 ah:=λi p n hp hn=>by
  obtain h|⟨a,h1,h2,h3⟩:=hb.ah i p n hp hn;grind;grind [qK]
 len:=λk=>by show I (Zx h' k)<=1000;rw[qK hl];exact hb.len k
 words:=hw
def Ea{h p l}(d:I l=I (Zx h p)):Zv (Xk h p l)=Zv h:=by
 unfold Xk Zx at*;split;simp_all[Zv];split;simp_all[Zv];rename_i a;split;simp_all[Zv];simp_all[Zv]
def Zbd{h p l}(a:QS h)(k:∀w∈l,ZC w):QS<|Xk h p l:=by
 have d:=a.1 1;have f:=a.1 2;have g:=a.1 3;have j:=a.1 4;grind [QS,Zx,Xk]
def Z5I{b p a n tw}(d:a+ZK n<=I (Zx b.h p.part)):I (Sn b p a n tw)=I (Zx b.h p.part):=by
 grind [Sn,ZK,XO]
def Z5J{b p a n tw}(f:QS b.h)(g:∀q∈n.data,ZC q):∀w∈Sn b p a n tw,ZC w:=by
 intro w d;unfold Sn at d;simp only[Zht,Zi7]at d;obtain(((d|d)|d)|d)|d:=d;exact f.1 _ w<|Zi1 d;subst d;have:=NF ((I n.M:Int)+I n.data)<|I n.M;exact⟨this.1,Z0⟩;simp[XO]at d;grind [Zae];grind;exact f.1 _ w<|Zjf d
def Uv(x:Rw)(b:Bt)(i:Nat)(n:Nd)(p:Pl):Bt:=if 0<p.part then Wj b p n (IntKind.i64.wrap<|x.be+i)else b
def Ux(b:Bt)(n:Nd)(p o:Pl):Bt:=if 0<o.part/\p.part=0 then Wj b o n 0 else b
def Ud(b:Bt)(p o:Pl):Bt:=if 0<o.part/\0<p.part then {b with h:=Xk b.h o.part ((Zx b.h o.part).set o.aa.toNat<|YJ b.h p)}else b
def Jf(x:Rw)(b:Bt)(i:Nat):Bt:=
 let n:=(b.g.nodes[i]?).getD default;let p:=(b.ax[i]?).getD ⟨0,0⟩;let o:=(b.ah[i]?).getD ⟨0,0⟩
 Ud (Ux (Uv x b i n p) n p o) p o
structure Like (b b':Bt):Prop where
 g:b'.g=b.g
 ax:b'.ax=b.ax
 ah:b'.ah=b.ah
 bb:Zv b'.h=Zv b.h
 words:QS b'.h
 Z:b'.h.Z=b.h.Z
 Y:b'.h.Y=b.h.Y
def Like.ok{b a}(o:Like b a)(n:BOk b):BOk a:=by
 let⟨q,p,d,f⟩:=a;obtain⟨g,h,j,k,l,_⟩:=o;subst g h j;exact n.keep k l
theorem Like.trans{a b c}(h:Like a b)(k:Like b c):Like a c:=⟨k.g.trans h.g,k.ax.trans h.ax,k.ah.trans h.ah,k.bb.trans h.bb,k.words,k.Z.trans h.Z,k.Y.trans h.Y⟩
def Z07 h p l:(Xk h p l).Z=h.Z/\(Xk h p l).Y=h.Y:=by
 unfold Xk;grind
def IC{b}(a:BOk b){p l}(d:I l=I (Zx b.h p))(f:∀w∈l,ZC w):Like b {b with h:=Xk b.h p l}:=
 ⟨rfl,rfl,rfl,Ea d,Zbd a.words f,(Z07 _ _ _).1,(Z07 _ _ _).2⟩
def yR{b}(a:BOk b):Like b b:=⟨rfl,rfl,rfl,rfl,a.words,rfl,rfl⟩
def IB{b}(d:BOk b){p:Pl}{n tw}{a:Nat}(f:p.aa=a)(g:a+ZK n<=I (Zx b.h p.part))(j:∀q∈n.data,ZC q):Like b<|Wj b p n tw:=by
 unfold Wj;rw[f];exact IC d (Z5I g)<|Z5J d.words j
def Bu{x b}(d:BOk b){i n p}(k:b.g.nodes[i]?=J n)(l:b.ax[i]?=J p):Like b<|Uv x b i n p:=by
 unfold Uv;split;rename_i f;obtain rfl|⟨a,h,o,j⟩:=d.ax i p n l k;simp at f;exact IB d h j<|d.tx n ZfZ;exact yR d
def Bv{b}(d:BOk b){i:Nat}{n p o}(k:b.g.nodes[i]?=J n)(l:b.ah[i]?=J o):Like b<|Ux b n p o:=by
 unfold Ux;split;rename_i f;obtain rfl|⟨a,h,q,j⟩:=d.ah i o n l k;simp at f;exact IB d h j<|d.tx n ZfZ;exact yR d
def Z5N{b}(a:BOk b){p o}:Like b<|Ud b p o:=by
 unfold Ud;split;refine IC a Z1 λw d=> ?_;obtain h|rfl:=Ziw d;exact a.words.1 _ w h;exact D6 _ _;exact yR a
def Z5O{x b}(a:BOk b){i}(f:i<I b.g.nodes):Like b<|Jf x b i:=by
 have h:b.g.nodes[i]?=J b.g.nodes[i]:=Z1;have l:b.ax[i]?=J (b.ax[i]'(by rw[a.hl];exact f)):=Z1;have k:b.ah[i]?=J (b.ah[i]'(by rw[a.ol];exact f)):=Z1;unfold Jf;simp[h,l,k];have d:=Bu (x:=x) a h l;have j:=Bv (p:=b.ax[i]'(by rw[a.hl];exact f)) (d.ok a) (by rw[d.g];exact h) (by rw[d.ah];exact k);exact(d.trans j).trans (Z5N<|j.ok<|d.ok a)
def Uw(x:Rw)(b:Bt):Nat->Bt
 |0=>b
 |i+1=>Jf x (Uw x b i) i
def L2{x b}(a:BOk b):∀i,i<=I b.g.nodes->Like b (Uw x b i)
 |0,_=>yR a
 |i+1,d=>by
  have h:=L2 (x:=x) a i Z0;exact h.trans<|Z5O (h.ok a) (by rw[h.g];omega)
def Yy(x:Rw)(b:Bt):Hp:=
 let a:=Uw x b<|I b.g.nodes
 {a.h with E:=b.g.E.map λr=>if 0<=r then YJ a.h ((b.ax[r.toNat]?).getD ⟨0,0⟩)else 0}
def GG{x:Rw}(hx:x.ok){b:Bt}(H:BOk b):VC xP 16 xw [Xg b,Wq x]<|ZD<|Yy x b:=by
 refine ZQ Z1g follows Z2 c16 rfl ?_;simp[MT,Xx];refine VL 5 (I b.g.nodes) (λi=>[(2,.m<|Xx<|Uw x b i),(5,.v<|vi i)]) (λ_=>True) (by simp[Uw,Xx]) (λi=>Z1) trivial ?_;rintro i hi-;have F:=L2 (x:=x) H i hi;have L:=Zy ((i:Int)+1) (by have:=H.nn;omega) (by have:=H.nn;omega);by_cases h:i<I b.g.nodes;have f:=F.ok H;simp only[Uw];have z:i< (Uw x b i).g.nodes.length:=by rw[F.g];exact h
 generalize a4:Uw x b i=c at*;have t:c.g.nodes[i]?=J c.g.nodes[i]:=ZgY z;have y:c.ax[i]?=J (c.ax[i]'(by rw[f.hl];exact z)):=ZgY _;have w:c.ah[i]?=J (c.ah[i]'(by rw[f.ol];exact z)):=ZgY _;unfold Jf;simp only[t,y,w,Zhw];generalize c.g.nodes[i]=n at*;generalize c.ax[i]'(by rw[f.hl];exact z)=p at*;generalize c.ah[i]'(by rw[f.ol];exact z)=o at*;have W:∀q∈n.M,q< (I c.ax:Int)/\q< (I c.ah:Int):=λq X=>by
  have:=f.ptr n (Zha t) q X;rw[f.hl,f.ol];exact⟨this,this⟩
 have kA:=Bu (x:=x) f t y;have bA:=kA.ok f;have kO:=Bv (p:=p) bA (by rw[kA.g];exact t) (by rw[kA.ah];exact w);have bO:=kO.ok bA;have K:I c.g.nodes=I b.g.nodes:=by rw[F.g]
 have a6:c.g=b.g:=F.g;have S:0<p.part->VC xP 32 xw [Xg c,Wc p,Yk n,vi<|IntKind.i64.wrap<|x.be+i] (Xg<|Wj c p n<|IntKind.i64.wrap<|x.be+i):=λP=>by
  obtain rfl|⟨a,M,h2,N⟩:=f.ax i p n y t;simp at P;exact Is f.bb M (by have:=f.len p.part;omega) N W
 have O:0<o.part->VC xP 32 xw [Xg c,Wc o,Yk n,vi 0] (Xg<|Wj c o n 0):=λP=>by
  obtain rfl|⟨a,M,h2,N⟩:=f.ah i o n w t;simp at P;exact Is f.bb M (by have:=f.len o.part;omega) N W
 have a2:p.part=0\/0<p.part:=by
  obtain rfl|⟨a,M,h2,N⟩:=f.ax i p n y t;exact .inl rfl;exact .inr Z0
 have T:o.part=0\/0<o.part:=by
  obtain rfl|⟨a,M,h2,N⟩:=f.ah i o n w t;exact .inl rfl;exact .inr Z0
 obtain u|u:=a2;obtain j|j:=T;simp[Xx,h,z,K,t,y,w,Yl t,Yl y,Yl w,Uv,Ux,Ud,u,j,L];have a7:¬0<p.part:=Z0;have A:Like c<|Wj c o n 0:=by
  have:=Bv (p:=p) f t w;unfold Ux at this;rwa[Zhc ⟨j,u⟩]at this
 have a1:=O j;simp[Xx,h,z,K,t,y,w,Yl t,Yl y,Yl w,Uv,Ux,Ud,u,j,L];generalize Wj c o n 0=d at*;obtain⟨d1,d2,d3,d4,d5,_,_⟩:=A;refine Zz a1 (by simp[Xg]) ?_;simp[Xx,d1,d2,d3,t,y,w,Yl t,Yl y,Yl w,u,j,L,h];have C:¬p.part=0:=Z0;have A:Like c<|Wj c p n<|IntKind.i64.wrap<|x.be+i:=by
  have:=Bu (x:=x) f t y;unfold Uv at this;rwa[Zhc u]at this
 have R:=S u;have Z:=A.ok f;obtain j|j:=T;simp[Xx,h,z,K,t,y,w,Yl t,Yl y,Yl w,Uv,Ux,Ud,u,j,C,L];generalize Wj c p n (IntKind.i64.wrap<|x.be+i)=d at*;obtain⟨d1,d2,d3,d4,d5,_,_⟩:=A;refine Zz R (by simp[Xg]) ?_;simp[Xx,d1,d2,d3,t,y,w,Yl t,Yl y,Yl w,u,j,C,L,h];simp[Xx,h,z,K,t,y,w,Yl t,Yl y,Yl w,Uv,Ux,Ud,u,j,C,L];generalize Wj c p n (IntKind.i64.wrap<|x.be+i)=d at*;obtain⟨d1,d2,d3,d4,d5,_,_⟩:=A;refine Zz R (by simp[Xg]) ?_;simp[Xx,d1,d2,d3,t,y,w,Yl t,Yl y,Yl w,u,j,C,L,h];obtain rfl|⟨a,M,h2,N⟩:=f.ah i o n w t;simp at j;have a5:=Z.len o.part;have B:I (Zx d.h o.part)<=Y3:=Zgt;have a0:a< I (Zx d.h o.part):=by
  have:=qK d4 o.part;unfold ZK at N;omega
 refine Zz (EA (h:=d.h) (n:=o.part)) (by simp[ZD]) ?_;simp[B,y];refine Zz (LE (b:=⟨d.h,c.g,c.ax,c.ah⟩) Z.bb (p:=p)) Z1 ?_;simp[M,a0,w,Yl w];have G:=Fh (h:=d.h) (n:=o.part) (l:=(Zx d.h o.part).set a<|YJ d.h p);rw[ZjL]at G;refine Zz G (by simp[ZD]) ?_;simp[L,h,d1,d2,d3];have:i=I b.g.nodes:=Z0;subst this;have Z:=F.ok H;unfold Yy;generalize Uw x b (I b.g.nodes)=d at*;obtain⟨d1,d2,d3,d4,d5,_,_⟩:=F;simp[Xx,d1,d2,d3];refine VL 13 (I b.g.E) (λk=>[(12,.v<|.sl ((b.g.E.take k).map λr=>vu (if 0<=r then YJ d.h ((b.ax[r.toNat]?).getD ⟨0,0⟩)else 0))),(13,.v<|vi k)]) (λ_=>True) Z1 (λi=>Z1) trivial ?_;rintro k hk-;have a8:=H.rl;have Y:=Zy ((k:Int)+1) Z0 Z0;by_cases D:k<I b.g.E;have Q:b.g.E[k]?=J b.g.E[k]:=ZgY D;have a9:=H.um _<|Zhm D;generalize b.g.E[k]=r at*;have a3:b.g.E.take (k+1)=b.g.E.take k++[r]:=by rw[ZhX,Q];rfl
 have B:min k (I b.g.E)+1<=Y3:=Zgt;by_cases P:0<=r;obtain⟨q,rfl⟩:=Zhf P;have X:b.ax[q]?=J (b.ax[q]'(by rw[H.hl];omega)):=ZgY _;generalize b.ax[q]'(by rw[H.hl];omega)=p at*;simp[D,Q,Yl Q,X,Yl X];refine Zz (LE (b:=⟨d.h,b.g,b.ax,b.ah⟩) Z.bb (p:=p)) Z1 ?_;simp[Y,B,D];rw[ZhX,Zhq,Q];simp[X];simp[D,Q,Yl Q,P,Y,B,a3,D];have:k=I b.g.E:=Z0;subst this;simp[ZD]
end Vm
namespace Vm
open Go Go.Proofs
def PIn(s:St8)(p:Pl)(sz:Nat):Prop:=p=⟨0,0⟩\/∃a:Nat,p.aa=a/\((p.part=1/\a+sz<=s.n1)\/(p.part=2/\a+sz<=s.n2))
def POl(s:St8)(p:Pl)(sz:Nat):Prop:=p=⟨0,0⟩\/∃a:Nat,p.aa=a/\((p.part=3/\a+sz<=s.n3)\/(p.part=4/\a+sz<=s.n4))
def Zat{x cycle sz i s}:s.n1<=(X6 x cycle sz i s).n1/\s.n2<=(X6 x cycle sz i s).n2/\s.n3<=(X6 x cycle sz i s).n3/\s.n4<=(X6 x cycle sz i s).n4:=by
 grind [X6]
def PIn.mono{s t p sz}(h:PIn s p sz)(g:s.n1<=t.n1)(h2:s.n2<=t.n2):PIn t p sz:=by
 obtain h|⟨a,d,⟨f,h⟩|⟨f,h⟩⟩:=h;exact .inl h;exact .inr ⟨a,d,Z0⟩;exact .inr ⟨a,d,Z0⟩
def POl.mono{s t p sz}(h:POl s p sz)(g:s.n3<=t.n3)(h2:s.n4<=t.n4):POl t p sz:=by
 obtain h|⟨a,d,⟨f,h⟩|⟨f,h⟩⟩:=h;exact .inl h;exact .inr ⟨a,d,Z0⟩;exact .inr ⟨a,d,Z0⟩
def Pu{x cycle g}(h:∀n∈g.nodes,ZK n<=9):∀i,i<=I g.nodes->∀(j:Nat) n,g.nodes[j]?=J n->
  (∀p,(Y4 x cycle g i).ax[j]?=J p->PIn (Y4 x cycle g i) p (ZK n))/\(∀p,(Y4 x cycle g i).ah[j]?=J p->POl (Y4 x cycle g i) p (ZK n))
 |0,_,j,n,l=>⟨λp a=>by simp[Y4]at a,λp a=>by simp[Y4]at a⟩
 |i+1,C,j,n,l=>by
  let⟨o,q⟩:=Pu (x:=x) (cycle:=cycle) h i Z0 j n l;let⟨_,_,u,w⟩:=z5 (x:=x) (cycle:=cycle) h i Z0;have f:g.nodes[i]?=J g.nodes[i]:=Z1;simp[Y4,f,Zhw];generalize Y4 x cycle g i=s at*;let⟨y,z,A,B⟩:=Zat (x:=x) (cycle:=cycle) (sz:=ZK g.nodes[i]) (i:=i) (s:=s);have t:j<I g.nodes:=ZfZ;constructor;intro p a;by_cases r:j<i;have:s.ax[j]?=J p:=by
   simp[X6]at a;rwa[Zhz Z0]at a
  exact(o p this).mono y z;by_cases d:j=i;subst d;simp[X6]at a;rw[Zhp Z0,u,ZiT]at a;simp[ZgX]at a;unfold PIn;obtain k|k|⟨k,rfl⟩:=R5 x j cycle;grind [X6];grind [X6];simp_all;grind [X6,List.getElem?_eq_some_iff];intro p a;by_cases r:j<i;have:s.ah[j]?=J p:=by
   simp[X6]at a;rwa[Zhz Z0]at a
  exact(q p this).mono A B;by_cases d:j=i;subst d;simp[X6]at a;rw[Zhp Z0,w,ZiT]at a;grind [List.getElem?_cons_zero,Option.some.injEq,POl,decide,V3,Ww,X6];grind [X6,List.getElem?_eq_some_iff]
def IY l a:∀n∈(ZW l a).nodes,∀q∈n.M,-1<=q/\q< ((ZW l a).nodes.length:Int):=by
 intro n d q f;rw[qa];simp only[ZW,Zhl]at d;obtain⟨y,_,rfl⟩:=d;simp only[Tc,Zhl]at f;obtain⟨p,_,rfl⟩:=f;exact OL
def Z6n l a:∀q∈(ZW l a).E,-1<=q/\q< ((ZW l a).nodes.length:Int):=by
 intro q d;rw[qa];simp only[ZW]at d;split at d;grind;simp only[Zhl]at d;obtain⟨p,_,rfl⟩:=d;exact OL
def Z6l l a(f:∀n∈l,∀q∈n.data,ZC q):∀n∈(ZW l a).nodes,∀q∈n.data,ZC q:=by
 intro n d q g;simp only[ZW]at d;grind [Tc,List.mem_of_mem_take]
def z7{x}(hx:x.ok)cycle:BOk (Yz x cycle)/\Yq (Yz x cycle).h.Z/\ZI (Zv (Yz x cycle).h)=xk:=by
 let⟨w,u,y⟩:=BN x.nodes x.E;have z:=qa x.nodes x.E;have L:=IY x.nodes x.E;have M:=Z6n x.nodes x.E;have A:=Z6l x.nodes x.E hx.data;unfold Yz;generalize ZW x.nodes x.E=g at*;have t:∀n∈g.nodes,ZK n<=9:=λn K=>by grind [ZK]
 let⟨N,O,D,F⟩:=z5 (x:=x) (cycle:=cycle) t (I g.nodes) Z0;have r:=Pu (x:=x) (cycle:=cycle) t (I g.nodes) Z0;dsimp only;generalize Y4 x cycle g (I g.nodes)=s at*;have B:=Th (c:=x.be) (n:=12) Z0;have C:=Th (c:=x.to) (n:=2) Z0;obtain⟨cap,q⟩:∃cap,max ((s.n1:Int)+s.n2+s.wt) ((s.n3:Int)+s.n4)+pick x.be 12=cap:=⟨_,rfl⟩;rw[q];have G:=ZkZ x.base (Z0:(9223372036854775808-2*cap)≠0);have H:=Zkz x.base (Z0:0< (9223372036854775808-2*cap));generalize x.base% (9223372036854775808-2*cap)=base at*;have l:Yq (if cycle=xk/\0<s.n1 then pick x.Z s.n1 else s.n1):=by
  split;rename_i h;have:=Th (c:=x.Z) (n:=s.n1) Z0;exact⟨Z0,Z0⟩;exact⟨Z0,Z0⟩
 refine⟨⟨?_,?_,?_,?_,?_,?_,?_,?_,?_,?_,?_,?_⟩,l,?_⟩;refine⟨⟨?_,?_⟩,⟨?_,?_⟩,⟨?_,?_⟩,⟨?_,?_⟩,⟨?_,?_⟩,⟨?_,?_⟩,⟨?_,?_⟩⟩<;>simp[Zv]<;>omega;exact D;exact F;simp_all;grind;exact A;simp_all;exact u;intro i p n j f;rcases(r i n f).1 p j with h|⟨a,o,⟨d,h⟩|⟨d,h⟩⟩;grind;exact .inr ⟨a,o,.inl d,Zg0⟩;exact .inr ⟨a,o,.inr d,Zg0⟩;intro i p n j f;rcases(r i n f).2 p j with h|⟨a,o,⟨d,h⟩|⟨d,h⟩⟩;grind;exact .inr ⟨a,o,.inl d,Zg0⟩;exact .inr ⟨a,o,.inr d,Zg0⟩;grind [Zx];refine⟨λk=> ?_,Z1⟩;grind [List.replicate,ZC,Zx];refine XN.2 ?_;simp[Zv,Zl2];omega
def DL(x:Rw):Hp:=Yy x<|Yz x xw
def T9(x:Rw):Hp:=if(Yz x xk).h.H.length=0 then DL x else Yy x<|Yz x xk
def Z2a{x:Rw}(hx:x.ok):VC xP 15 xw [Wq x]<|ZD<|DL x:=by
 refine ZQ Z1f follows Z2 Q2 rfl ?_;simp[MR];refine Zz (Pw hx (cycle:=xw)) (by simp[Wq]) ?_;simp;refine Zz (GG hx (z7 hx xw).1) Z1 ?_;simp;rfl
def Z0T{x:Rw}(hx:x.ok):VC xP 7 xw [Wq x]<|ZD<|T9 x:=by
 refine ZQ Z1I follows Z2 c7 rfl ?_;simp[p7];refine Zz (Pw hx (cycle:=xk)) (by simp[Wq]) ?_;unfold T9;by_cases a:(Yz x xk).h.H.length=0;simp[Xx,a];refine Zz (Z2a hx) Z1 ?_;simp;rfl;simp[Xx,a];refine Zz (GG hx (z7 hx xk).1) Z1 ?_;simp;rfl
def GD{x b}(k:BOk b)(q:Yq b.h.Z):(Yy x b).ok/\Zv (Yy x b)=Zv b.h/\(Yy x b).Z=b.h.Z/\(Yy x b).Y=b.h.Y:=by
 have f:=L2 (x:=x) k (I b.g.nodes) Z0;have n:=f.ok k;unfold Yy;let⟨j,A,B,C,D,F,G,H,K,o,a,d⟩:=n;have t:=a 1;have u:=a 2;have y:=a 3;have z:=a 4;have w1:=d.1 1;have w2:=d.1 2;have w3:=d.1 3;have w4:=d.1 4;simp[Vl,qI,NH,qJ]at t u y z w1 w2 w3 w4;have p:=k.rl;refine⟨⟨j.1,j.2.1,j.2.2.1,by rw[f.Z];exact q,?_,?_,?_,?_,?_,w1,w2,w3,w4,?_⟩,f.bb,f.Z,f.Y⟩;grind;grind;grind;grind;simp;omega;intro w l;simp[Zhl]at l;obtain⟨r,_,rfl⟩:=l;split;exact D6 _ _;exact⟨Z0,Z0⟩
end Vm
end
section

end
section
namespace Vm
open Go Go.Proofs
structure Ob where
 aa:Int
 size:Int
 M:Int
 gone:Bool
 target:Int
 deriving DecidableEq,Inhabited
def ZN(o:Ob):V:=.agg [vi o.aa,vi o.size,vi o.M,.bool o.gone,vu o.target]
@[simp]theorem Zft(o:Ob):VI (ZN o) 5=J (ZN o):=rfl
@[simp]theorem ZdT(o:Ob):UA (ZN o) 0 5=J (ZN o):=rfl
@[simp]theorem Zes(o:Ob):(ZN o).cells=[vi o.aa,vi o.size,vi o.M,.bool o.gone,vu o.target]:=rfl
@[simp]theorem Zdx(o:Ob):ZZ (ZN o) 0=J (vi o.aa):=rfl
@[simp]theorem Zdy(o:Ob):ZZ (ZN o) 1=J (vi o.size):=rfl
@[simp]theorem Zdz(o:Ob):ZZ (ZN o) 2=J (vi o.M):=rfl
@[simp]theorem ZdA(o:Ob):ZZ (ZN o) 3=J (.bool o.gone):=rfl
@[simp]theorem ZdB(o:Ob):ZZ (ZN o) 4=J (vu o.target):=rfl
@[simp]theorem ZdU(o:Ob):UA (ZN o) 1 2=J (WY o.size o.M):=rfl
abbrev Zi:=List Ob
@[simp]theorem Zff(l:Zi):Xv 5 (l.map ZN)=xk:=K1 λ_=>rfl
def Wd(s:Int×Int):V:=WY s.1 s.2
@[simp]theorem Zfa(s:Int×Int):(Wd s).cells=[vi s.1,vi s.2]:=rfl
@[simp]theorem Zfw(s:Int×Int):VI (Wd s) 2=J (Wd s):=rfl
@[simp]theorem ZdW(s:Int×Int):UA (Wd s) 0 2=J (Wd s):=rfl
@[simp]theorem ZdL(s:Int×Int):ZZ (Wd s) 0=J (vi s.1):=rfl
@[simp]theorem ZdM(s:Int×Int):ZZ (Wd s) 1=J (vi s.2):=rfl
@[simp]theorem Zfh(l:List<|Int×Int):Xv 2 (l.map Wd)=xk:=K1 λ_=>rfl
def VX(w:Int):Bool:=decide (w=0)||decide ((adr w).2=0)
def XP(l:Z8)(gone:Bool)(ptrs:Int)(i:Nat):Bool:=
 match l with
 | []=>xk
 |w::l=>(!gone||decide (w=0))&&(!decide ((i:Int)<ptrs)||VX w)&&XP l gone ptrs (i+1)
def Zai{l:Z8}{gone:Bool}{ptrs:Int}{i:Nat}{w:Int}(h:l[i]?=J w):XP (l.drop i) gone ptrs i=((!gone||decide (w=0))&&(!decide ((i:Int)<ptrs)||VX w)&&XP (l.drop<|i+1) gone ptrs (i+1)):=by
 obtain⟨a,d⟩:=ZgZ.1 h;rw[ZhV a,d];rfl
def Wk(shs:List<|Int×Int)(old:Bool)(at_ a:Nat)(w:Int):Option<|Ob×Nat:=
 if old=xk/\(adr w).2=0 then
  match shs[a]? with
  |none=>U
  |some s=>if YC s.1 s.2 then J (⟨at_,s.1,s.2,xk,(adr w).1⟩,a+1)else U
 else if(ZR w).2.2=0 then J (⟨at_,(ZR w).1,(ZR w).2.1,xw,0⟩,a)else U
def DT{w:Int}(h:(ZR w).2.2=0):YC (ZR w).1 (ZR w).2.1=xk:=by
 unfold ZR at*;grind
def qo{shs:List (Int×Int)}{old:Bool}{at_ d:Nat}{w:Int}{o:Ob}{t:Nat}(h:Wk shs old at_ d w=J (o,t)):YC o.size o.M=xk/\o.aa=at_:=by
 unfold Wk at h;split at h;grind;split at h;rename_i a;cases h;exact⟨DT a,rfl⟩;cases h
def Xp(ws:Z8)(shs:List<|Int×Int)(old:Bool):Nat->Nat->Nat->List Ob->List Ob×Int
 |0,_,_,_=>([],3)
 |f+1,at_,d,a=>
  match ws[at_]? with
  |none=>if d<(I shs) then([],3)else(a,0)
  |some w=>match Wk shs old at_ d w with
   |none=>([],3)
   |some (o,t)=>
    if(I ws:Int)<at_+1+o.size then([],2)
    else if XP ((ws.drop<|at_+1).take o.size.toNat) o.gone o.M 0=xw then([],3)
    else Xp ws shs old f (at_+1+o.size.toNat) t<|a++[o]
def ZO(ws:Z8)(shs:List<|Int×Int)(old:Bool):List Ob×Int:=Xp ws shs old (I ws+1) 0 0 []
def QZ(n:Nat)(o:Ob):Prop:=(∃a:Nat,o.aa=a/\(a:Int)+1+o.size<=n)/\YC o.size o.M=xk
def Z6T{shs:List (Int×Int)}{old:Bool}{at_ d:Nat}{w:Int}{o:Ob}{t:Nat}(a:ZC w)(h:Wk shs old at_ d w=J (o,t)):ZC o.target:=by
 unfold Wk at h;split at h;split at h;cases h;split at h;cases h;obtain⟨f,g⟩:=a;show 0<=(adr w).1/\(adr w).1<18446744073709551616;grind [adr];cases h;split at h;cases h;show(0:Int)<=0/\(0:Int)<18446744073709551616;omega;cases h
def Z00{ws:Z8}{shs:List (Int×Int)}{old:Bool}(k:∀w∈ws,ZC w):∀(f at_ l:Nat) (d:Zi),(∀o∈d,QZ (I ws) o/\ZC o.target)->∀o∈(Xp ws shs old f at_ l d).1,QZ (I ws) o/\ZC o.target
 |0,_,_,_,_=>by simp[Xp]
 |f+1,at_,l,d,a=>by
  simp only[Xp];split;split;simp;exact a;rename_i w q;split;simp;rename_i o t j;split;simp;rename_i u;split;simp;refine Z00 k f _ _ _ λr g=> ?_;obtain h|h:=Zht.1 g;exact a r h;simp only[Zi7]at h;subst h;obtain⟨n,p⟩:=qo j;exact⟨⟨⟨at_,p,Z0⟩,n⟩,Z6T (k w<|Zha q) j⟩
def K9{ws:Z8}{shs:List (Int×Int)}{old:Bool}(a:∀w∈ws,ZC w):∀o∈(ZO ws shs old).1,QZ (I ws) o/\ZC o.target:=Z00 a _ _ _ _ Z1
def Z01{ws:Z8}{shs:List (Int×Int)}{old:Bool}:∀(f at_ g:Nat) (a:Zi),at_<=I ws->I a<=at_->(Xp ws shs old f at_ g a).1.length<=I ws
 |0,_,_,_,_,_=>by simp[Xp]
 |f+1,at_,g,a,k,d=>by
  simp only[Xp];split;split;simp;simp only;omega;split;simp;rename_i o t h;split;simp;rename_i l;split;simp;have j:=YD.1 (qo h).1;refine Z01 f _ _ _ Z0 Zg1
def Ka{ws:Z8}{shs:List (Int×Int)}{old:Bool}:(ZO ws shs old).1.length<=I ws:=Z01 _ _ _ _ Z0 Z1
end Vm
end
section

end
section
namespace Vm
open Go Go.Proofs
def YX(h:Hp)(part at_:Int):Int:=(Y1 (Zv h) part at_).1
def YG(h:Hp)(part:Int)(l:Zi)(a:Int):Option Ob:=l.find? λo=>YX h part o.aa==a
theorem FJ{h:Hp}{part a:Int}{l:Zi}{o:Ob}(d:YG h part l a=J o):o∈l:=ZjG d
def V9(h:Hp)(ws:Z8)(low:Zi):Nat->Nat->List (Int×Int)->Option (List<|Int×Int)
 |0,_,_=>U
 |f+1,i,a=>
  match ws[i]? with
  |none=>J a
  |some w=>if(adr w).2=0 then(match YG h 1 low (adr w).1 with|none=>U|some o=>V9 h ws low f (i+1+o.size.toNat)<|a++[(o.size,o.M)])
   else if(ZR w).2.2=0 then V9 h ws low f (i+1+(ZR w).1.toNat) a else U
def VG(h:Hp)(ws:Z8)(low:Zi):Option<|List<|Int×Int:=V9 h ws low (I ws+1) 0 []
structure Pts where
 H:List Ob
 ab:List Ob
 ah:List Ob
 ak:List Ob
 deriving Inhabited
def Pts.at(p:Pts)(k:Int):List Ob:=if k=1 then p.H else if k=2 then p.ab else if k=3 then p.ah else p.ak
@[simp]theorem Pts.mg(p:Pts):p.at 1=p.H:=rfl
@[simp]theorem Pts.tu(p:Pts):p.at 2=p.ab:=rfl
@[simp]theorem Pts.nu(p:Pts):p.at 3=p.ah:=rfl
@[simp]theorem Pts.nw(p:Pts):p.at 4=p.ak:=rfl
structure Pts.ok (p:Pts) (h:Hp):Prop where
 ob:∀k,∀o∈p.at k,QZ (I<|Zx h k) o/\ZC o.target
 len:∀k,I (p.at k)<=1000000
def Xm(h:Hp):Option Pts:=
 let low:=ZO h.H [] xw;let high:=ZO h.ab [] xw
 if low.2≠0\/high.2≠0 then U else
 let p:=VG h h.ah low.1;let q:=VG h h.ak low.1;let d:=ZO h.ah (p.getD []) xk;let a:=ZO h.ak (q.getD []) xk
 if p=U\/q=U\/d.2≠0\/a.2≠0 then U else J ⟨low.1,high.1,d.1,a.1⟩
def Z7C{h:Hp}(a:h.ok){p:Pts}(f:Xm h=J p):p.ok h:=by
 unfold Xm at f;dsimp only at f;split at f;cases f;split at f;cases f;cases f;refine⟨λk o d=> ?_,λk=> ?_⟩;unfold Pts.at at d;unfold Zx;split at d;rename_i e;rw[Zhc e];exact K9 a.gg o d;rename_i g;rw[Zh9 g];split at d;rename_i e;rw[Zhc e];exact K9 a.gj o d;rename_i j;rw[Zh9 j];split at d;rename_i e;rw[Zhc e];exact K9 a.kr o d;rename_i e;rw[Zh9 e];exact K9 a.kg o d;unfold Pts.at;split;exact Zhu Ka a.H;split;exact Zhu Ka a.ab;split;exact Zhu Ka a.ah;exact Zhu Ka a.ak
def Xz(h:Hp)(p:Pts)(w one a:Int):Bool:=decide (w=0)||(decide ((adr w).2=0)&&((YG h one (p.at one) (adr w).1).isSome||(YG h a (p.at a) (adr w).1).isSome))
def V2(o:Ob):Nat:=if o.gone then 0 else 1+o.size.toNat
def Yu(l:Zi):Nat:=(l.map V2).sum
def Z0l{l:Zi}{i:Nat}{o:Ob}(h:l[i]?=J o):Yu (l.take<|i+1)=Yu (l.take i)+V2 o:=by
 simp_all[Yu,ZhX,Zig,Zl5]
def RS{l:Zi}(h:∀o∈l,YC o.size o.M=xk):Yu l<=256*I l:=by
 induction l with
 |nil=>simp[Yu]
 |cons o l a=>
  grind [YD,V2,Yu,List.length_cons]
def YF(p:Pts):Nat:=Yu p.ah+Yu p.ak
def XF(l:Zi)(a:Int):Nat:=I (l.filter λo=>o.gone&&decide (o.target=a))
def Tp(p:Pts)(a:Int):Nat:=XF p.ah a+XF p.ak a
def TP(h:Hp):Bool:=
 ZI (Zv h)&&decide (I h.E<=16)&&decide (0<=h.Z)&&decide (h.Z<=I h.H)&&
  (if h.Y then decide (h.Z<I h.H)else decide (h.Z=I h.H)&&decide (I h.ah=0)&&decide (I h.ak=0))
def Um(h:Hp)(p:Pts)(part:Int)(k:Nat):Bool:=
 let w:=((Zx h part)[k]?).getD 0;let a:=Xz h p w 1 2;let from_:=Xz h p w 3 4
 if 2<part then from_ else if part=1/\h.Z<=k then a||from_ else a
def qn(h:Hp)(p:Pts)(part:Int)(o:Ob):Bool:=(List.range o.M.toNat).all λj=>Um h p part<|o.aa.toNat+1+j
def WE(h:Hp)(p:Pts)(part:Int):Bool:=(p.at part).all<|qn h p part
def Fq{α:Type}{q:α->Bool}{l:List α}{i:Nat}{x:α}(h:l[i]?=J x):(l.take<|i+1).all q=((l.take i).all q&&q x):=by
 rw[ZhX,h,List.all_append];simp
def Fp{α:Type}{q:α->Bool}{l:List α}{i:Nat}{x:α}(h:l[i]?=J x)(a:q x=xw):l.all q=xw:=by
 grind
def RI(h:Hp)(p:Pts)(o:Ob):Bool:=decide (Tp p (YX h 1 o.aa)=1)
def SF(h:Hp)(p:Pts):Bool:=
 (!h.Y||p.H.all (RI h p))&&h.E.all (λw=>Xz h p w 1 2)&&WE h p 1&&WE h p 2&&WE h p 3&&WE h p 4&&decide ((I h.H:Int)+I h.ab+YF p<=h.cap)
def Yw(h:Hp):Bool:=TP h&&match Xm h with
 |none=>xw
 |some p=>SF h p
def XM{h:Hp}(a:h.ok)(k:Int):(∀w∈Zx h k,ZC w)/\I (Zx h k)<=1000000:=by
 unfold Zx;split;exact⟨a.gg,a.H⟩;split;exact⟨a.gj,a.ab⟩;split;exact⟨a.kr,a.ah⟩;exact⟨a.kg,a.ak⟩
def Zb5{h:Hp}{p:Pts}(a:p.ok h):YF p<=512*1000000:=by
 have f:=RS (l:=p.at 3) λo d=>(a.ob 3 o d).1.2;have g:=RS (l:=p.at 4) λo d=>(a.ob 4 o d).1.2;have j:=a.len 3;have k:=a.len 4;grind [Pts.nu,Pts.nw,YF]
def Z9a{h:Hp}(a:Yw h=xk):∃p,Xm h=J p/\SF h p=xk/\TP h=xk:=by
 unfold Yw at a;grind
def UH(h:Hp)(part:Int):List Ob×Int:=if Yw h=xk/\1<=part/\part<=4 then(((Xm h).getD default).at part,0)else([],1)
def RM(h:Hp):Int:=if Yw h then YF ((Xm h).getD default)else 0
end Vm
end
section

end
section
namespace Vm
open Go Go.Proofs
def zB{w:Int}(a:ZC w):ZC (adr w).1:=by
 grind [ZC,adr]
def Z3B{l:Ly}{a:Int}(h:(Yf l a).2.2=0):ZI l=xk/\1<=(Yf l a).1/\(Yf l a).1<=4/\0<=(Yf l a).2.1/\(Yf l a).2.1<YR l (Yf l a).1/\a=fstL l (Yf l a).1+(Yf l a).2.1:=by
 unfold Yf at*;cases k:ZI l;grind;simp only[k]at h⊢;simp only[ZjO,Zi0]at h⊢;by_cases d:X2 l a 1=xk;rw[Zhc d];have:=Sm.1 d;grind;rw[Zh9 d]at h⊢;by_cases f:X2 l a 2=xk;rw[Zhc f];have:=Sm.1 f;grind;rw[Zh9 f]at h⊢;by_cases g:X2 l a 3=xk;rw[Zhc g];have:=Sm.1 g;grind;rw[Zh9 g]at h⊢;by_cases j:X2 l a 4=xk;rw[Zhc j];have:=Sm.1 j;grind;simp_all
theorem Tn{h:Hp}{k:Int}(a:1<=k/\k<=4):YR (Zv h) k=I (Zx h k):=by
 have:k=1\/k=2\/k=3\/k=4:=Z0;obtain rfl|rfl|rfl|rfl:=this<;>rfl
def Hp.zero:Hp:=⟨0,0,0,xw,0,[],[],[],[],[]⟩
def zr(ws:List Int)(a:Nat):Nat->List Int
 |0=>ws
 |i+1=>(zr ws a i).set (a+i) 0
@[simp]theorem jN(ws:List Int)(a n:Nat):I (zr ws a n)=I ws:=by
 induction n with
 |zero=>rfl
 |succ n d=>simp[zr,d]
def Xr(h:Hp)(part:Int)(a n:Nat):Hp:= {h with H:=h.H++((Zx h part).take<|a+n).drop a}
def Sh(h:Hp)(part:Int)(a n:Nat):Int×Hp×Int:=
 if I (Zx h part)<a+n then(0,Hp.zero,2)
 else if Xu (Zv h)<n then(0,Hp.zero,7)
 else
  let d:=(Xn (Y1 (Zv<|Xr h part a n) 1<|I h.H).1).1
  (d,Xk (Xr h part a n) part<|(zr (Zx h part) a n).set a d,0)
def Z2f{l:Ly}{k a:Int}:ZC (Y1 l k a).1:=by
 unfold Y1;cases d:ZI l;simp[ZC];simp only[ZjO,Zi0];split;simp[ZC];split;simp[ZC];have:=V5 d k;grind [ZC]
def O1{a:Int}:ZC (Xn a).1:=by
 grind [Xn,ZC]
def fwd(h:Hp)(w:Int):Int×Hp×Int:=
 if ZI (Zv h)=xw then(0,Hp.zero,1)
 else if w=0 then(0,h,0)
 else if(adr w).2≠0 then(0,Hp.zero,3)
 else if(Yf (Zv h) (adr w).1).2.2≠0 then(0,Hp.zero,6)
 else if(Yf (Zv h) (adr w).1).1<3 then(w,h,0)
 else if(adr<|(Zx h (Yf (Zv h) (adr w).1).1).getD (Yf (Zv h) (adr w).1).2.1.toNat 0).2=0 then((Zx h (Yf (Zv h) (adr w).1).1).getD (Yf (Zv h) (adr w).1).2.1.toNat 0,h,0)
 else if(ZR<|(Zx h (Yf (Zv h) (adr w).1).1).getD (Yf (Zv h) (adr w).1).2.1.toNat 0).2.2≠0 then(0,Hp.zero,3)
 else Sh h (Yf (Zv h) (adr w).1).1 (Yf (Zv h) (adr w).1).2.1.toNat<|(ZR<|(Zx h (Yf (Zv h) (adr w).1).1).getD (Yf (Zv h) (adr w).1).2.1.toNat 0).1.toNat+1
end Vm
namespace Vm
open Go Go.Proofs
@[simp]theorem Zcd(k:IntKind)(a b c d e f:Int):Y8 (.agg [.int k a,.int k b,.int k c,.int k d,.int k e,.int k f]) (.int .i64 0) 6 1 xw=J (.int k a):=rfl
@[simp]theorem Zcj(a b c d e f:Bool):Y8 (.agg [.bool a,.bool b,.bool c,.bool d,.bool e,.bool f]) (.int .i64 0) 6 1 xw=J (.bool a):=rfl
@[simp]theorem Zce(k:IntKind)(a b c d e f:Int):Y8 (.agg [.int k a,.int k b,.int k c,.int k d,.int k e,.int k f]) (.int .i64 1) 6 1 xw=J (.int k b):=rfl
@[simp]theorem Zck(a b c d e f:Bool):Y8 (.agg [.bool a,.bool b,.bool c,.bool d,.bool e,.bool f]) (.int .i64 1) 6 1 xw=J (.bool b):=rfl
@[simp]theorem Zcf(k:IntKind)(a b c d e f:Int):Y8 (.agg [.int k a,.int k b,.int k c,.int k d,.int k e,.int k f]) (.int .i64 2) 6 1 xw=J (.int k c):=rfl
@[simp]theorem Zcl(a b c d e f:Bool):Y8 (.agg [.bool a,.bool b,.bool c,.bool d,.bool e,.bool f]) (.int .i64 2) 6 1 xw=J (.bool c):=rfl
@[simp]theorem Zcg(k:IntKind)(a b c d e f:Int):Y8 (.agg [.int k a,.int k b,.int k c,.int k d,.int k e,.int k f]) (.int .i64 3) 6 1 xw=J (.int k d):=rfl
@[simp]theorem Zcm(a b c d e f:Bool):Y8 (.agg [.bool a,.bool b,.bool c,.bool d,.bool e,.bool f]) (.int .i64 3) 6 1 xw=J (.bool d):=rfl
@[simp]theorem Zch(k:IntKind)(a b c d e f:Int):Y8 (.agg [.int k a,.int k b,.int k c,.int k d,.int k e,.int k f]) (.int .i64 4) 6 1 xw=J (.int k e):=rfl
@[simp]theorem Zcn(a b c d e f:Bool):Y8 (.agg [.bool a,.bool b,.bool c,.bool d,.bool e,.bool f]) (.int .i64 4) 6 1 xw=J (.bool e):=rfl
@[simp]theorem Zci(k:IntKind)(a b c d e f:Int):Y8 (.agg [.int k a,.int k b,.int k c,.int k d,.int k e,.int k f]) (.int .i64 5) 6 1 xw=J (.int k f):=rfl
@[simp]theorem Zco(a b c d e f:Bool):Y8 (.agg [.bool a,.bool b,.bool c,.bool d,.bool e,.bool f]) (.int .i64 5) 6 1 xw=J (.bool f):=rfl
end Vm
namespace Vm
open Go Go.Proofs
def Zbc{h:Hp}(A:h.ok){k:Int}{l:List Int}(o:I l<=1000000)(h2:∀w∈l,ZC w):(Xk h k l).ok:=by
 obtain⟨a,d,f,g,p,q,r,t,j,u,x,y,z,n⟩:=A;unfold Xk;split;exact⟨a,d,f,g,o,q,r,t,j,h2,x,y,z,n⟩;split;exact⟨a,d,f,g,p,o,r,t,j,u,h2,y,z,n⟩;split;exact⟨a,d,f,g,p,q,o,t,j,u,x,h2,z,n⟩;exact⟨a,d,f,g,p,q,r,o,j,u,x,y,h2,n⟩
end Vm
end
section
namespace Vm
open Go Go.Proofs
def ze{n:Nat}{x:V}(h:Xj Try.prog (n+1) 3 x):∃m,x=vi m/\Yq m:=by
 obtain⟨m,rfl,a,d⟩:=PO Try.underlying3 h;exact⟨m,rfl,a,d⟩
def PQ{n:Nat}{x:V}(h:Xj Try.prog (n+1) 24 x):∃m,x=vu m/\ZC m:=by
 obtain⟨m,rfl,a,d⟩:=PO Try.underlying24 h;exact⟨m,rfl,a,Int.lt_of_le_of_lt d Zgg⟩
def DS{n:Nat}{x:V}(h:Xj Try.prog (n+2) 23 x):∃l:Z8,x=.sl (l.map vi)/\I l<=maxLen/\∀p∈l,Yq p:=
 DR Try.underlying23 h λy a=>ze a
def ZaT{n:Nat}{x:V}(h:Xj Try.prog (n+2) 28 x):∃l:Z8,x=.sl (l.map vu)/\I l<=maxLen/\∀p∈l,ZC p:=
 DR Try.underlying28 h λy a=>PQ a
def Nd.aw(x:Nd):Prop:=(I x.M<=maxLen/\∀p∈x.M,Yq p)/\I x.data<=maxLen/\∀p∈x.data,ZC p
def ZaQ{n:Nat}{x:V}(h:Xj Try.prog (n+3) 106 x):∃a:Nd,x=Yk a/\a.aw:=by
 obtain⟨q,rfl,o,d⟩:=PP Try.underlying106 h
 match q,o with
 | [a,b],_=>
   obtain⟨p,rfl,g,j⟩:=DS<|d 0 _ a rfl rfl;obtain⟨f,rfl,k,l⟩:=ZaT<|d 1 _ b rfl rfl;exact⟨⟨p,f⟩,rfl,⟨g,j⟩,k,l⟩
def ZaR{n:Nat}{x:V}(h:Xj Try.prog (n+4) 22 x):∃l:List Nd,x=.sl (l.map Yk)/\I l<=maxLen/\∀a∈l,a.aw:=
 DR Try.underlying22 h λy d=>ZaQ d
def ZaS{n:Nat}{x:V}(h:Xj Try.prog (n+5) 26 x):∃r:Rw,x=Wq r/\r.ok:=by
 obtain⟨F,rfl,B,j⟩:=PP Try.underlying26 h
 match F,B with
 | [a,b,c,d,e,f,g],_=>
   obtain⟨C,rfl,_,o⟩:=ZaR<|j 0 _ a rfl rfl;obtain⟨D,rfl,_,t⟩:=DS<|j 1 _ b rfl rfl;obtain⟨q,rfl,_,u⟩:=DS<|j 2 _ c rfl rfl;obtain⟨d,rfl,w⟩:=PQ<|j 3 _ d rfl rfl;obtain⟨e,rfl,y⟩:=ze<|j 4 _ e rfl rfl;obtain⟨f,rfl,z⟩:=ze<|j 5 _ f rfl rfl;obtain⟨g,rfl,A⟩:=ze<|j 6 _ g rfl rfl;exact⟨⟨C,D,q,d,e,f,g⟩,rfl,λn k p l=>(o n k).1.2 p l,λn k p l=>(o n k).2.2 p l,t,u,w,y,z,A⟩
def own:ownKnob Try.prog.godebug=U:=Z2
def laidOut:laidOutB Try.prog=xk:=Z2
end Vm
end
section
namespace Vm
open Go Go.Proofs Go.RowKit
section
section
variable {P:Z6}{w:Z3}
def Zbn{o:Oper}{a:Act}{K:Zq}{Q:Zh}(s x:Operand)(t:Zf)
  (G:o.op=.call {callee:=.builtin .append,args:=#[s,x],argTypes:=#[t,t]}) {e:Zf} (M:P.underlying t=J (.slice e)) (p:Ut P e=xk)
  {B n:Nat} {v y:Ze} {xs:Zm} (L:a.eval s=v) (hx:a.eval x=y) (k:w.ownsRow B e (P.cellsOf e) v n xs) (D:B<=xz (xj w))
  {Gy:Z4} {l:Zr} (N:Rd w Gy (.sl l) y) (F:Xv (P.cellsOf e) l=xk) (j:n+I l<=Y3)
  (h:∀g f d,f.ownsRow B e (P.cellsOf e) g (n+I l) (xs++d)->w.grownBy f v.ownBlock->(g.ownBlock=v.ownBlock\/(w.grownBy f U/\f.ownsRow (xz<|xj w) e (P.cellsOf e) g (n+I l) (xs++d)))->
   (∀(i:Nat) (q:V),(flat l)[i]?=J q->∃u,d[i]?=J u/\Rd w Gy q u)->K (a.put o.dst g) f):o.wp P a w K Q:=by
 obtain⟨g,f,d,H,r,z,A,_,C⟩:=LN (ty:=o.type) M p k D N F j;unfold Oper.wp execOp;simp only[G,resolve,invoke,builtin,ZhK,Zjw,ZhI,List.map_toArray,ZhA,Zis,L,hx,H];exact h g f d r z A C
def Z0f{ops:Zl}{rest:List Oper}{o:Oper}{a:Act}{Q:Zh}(q:o.guard=U)(s x:Operand)(t:Zf)
  (K:o.op=.call {callee:=.builtin .append,args:=#[s,x],argTypes:=#[t,t]}) {e:Zf} (M:P.underlying t=J (.slice e)) (p:Ut P e=xk)
  {B n:Nat} {v y:Ze} {xs:Zm} (L:a.eval s=v) (hx:a.eval x=y) (k:w.ownsRow B e (P.cellsOf e) v n xs) (F:B<=xz (xj w))
  {Gy:Z4} {l:Zr} (N:Rd w Gy (.sl l) y) (H:Xv (P.cellsOf e) l=xk) (j:n+I l<=Y3)
  (h:∀g f d,f.ownsRow B e (P.cellsOf e) g (n+I l) (xs++d)->w.grownBy f v.ownBlock->(g.ownBlock=v.ownBlock\/(w.grownBy f U/\f.ownsRow (xz<|xj w) e (P.cellsOf e) g (n+I l) (xs++d)))->
   (∀(i:Nat) (r:V),(flat l)[i]?=J r->∃u,d[i]?=J u/\Rd w Gy r u)->wpList P ops Q rest (a.put o.dst g) f):wpList P ops Q (o::rest) a w:=
 wpList_plain q λ_ G=>Zbn s x t K M p L hx k F N H j λg f d z A C D=>G _ _<|h g f d z A C D
end
def Yg(k:IntKind)(l:Z8):List Value:=l.map<|Value.int k
def qf{w:Z3}{G:Z4}{k:IntKind}{l:Z8}{d:Zm}(h:∀(i:Nat) (g:V),(flat<|l.map<|V.int k)[i]?=J g->∃u,d[i]?=J u/\Rd w G g u)(n:I d=I l):d=Yg k l:=by
 have f:flat (l.map<|V.int k)=l.map (V.int k):=by
  clear h n;induction l with
  |nil=>rfl
  |cons a l q=>rw[ZhA,Qc,q];rfl
 apply ZiU;intro i;unfold Yg;by_cases j:i<I l;obtain⟨u,p,o⟩:=h i (.int k l[i]) (by rw[f,Zhq,ZgY j];rfl);rw[p,Zhq,ZgY j];cases o;rfl;rw[ZhZ Z0,ZhZ Zg1]
def Yi{w:Z3}{B:Nat}{e:Zf}{z n:Nat}{v:Ze}{xs:Zm}(h:w.ownsRow B e z v n xs):∃a c,v=.slice a n c:=by
 obtain⟨rfl,rfl⟩|⟨g,cap,d,rfl,_⟩:=h.2;exact⟨_,_,rfl⟩;exact⟨_,_,rfl⟩
theorem Xs{w w':Z3}{B:Nat}{e:Zf}{z n:Nat}{v:Ze}{xs:Zm}(h:w.ownsRow B e z v n xs)(l:∀b,v.ownBlock=J b->w'.heap[b]?=w.heap[b]?):w'.ownsRow B e z v n xs:=by
 refine⟨h.1,?_⟩;obtain⟨f,d⟩|⟨g,cap,a,rfl,d,j,k⟩:=h.2;exact .inl ⟨f,d⟩;exact .inr ⟨g,cap,a,rfl,d,by rw[l g rfl];exact j,k⟩
def Yc{w:Z3}{b o:Nat}{cs:Zb}{T:Zf}(h:w.heap[b]?=J (.cells cs T (0,0))):w.frozen? ⟨b,o,U⟩=xw:=by
 simp[World.frozen?,h]
def Jb:Ut xP 24=xk:=Z2
theorem UW:xP.cellsOf 24=1:=Z2
def Y9{w:Z3}{b:Nat}{o:Obj}(h:w.heap[b]?=J o):b<xz (xj w):=(Zh6.1 h).1
def qB{w:Z3}{B B':Nat}{e:Zf}{z n:Nat}{v:Ze}{xs:Zm}(h:w.ownsRow B e z v n xs)(j:B'<=B):w.ownsRow B' e z v n xs:=by
 refine⟨h.1,?_⟩;obtain d|⟨g,cap,a,l,k,f⟩:=h.2;exact .inl d;exact .inr ⟨g,cap,a,l,Zhu j k,f⟩
def Lf(k:IntKind)(l:Z8)(i:Nat)(x:Int):Yg k (l.set i x)=(Yg k l).set i (.int k x):=by unfold Yg;rw[ZjL]
def Z5w:(xP.info? 24).map (λi=>(i.zero,i.size,i.bytes))=J (J<|.int .u64 0,1,8):=Z2
section
variable {w:Z3}{B:Nat}{G:Z4}
def yk{k:IntKind}(l:Z8):flat (l.map<|V.int k)=l.map (V.int k):=by
 induction l with
 |nil=>rfl
 |cons a l d=>rw[ZhA,Qc,d];rfl
def Rp{k:IntKind}{e:Zf}{v:Ze}{l:Z8}(h:w.ownsRow B e 1 v (I l)<|Yg k l)(r:∀c,B<=c->c<xz (xj w)->G c):Rd w G (.sl<|l.map<|V.int k) v:=by
 obtain⟨rfl,q⟩|⟨g,cap,p,rfl,t,u,o,f,_⟩:=h.2;have:l=[]:=ZiR.1 q;subst this;exact .nil _ _ Zgh
 have:=Rd.sl (w:=w) (G:=G) (l.map<|V.int k) g 0 cap 1 (λi=>(Yg k l).getD i xy) (by simpa using o) f (r g t<|Y9 u) (λx y=>by
  obtain⟨n,_,rfl⟩:=Zhl.1 y
  exact⟨rfl,λc d=>by simp[V.cells]at d;subst d;rfl⟩) (λi j=>by
   have a:i<I l:=by simpa using j
   rw[ZhN,h.cellAt i Z0];simp[Yg,a]) (λi c d=>by
   rw[yk]at d;obtain⟨j,rfl⟩:=ZgZ.1 d;have a:i<I l:=by simpa using j
   simp[Yg,a];exact .int _ _)
 simpa using this
end
def Z7z(w:Z3)(b k:Nat)(a:k=1\/k=2\/k=3\/k=4):
  Calls xP 45 #[.pointer<|J ⟨b,0,U⟩,.int .i64 k] w λe d=>e=.returned (.pointer<|J ⟨b,4+k,U⟩)/\Below (xz<|xj w) w d:=by
 go_enter EY,Try.ntmps45;obtain rfl|rfl|rfl|rfl:=a;all_goals
  go_wp2;go_region;go_wp2;go_ret
  exact⟨rfl,((Zhi _ _).alloc (Zh3 _) _).drew⟩
def ZL:Array Value:=#[.int .u64 0,.int .i64 0,.int .i64 0,.bool xw,.int .i64 0,.slice U 0 0,.slice U 0 0,.slice U 0 0,.slice U 0 0,.slice U 0 0]
abbrev TV(w:Z3)(b:Nat)(v0 v1 v2 v3 v4 v5 v6 v7 v8 v9:Ze):World:=(((((((((w.setCell ⟨b,0,U⟩ v0).setCell ⟨b,1,U⟩ v1).setCell ⟨b,2,U⟩ v2).setCell ⟨b,3,U⟩ v3).setCell ⟨b,4,U⟩ v4).setCell ⟨b,5,U⟩ v5).setCell ⟨b,6,U⟩ v6).setCell ⟨b,7,U⟩ v7).setCell ⟨b,8,U⟩ v8).setCell ⟨b,9,U⟩ v9
def qP{w2:Z3}{b:Nat}{T:Zf}(a:w2.heap[b]?=J (.cells ZL T (0,0)))(v0 v1 d f v4 g v6 h j k:Ze):(TV w2 b v0 v1 d f v4 g v6 h j k).heap[b]?=J (.cells #[v0,v1,d,f,v4,g,v6,h,j,k] T (0,0)):=by
 unfold ZL at a;simp[World.setCell,ZhB,a]
def WW{w2:Z3}{b:Nat}{T:Zf}(l:w2.heap[b]?=J (.cells ZL T (0,0)))(v0 v1 a d v4 f v6 g h k:Ze)(j:Nat):(TV w2 b v0 v1 a d v4 f v6 g h k).cell? ⟨b,j,U⟩=(#[v0,v1,a,d,v4,f,v6,g,h,k]:Array Value)[j]? :=
 Zh7 _ _ _ _ _ _ (qP l v0 v1 a d v4 f v6 g h k)
def XW{B:Nat}{w0 w2:Z3}{b:Nat}(h:Below B w0 w2)(a:B<=b)(v0 v1 d f v4 g v6 j k l:Ze):Below B w0<|TV w2 b v0 v1 d f v4 g v6 j k l:=
 (((((((((h.setCell a _).setCell a _).setCell a _).setCell a _).setCell a _).setCell a _).setCell a _).setCell a _).setCell a _).setCell a _
def UJ{w2:Z3}{b c:Nat}(hc:c≠b)(v0 v1 a d v4 f v6 g h j:Ze):(TV w2 b v0 v1 a d v4 f v6 g h j).heap[c]?=w2.heap[c]? :=by
 have:¬b=c:=λe=>hc e.symm;simp[World.setCell,ZhB,this]
end
def Zu(h:Hp)(j:Nat):List Int:=if j=0 then h.H else if j=1 then h.ab else if j=2 then h.ah else if j=3 then h.ak else h.E
structure OwSt (w:World) (b:Nat) (el:Nat->Option Obj) (T:TypeId) (hd src:Nat->Value) (L:Nat->List Int) (k:Nat) (xs:Nat->Value) (wr:World):Prop where
 below:Below (xz<|xj w) w wr
 new:xz (xj w)<=b
 blk:wr.heap[b]?=J (.cells #[hd 0,hd 1,hd 2,hd 3,hd 4,xs 0,xs 1,xs 2,xs 3,src 4] T (0,0))
 oi:∀c,xz (xj w)<=c->c<b->wr.heap[c]?=el c
 rest:∀j,k<=j->xs j=src j
 own:∀j,j<k->wr.ownsRow (xz<|xj w) 24 1 (xs j) (I<|L j) (Yg .u64<|L j)
 ot:∀j,j<k->∀c,(xs j).ownBlock=J c->b<c
 apart:∀i j,i<j->j<k->∀c,(xs i).ownBlock=J c->(xs j).ownBlock≠J c
def OwSt.next{w wr w1 o b z T g l L k xs}(h:OwSt w b z T g l L k xs wr)(G:k<4)
  (p:Below (xz<|xj wr) wr w1) (r:w1.grownBy o U) {v} (H:o.ownsRow (xz<|xj w) 24 1 v (I<|L k)<|Yg .u64<|L k) (D:∀c,v.ownBlock=J c->xz (xj w1)<=c):
  OwSt w b z T g l L (k+1) (λj=>if j=k then v else xs j) (o.setCell ⟨b,5+k,U⟩ v):=by
 have q:=Y9 h.blk;have F:=p.size;have y:=h.below.size;have f:∀c,c<xz (xj wr)->c≠b->(o.setCell ⟨b,5+k,U⟩ v).heap[c]?=wr.heap[c]? :=λc d x=>by
  rw[Zhj _ _ _ _ x,r.block c Z0 Z1,p.block c d]
 have C:o.heap[b]?=J (.cells #[g 0,g 1,g 2,g 3,g 4,xs 0,xs 1,xs 2,xs 3,l 4] T (0,0)):=by
  rw[r.block b Z0 Z1,p.block b q,h.blk]
 refine⟨((h.below.trans<|p.mono y).grown r Z0 Z1).setCell h.new _,h.new,?_,?_,?_,?_,?_,?_⟩;have:k=0\/k=1\/k=2\/k=3:=Z0;obtain rfl|rfl|rfl|rfl:=this<;>simp[World.setCell,ZhB,C];intro c A B;rw[f c Z0 Z0];exact h.oi c A B;intro j u;rw[Zh9 Z0];exact h.rest j Z0;intro j u;by_cases a:j=k;subst a;grind [Xs,Below.heap_setCell];rw[Zh9 a];have n:=h.own j Z0;exact Xs n λc d=>f c (n.lt c d).2 (by have:=h.ot j Z0 c d;omega);intro j u c d;by_cases a:j=k;grind;rw[Zh9 a]at d;exact h.ot j Z0 c d;intro i j t u c d;rw[Zh9 Z0]at d;by_cases a:j=k;rw[Zhc a];intro e;have:=D c e;have:=((h.own i Z0).lt c d).2;omega;rw[Zh9 a];exact h.apart i j t Z0 c d
structure HOwn (B:Nat) (w:World) (h:Hp) (x:Nat->Value):Prop where
 own:∀j,j<5->w.ownsRow B 24 1 (x j) (I<|Zu h j) (Yg .u64<|Zu h j)
 apart:∀i j,i<j->j<5->∀c,(x i).ownBlock=J c->(x j).ownBlock≠J c
abbrev Z5:=Nat->Value
def ZA(h:Hp)(x:Z5):Value:=.agg #[.int .u64 h.base,.int .i64 h.cap,.int .i64 h.to,.bool h.Y,.int .i64 h.Z,x 0,x 1,x 2,x 3,x 4]
abbrev QU(W:Z3)(b:Nat)(h:Hp)(x:Z5):World:=TV W b (.int .u64 h.base) (.int .i64 h.cap) (.int .i64 h.to) (.bool h.Y) (.int .i64 h.Z) (x 0) (x 1) (x 2) (x 3)<|x 4
def Z0R(w:Z3)(h:Hp)(e:Ending)(w':Z3):Prop:=∃x,e=.returned (ZA h x)/\Below (xz<|xj w) w w'/\HOwn (xz<|xj w) w' h x
def JB{h}(a:h.ok)k:I (Zu h k)<=1000000:=by
 unfold Zu;split;exact a.H;split;exact a.ab;split;exact a.ah;split;exact a.ak;exact a.E
def Z7A(w:Z3)(b k:Nat)(d:k<4):
  Calls xP 45 #[.pointer<|J ⟨b,0,U⟩,.int .i64 ((k+1:Nat):Int)] w λe a=>e=.returned (.pointer<|J ⟨b,5+k,U⟩)/\Below (xz<|xj w) w a:=by
 have:=Z7z w b (k+1) Z0;grind
def Ki(w:Z3)(G:Z4)(hG:∀b,G b->b<xz (xj w))(h:Hp)(hh:h.ok)(d:Z5)(hs:∀j,j<5->Rd w G (.sl<|(Zu h j).map vu) (d j)):
  Calls xP 23 #[ZA h d] w (Z0R w h):=by
 have HS:=Zh2 hs;have HH:=Zh2 hh;clear hs hh;unfold ZA;go_enter EQ,Try.ntmps23;go_wp2
 go_loopw [4] (λi wr=>∃(k:Nat) (xs:Z5),i=.int .i64 ((k+1:Nat):Int)/\k<=4/\Hid (OwSt w (xz (xj w)+2) (λc=>if c=(xz<|xj w) then J (.cells #[.int .u64 h.base,.int .i64 h.cap,.int .i64 h.to,.bool h.Y,.int .i64 h.Z,d 0,d 1,d 2,d 3,d 4] 30 (0,0))else J<|.cells #[.int .u64 0,.int .i64 0,.int .i64 0,.bool xw,.int .i64 0,.slice U 0 0,.slice U 0 0,.slice U 0 0,.slice U 0 0,.slice U 0 0] 30 (0,0)) 97 (λj=>if j=0 then .int .u64 h.base else if j=1 then .int .i64 h.cap else if j=2 then .int .i64 h.to else if j=3 then .bool h.Y else .int .i64 h.Z) d (Zu h) k xs wr))
  (λi _=>5- (intOf i).toNat)
 case atStart=>
  refine⟨0,d,rfl,Z0,Zh2 ⟨(((Zhi _ _).alloc (Zh3 _) _).alloc Z1 _).alloc Zg1 _,Z0,?_,?_,λ_ _=>rfl,λj hj=>Z0,λj hj=>Z0,λi j _ hj=>Z0⟩⟩;have:=Zhk ((w.alloc<|.cells #[.int .u64 h.base,.int .i64 h.cap,.int .i64 h.to,.bool h.Y,.int .i64 h.Z,d 0,d 1,d 2,d 3,d 4] 30).alloc<|.cells #[.int .u64 0,.int .i64 0,.int .i64 0,.bool xw,.int .i64 0,.slice U 0 0,.slice U 0 0,.slice U 0 0,.slice U 0 0,.slice U 0 0] 30)<|.cells #[.int .u64 h.base,.int .i64 h.cap,.int .i64 h.to,.bool h.Y,.int .i64 h.Z,d 0,d 1,d 2,d 3,d 4] 97;simp_all;intro c h1 h2;have:c=(xz<|xj w)\/c=xz (xj w)+1:=Z0;obtain rfl|rfl:=this;rw[Zhc rfl,Zh4 _ _ _ Zg1,Zh4 _ _ _ Z1];exact Zhk _ _;rw[Zh9 Z0,Zh4 _ _ _ Z1];have:=Zhk (w.alloc<|.cells #[.int .u64 h.base,.int .i64 h.cap,.int .i64 h.to,.bool h.Y,.int .i64 h.Z,d 0,d 1,d 2,d 3,d 4] 30)<|.cells #[.int .u64 0,.int .i64 0,.int .i64 0,.bool xw,.int .i64 0,.slice U 0 0,.slice U 0 0,.slice U 0 0,.slice U 0 0,.slice U 0 0] 30;simp_all
 case round=>
  obtain⟨k,xs,rfl,hk,g⟩:=hrel;have a4:=Y9 g.out.blk;by_cases a2:k<4
  .have b4:((k+1:Nat):Int)<=4:=Z0;have c0:wr.cell? ⟨xz (xj w)+2,5+k,U⟩=J (d k):=by
    rw[Zh7 _ _ _ _ _ _ g.out.blk];have h3:k=0\/k=1\/k=2\/k=3:=Z0;have hr:=g.out.rest k<|Zh3 _;obtain rfl|rfl|rfl|rfl:=h3<;>simp[<-hr]
   have f0:wr.frozen? ⟨xz (xj w)+2,5+k,U⟩=xw:=Yc g.out.blk;have b2:I (Zu h k)<=1000000:=JB HH.out k
   go_wp2_with (first
    |(go_at_call 45;refine(Z7A _ _ _ a2).mono ?_;rintro e w1 ⟨rfl,C⟩;have c1:=(C.cell (p:=⟨xz (xj w)+2,5+k,U⟩)<|by exact a4).trans c0;have f1:=(C.frozen (p:=⟨xz (xj w)+2,5+k,U⟩)<|by exact a4).trans f0;have S:=Zh2<|(HS.out k<|by omega).keep (w':=w1) (λb hb=>by rw[C.block b (by have:=hG b hb;omega)];exact g.out.below.block b<|hG b hb) (λ_ h=>h);have a5:=Zh2 C;have b5:=C.size;have a3:=g.out.below.size;clear C)
    |(at_builtin;refine Z0f (B:=xz<|xj w) (n:=0) (xs:=[]) rfl _ _ _ rfl SY Jb rfl rfl (Zio _ _ _ _) (by omega) (l:=(Zu h k).map vu) (Gy:=G) S.out (by grind [UW,LW]) (by grind [Y3]) ?_))
   intro v6 w6 x a f A Q;simp only[UW]at a;have W:I x=I (Zu h k):=by have:=a.1;simp_all
   rw[qf Q W]at a;try simp only[Zhv,ZhN,ZhU]at a
   obtain⟨P,R,X⟩:=Yi a;subst X;have u:(Value.slice U 0 0).ownBlock=U:=rfl;rw[u]at f;have c6:=(f.cell_far ⟨xz (xj w)+2,5+k,U⟩ ZfZ Z1).trans c1;have f6:=(f.frozen_far ⟨xz (xj w)+2,5+k,U⟩ ZfZ Z1).trans f1;have q:∀c,(Value.slice P (I<|Zu h k) R).ownBlock=J c->xz (xj w1)<=c:=by
    intro c t;obtain e|⟨_,e⟩:=A;simp_all;exact(e.lt c t).1
   have HN:=Zh2<|g.out.next a2 a5.out f a q;clear a f A Q q;go_wp2;go_roundw
   case rel=>grind
   case measure=>grind [intOf]
  .have a9:k=4:=Z0;subst a9;have b0:=g.out.oi (xz<|xj w) Z0 Z0;rw[Zhc rfl]at b0;have b1:=g.out.oi (xz (xj w)+1) Z0 Z0;rw[Zh9 Z0]at b1;have c9:wr.cell? ⟨xz<|xj w,9,U⟩=J (d 4):=by rw[Zh7 _ _ _ _ _ _ b0];rfl
   have b2:I (Zu h 4)<=1000000:=JB HH.out 4;have S:=Zh2<|(HS.out 4 Z0).keep (w':=wr) (λb hb=>g.out.below.block b<|hG b hb) (λ_ h=>h);have a3:=g.out.below.size;go_wp2_with (at_builtin;refine Z0f (B:=xz<|xj w) (n:=0) (xs:=[]) rfl _ _ _ rfl SY Jb rfl rfl (Zio _ _ _ _) Z0 (l:=(Zu h 4).map vu) (Gy:=G) S.out (by grind [UW,LW]) (by grind [Y3]) ?_)
   intro v6 w6 x a f A Q;simp only[UW]at a;have W:I x=I (Zu h 4):=by have:=a.1;simp_all
   rw[qf Q W]at a;try simp only[Zhv,ZhN,ZhU]at a
   obtain⟨P,R,X⟩:=Yi a;subst X;have u:(Value.slice U 0 0).ownBlock=U:=rfl;rw[u]at f;obtain⟨D,L,e0⟩:=Yi<|g.out.own 0 Z0;obtain⟨F,M,e1⟩:=Yi<|g.out.own 1 Z0;obtain⟨H,N,e2⟩:=Yi<|g.out.own 2 Z0;obtain⟨K,O,e3⟩:=Yi<|g.out.own 3 Z0;have blk:wr.heap[xz (xj w)+2]?=J (.cells #[.int .u64 h.base,.int .i64 h.cap,.int .i64 h.to,.bool h.Y,.int .i64 h.Z,.slice D (I<|Zu h 0) L,.slice F (I<|Zu h 1) M,.slice H (I<|Zu h 2) N,.slice K (I<|Zu h 3) O,d 4] 97 (0,0)):=by rw[<-e0,<-e1,<-e2,<-e3];exact g.out.blk
   have y:=(f.block (xz (xj w)+2) Z0 Z1).trans blk;have Z:=(f.block (xz (xj w)+1) Z0 Z1).trans b1;have x9:w6.cell? ⟨xz (xj w)+2,9,U⟩=J (d 4):=by rw[Zh7 _ _ _ _ _ _ y];rfl
   have y9:w6.frozen? ⟨xz (xj w)+2,9,U⟩=xw:=Yc y;obtain⟨Y,h7⟩:∃Y,w6.setCell ⟨xz (xj w)+2,9,U⟩ (.slice P (I<|Zu h 4) R)=Y:=⟨_,rfl⟩;have a0:Y.heap[xz (xj w)+2]?=J (.cells #[.int .u64 h.base,.int .i64 h.cap,.int .i64 h.to,.bool h.Y,.int .i64 h.Z,.slice D (I<|Zu h 0) L,.slice F (I<|Zu h 1) M,.slice H (I<|Zu h 2) N,.slice K (I<|Zu h 3) O,.slice P (I<|Zu h 4) R] 97 (0,0)):=by
    rw[<-h7];simp[World.setCell,ZhB,y]
   have T:Y.heap[xz (xj w)+1]?=J (.cells ZL 30 (0,0)):=by
    rw[<-h7,Zhj _ _ _ _ Z1];exact Z
   have l:=λj=>Zh7 _ _ j _ _ _ a0;have m:=λj=>Zh7 _ _ j _ _ _ T;unfold ZL at m;have r:=λj=>Yc (o:=j) T;have z:=WW T (.int .u64 h.base) (.int .i64 h.cap) (.int .i64 h.to) (.bool h.Y) (.int .i64 h.Z) (.slice D (I<|Zu h 0) L) (.slice F (I<|Zu h 1) M) (.slice H (I<|Zu h 2) N) (.slice K (I<|Zu h 3) O)<|.slice P (I<|Zu h 4) R;have a7:Below (xz<|xj w) w Y:=by rw[<-h7];exact(g.out.below.grown f a3 Z1).setCell Z1 _
   have b3:∀c,c≠xz (xj w)+2->Y.heap[c]?=w6.heap[c]? :=λc t=>by rw[<-h7];exact Zhj _ _ _ _ t
   have q:∀c,(Value.slice P (I<|Zu h 4) R).ownBlock=J c->xz (xj wr)<=c:=by
    intro c t;obtain e|⟨_,e⟩:=A;simp_all;exact(e.lt c t).1
   clear y Z blk b0 b1 c9;go_wp2;refine ZhE (v:=.agg #[.int .u64 h.base,.int .i64 h.cap,.int .i64 h.to,.bool h.Y,.int .i64 h.Z,.slice D (I<|Zu h 0) L,.slice F (I<|Zu h 1) M,.slice H (I<|Zu h 2) N,.slice K (I<|Zu h 3) O,.slice P (I<|Zu h 4) R]) (by simp[results,Try.results23,go_sem,z]) rfl ⟨λj=>if j=4 then .slice P (I<|Zu h 4) R else xs j,by simp[ZA,e0,e1,e2,e3],XW a7 Z1 _ _ _ _ _ _ _ _ _ _,?_⟩;have a1:=λc h1 h2=>(UJ (w2:=Y) (b:=xz (xj w)+1) (c:=c) h1 (.int .u64 h.base) (.int .i64 h.cap) (.int .i64 h.to) (.bool h.Y) (.int .i64 h.Z) (.slice D (I<|Zu h 0) L) (.slice F (I<|Zu h 1) M) (.slice H (I<|Zu h 2) N) (.slice K (I<|Zu h 3) O)<|.slice P (I<|Zu h 4) R).trans<|b3 c h2;refine⟨λj hj=> ?_,λi j a8 hj c t=> ?_⟩;by_cases h4:j=4;subst h4;rw[Zhc rfl];exact Xs a λc t=>a1 c (by have:=q c t;omega) (by have:=q c t;omega);rw[Zh9 h4];have ho:=g.out.own j Z0;exact Xs ho λc t=>by
    have h1:=g.out.ot j Z0 c t;have h2:=(ho.lt c t).2;rw[a1 c Z0 Z0,f.block c h2 Z1]
   rw[Zh9 Z0]at t;by_cases h4:j=4;subst h4;rw[Zhc rfl];intro e;have h1:=q c e;have h2:=((g.out.own i Z0).lt c t).2;omega;rw[Zh9 h4];exact g.out.apart i j a8 Z0 c t
def Zbv(z:Ze)(n:Nat):(Builtin.zeroCells #[z] n).toList=List.replicate n z:=by
 simp[Builtin.zeroCells];apply List.ext_getElem;simp;intro i a d;simp[Nat.mod_one]
def Z9o{P:Z6}{w:Z3}{T tI ty e:Zf}{i:TypeInfo}{z:Ze}{kn:IntKind}(Z:P.underlying T=J (.slice e))(R:P.underlying tI=J (.int kn))(Y:P.info? e=J i)(hz:i.zero=J z)
  (H:z.cells=#[z]) (h1:z.oneCell'=xk) (hs:i.size=1) (M:i.bytes=8) {B n m:Nat} {v:Ze} {xs:Zm} (l:w.ownsRow B e 1 v n xs) (hB:B<=xz (xj w)) (hm:0<m) (a1:n+m<=4294967296) (N:IntKind):
  ∃O K,(Builtin.append_ #[T,tI] ty #[v,.int N m]).run P w=.ok O K/\K.ownsRow B e 1 O (n+m) (xs++List.replicate m z)/\w.grownBy K v.ownBlock/\
   (O.ownBlock=v.ownBlock\/(w.grownBy K U/\K.ownsRow (xz<|xj w) e 1 O (n+m) (xs++List.replicate m z))):=by
 have q:I xs=n:=by have:=l.1;simpa using this
 have f:I (xs++List.replicate m z)=n+m:=by simp[q]
 have Q:n+m<=maxLen:=by simp only[maxLen];omega
 have d:∀(a:Nat),a<n+m->∀(row:Option Nat) (L:Zb),L=xs.toArray++(List.replicate m z).toArray->
   (w.drew.alloc<|.cells (L++Builtin.zeroCells z.cells (grownCap w (n+m) a e- (n+m))) e).ownsRow (xz<|xj w) e 1
    (.slice (J ⟨xz<|xj w,0,U⟩) (n+m)<|grownCap w (n+m) a e) (n+m) (xs++List.replicate m z)/\
   w.grownBy (w.drew.alloc<|.cells (L++Builtin.zeroCells z.cells (grownCap w (n+m) a e- (n+m))) e) row:=by
  rintro a ho row L rfl;have X:=grownCap_ge w (n+m) a e;have x:grownCap w (n+m) a e<=maxLen:=grownCap_le_maxLen w (n+m) a e Q;refine⟨⟨Zgi,.inr ⟨xz<|xj w,_,_,rfl,Zh3 _,Zhk w.drew _,X,x,?_,?_⟩⟩,⟨rfl,rfl,rfl,Z1,λk F _=>Zh4 w.drew _ k F⟩⟩;simp only[Array.size_append,Zit,size_zeroCells,H];simp[q];omega;simp only[Array.toList_append,ZhM];rw[<-ZhM,Zld,<-f];exact ZkH
 have A:Builtin.zeroCells z.cells m=(List.replicate m z).toArray:=by
  rw[H];apply Array.ext';rw[Zbv]
 obtain⟨rfl,rfl⟩|⟨g,cap,h,rfl,S,hg,a2,x,a0,p⟩:=l.2;have hx:xs=[]:=ZiL q;subst hx;have t:=Lib.run_append_nil_zeros (P:=P) w T tI ty e i z N kn Z R Y hz m hm Z0 Z0 (by rw[M];omega);have D:=d 0 Z0;simp only[ZhN,ZhU,Array.empty_append]at D t⊢;rw[A]at t;obtain⟨g1,g2⟩:=D U _ rfl;exact⟨_,_,t,qB g1 hB,g2,.inr ⟨g2,g1⟩⟩;by_cases o:n+m<=cap;have r:n+I (List.replicate m z)<=h.size:=Zg1;have y:=run_storeCells_at P g n e (List.replicate m z) 0 h w hg (by simpa using r) (by intro v hv;rw[List.eq_of_mem_replicate hv];exact h1);simp only[ZiD]at y;have hw:IntKind.i64.wrap (m:Int)=m:=by rw[IntKind.wrap_i64];omega
 have G:¬((m:Int)<0):=Z0;have C:¬(281474976710656< (m:Int)*8):=Z0;have F:m≠0:=Z0
 have t:(Builtin.append_ #[T,tI] ty #[.slice (J ⟨g,0,U⟩) n cap,.int N m]).run P w=
   .ok (.slice (J ⟨g,0,U⟩) (n+m) cap) (w.setRow g (h.toList.take n++List.replicate m z++h.toList.drop (n+I (List.replicate m z))).toArray):=by
  simp[Builtin.append_,ZhL Z,ZhL R,Go.sizeOf,typeInfo,zeroValue,Y,hz,asInt,asIntOf,hw,G,hs,M,C,F,o,A,ZiB];simp at y;rw[y];simp
 refine⟨_,_,t,⟨Zgi,.inr ⟨g,cap,_,rfl,S,Zlc w g h _ e _ hg,o,x,?_,?_⟩⟩,⟨rfl,rfl,rfl,Z1,λk _ F=>ZiS w g k _<|λe=>F (by simp[Value.ownBlock,e])⟩,.inl rfl⟩;simp only[Zit,ZhJ,Zi4,Zj4,Zjk];simp at r⊢;omega;rw[Zld]at p⊢;rw[p,<-f];exact ZkH;have holds:∀j u,xs[j]?=J u->w.cell? ((⟨g,0,U⟩:Addr).add j)=J u:=l.cells (g:=g) rfl;have W:=run_firstCells_some (P:=P) w.drew i.size n ⟨g,0,U⟩ n cap xs (by rw[hs,Zld];exact q) (by simpa using holds);have t:=Lib.run_append_grow_zeros (P:=P) w T tI ty e i z N kn Z R Y hz (J ⟨g,0,U⟩) n cap xs W m hm Z0 Z0 Z0 (by rw[M];omega)<|Zla Z0 (by rw[M];omega);rw[A]at t;obtain⟨g1,g2⟩:=d cap Z0 U _ rfl;obtain⟨_,g3⟩:=d cap Z0 (Value.ownBlock<|.slice (J ⟨g,0,U⟩) n cap) _ rfl;exact⟨_,_,t,qB g1 hB,g3,.inr ⟨g2,g1⟩⟩
end Vm
end
section
namespace Vm
open Go Go.Proofs
def Hp.ei:Hp.zero.ok:=by
 refine⟨?_,?_,?_,?_,?_,?_,?_,?_,?_,?_,?_,?_,?_,?_⟩<;>simp[Hp.zero,ZC,Yq]
def M2{h:Hp}(d:h.ok){part:Int}{a n:Nat}(o:a+n<=I (Zx h part))(h2:(n:Int)<=Xu (Zv h))(p:0<n):(Xr h part a n).ok:=by
 have g:ZI (Zv h)=xk:=by
  cases j:ZI<|Zv h;have:Xu (Zv h)=0:=by unfold Xu;rw[j];rfl
  omega;rfl
 have l:Xu (Zv h)=(Zv h).cap- (Zv h).H- (Zv h).ab:=by unfold Xu;rw[g];rfl
 have k:=XN.1 g;have q:(Zv h).H=I h.H:=rfl;have r:(Zv h).ab=I h.ab:=rfl;refine⟨d.base,d.cap,d.to,d.Z,?_,d.ab,d.ah,d.ak,d.E,?_,d.gj,d.kr,d.kg,d.dm⟩;simp only[Xr,ZhJ,Zj4,Zi4];omega;intro w f;simp only[Xr]at f;obtain f|f:=Zht.1 f;exact d.gg w f;exact(XM d part).1 w (Zi1<|Zjf f)
def Z0u{ws:Z8}{a:Nat}(h:∀w∈ws,ZC w):∀n,∀w∈zr ws a n,ZC w
 |0=>h
 |n+1=>by
  intro w d;obtain d|d:=Ziw d;exact Z0u h n w d;subst d;unfold ZC;omega
def Z3Y{h:Hp}(f:h.ok){part:Int}{a n:Nat}(g:0<n):(Sh h part a n).2.1.ok/\ZC (Sh h part a n).1:=by
 unfold Sh;split;exact⟨Hp.ei,by simp[ZC]⟩;split;exact⟨Hp.ei,by simp[ZC]⟩;rename_i g1 g2;have j:=XM f part;refine⟨Zbc (M2 f Z0 Z0 g) Zg1 ?_,O1⟩;intro w d;obtain d|d:=Ziw d;exact Z0u j.1 _ w d;subst d;exact O1
def yr{h:Hp}(a:h.ok){w:Int}(j:ZC w):(fwd h w).2.1.ok/\ZC (fwd h w).1:=by
 unfold fwd;split;exact⟨Hp.ei,by simp[ZC]⟩;split;exact⟨a,by simp[ZC]⟩;split;exact⟨Hp.ei,by simp[ZC]⟩;split;exact⟨Hp.ei,by simp[ZC]⟩;split;exact⟨a,j⟩;split;refine⟨a,?_⟩;generalize (Yf (Zv h) (adr w).1).2.1.toNat=k;have g:=(XM a (Yf (Zv h) (adr w).1).1).1;generalize Zx h (Yf (Zv h) (adr w).1).1=d at*;by_cases f:k<I d;have e:d.getD k 0=d[k]:=by simp[List.getD,f]
 simp only[e];exact g _<|Zhm f;have e:d.getD k 0=0:=by simp[List.getD,f]
 simp only[e];unfold ZC;omega;split;exact⟨Hp.ei,by simp[ZC]⟩;exact Z3Y a Z0
def Z4e{x:Rw}(hx:x.ok):(T9 x).ok/\ZI (Zv<|T9 x)=xk/\(T9 x).E.length<=5:=by
 have key:∀c,(Yy x<|Yz x c).ok/\ZI (Zv<|Yy x<|Yz x c)=xk/\(Yy x<|Yz x c).E.length<=5:=λc=>by
  obtain⟨a,d,f⟩:=z7 hx c;obtain⟨k1,g,_,_⟩:=GD (x:=x) a d;refine⟨k1,by rw[g];exact f,?_⟩;simp only[Yy,Zhv];exact a.rl
 unfold T9 DL;split;exact key xw;exact key xk
end Vm
end
section
namespace Vm
open Go Go.Proofs Go.RowKit
section
def J9:V->Value
 |.int k n=>.int k n
 |.bool b=>.bool b
 |_=>xy
def TE:V->Bool
 |.int _ _=>xk
 |.bool _=>xk
 |_=>xw
def Tz:V->Value
 |.agg a=>.agg (a.map J9).toArray
 |x=>J9 x
def Uz:V->Bool
 |.agg a=>a.all TE
 |x=>TE x
def Ap:V->Value
 |.am l=>.tuple (l.map Tz).toArray
 |x=>Tz x
def yi:V->Bool
 |.am l=>l.all Uz
 |x=>Uz x
variable {w:Z3}{G:Z4}
def Z8z{x:V}(h:TE x=xk):Rd w G x<|J9 x:=by
 cases x<;>simp[TE]at h;exact .int _ _;exact .bool _
def Z8A{x:V}(h:Uz x=xk):Rd w G x<|Tz x:=by
 cases x with
 |agg d=>
  simp only[Uz,Zhd]at h;refine .agg _ _ Z1 (λc a=> ?_) λi c a=> ?_;have:=h c a;cases c<;>simp[TE]at this<;>rfl;have f:=Z8z (w:=w) (G:=G)<|h c<|Zha a;have:((d.map J9).toArray).getD i xy=J9 c:=by
   obtain⟨g,rfl⟩:=ZgZ.1 a;simp[Array.getD,g]
  rw[this];exact f
 |int k n=>exact .int _ _
 |bool b=>exact .bool _
 |_=>simp[Uz,TE]at h
def Z3h{x:V}{v:Ze}(h:TE x=xk)(r:Rd w G x v):v=J9 x:=by
 cases x<;>simp[TE]at h;cases r;rfl;cases r;rfl
def Ao{x:V}{v:Ze}(h:Uz x=xk)(r:Rd w G x v):v=Tz x:=by
 cases x with
 |agg a=>
  simp only[Uz,Zhd]at h;cases r with
  |agg _ vs j _ l=>
   simp only[Tz,Value.agg.injEq];apply Zjs;simpa using j;intro i f o;have d:i<I a:=Z0;have g:a[i]?=J a[i]:=ZgY d;have:=Z3h (h _<|Zhm d)<|l i _ g;simp[Array.getD,f]at this;simpa using this
 |int k n=>cases r;rfl
 |bool b=>cases r;rfl
 |_=>simp[Uz,TE]at h
def Ge{x:V}{v:Ze}(h:yi x=xk)(r:Rd w G x v):v=Ap x:=by
 cases x with
 |am a=>
  simp only[yi,Zhd]at h;cases r with
  |am _ vs j l=>
   simp only[Ap,Value.tuple.injEq];apply Zjs;simpa using j;intro i f o;have d:i<I a:=Z0;have g:a[i]?=J a[i]:=ZgY d;have:=Ao (h _<|Zhm d)<|l i _ g;simp[Array.getD,f]at this;simpa using this
 |agg a=>exact Ao (x:=.agg a) h r
 |int k n=>cases r;rfl
 |bool b=>cases r;rfl
 |_=>simp[yi,Uz,TE]at h
def Tx{P:Z6}{f:Zp}{fr:Bool}{args:Zr}{r:V}(h:VC P f fr args r)(a:args.all Uz=xk)(k:yi r=xk)(w:Z3):
  Calls P f (args.map Tz).toArray w λe g=>e=.returned (Ap r)/\Below (xz<|xj w) w g:=by
 simp only[Zhd]at a;refine ZjB (h.2 w (λ_=>False) _ Z1 Z1 ?_) ?_;intro i x n;obtain⟨d,rfl⟩:=ZgZ.1 n;have:((args.map Tz).toArray).getD i xy=Tz args[i]:=by simp[Array.getD,d]
 rw[this];exact Z8A<|a _<|Zhm d;rintro e g ⟨v,rfl,j,l⟩;exact⟨by rw[Ge k l],j⟩
def Vi(l:Ly):Value:=.agg #[.int .u64 l.base,.int .i64 l.cap,.int .i64 l.to,.int .i64 l.H,.int .i64 l.ab,.int .i64 l.ah,.int .i64 l.ak]
def QJ{l:Ly}(a:l.aw)(w:Z3):Calls xP 47 #[Vi l] w λe d=>e=.returned (.bool<|ZI l)/\Below (xz<|xj w) w d:=
 Tx (LJ a) rfl rfl w
def OH{l:Ly}(a:l.aw)(w:Z3):Calls xP 65 #[Vi l] w λe d=>e=.returned (.int .i64<|Xu l)/\Below (xz<|xj w) w d:=
 Tx (Z9b a) rfl rfl w
def A0{l:Ly}(a:l.aw)(part at_:Int)(w:Z3):Calls xP 26 #[Vi l,.agg #[.int .i64 part,.int .i64 at_]] w λe d=>e=.returned (.tuple #[.int .u64 (Y1 l part at_).1,.int .i64 (Y1 l part at_).2])/\Below (xz<|xj w) w d:=
 Tx (Fi a) rfl rfl w
def yf{l:Ly}(f:l.aw){a:Int}(d:ZC a)(w:Z3):Calls xP 62 #[Vi l,.int .u64 a] w λe g=>e=.returned (.tuple #[.agg #[.int .i64 (Yf l a).1,.int .i64 (Yf l a).2.1],.int .i64 (Yf l a).2.2])/\Below (xz<|xj w) w g:=
 Tx (Z3C f d) rfl rfl w
def U9{x:Int}(hx:ZC x)(w:Z3):Calls xP 58 #[.int .u64 x] w λe a=>e=.returned (.tuple #[.int .u64 (adr x).1,.int .i64 (adr x).2])/\Below (xz<|xj w) w a:=
 Tx (Kl hx) rfl rfl w
def O0{x:Int}(hx:ZC x)(w:Z3):Calls xP 28 #[.int .u64 x] w λe a=>e=.returned (.tuple #[.int .u64 (Xn x).1,.int .i64 (Xn x).2])/\Below (xz<|xj w) w a:=
 Tx (Z8i hx) rfl rfl w
def K5{x:Int}(hx:ZC x)(w:Z3):Calls xP 64 #[.int .u64 x] w λe a=>e=.returned (.tuple #[.agg #[.int .i64 (ZR x).1,.int .i64 (ZR x).2.1],.int .i64 (ZR x).2.2])/\Below (xz<|xj w) w a:=
 Tx (PT hx) rfl rfl w
def Ts{h:Hp}{x:Z5}(g:∀b,G b->b<xz (xj w))(d:∀j,j<5->Rd w G (.sl<|(Zu h j).map vu) (x j)):
  Calls xP 27 #[ZA h x] w λe f=>e=.returned (Vi<|Zv h)/\Below (xz<|xj w) w f:=by
 refine ZjB ((Et (h:=h)).2 w G _ g rfl ?_) ?_;intro i y a
 match i,a with
 |0,a=>
  cases a;refine .agg _ _ rfl (by simp[V.one]) ?_;intro i y a
  match i,a with
  |0,a=>cases a;exact .int _ _
  |1,a=>cases a;exact .int _ _
  |2,a=>cases a;exact .int _ _
  |3,a=>cases a;exact .bool _
  |4,a=>cases a;exact .int _ _
  |5,a=>cases a;exact d 0 Z0
  |6,a=>cases a;exact d 1 Z0
  |7,a=>cases a;exact d 2 Z0
  |8,a=>cases a;exact d 3 Z0
  |9,a=>cases a;exact d 4 Z0
 rintro e f ⟨v,rfl,k,l⟩;exact⟨by rw[Ge ZgR l];rfl,k⟩
end
end Vm
end
section
namespace Vm
open Go Go.Proofs Go.RowKit
structure Now (B:Nat) (w:World) (b:Nat) (h:Hp) (x:Nat->Value):Prop where
 blk:w.heap[b]?=J (.cells #[.int .u64 h.base,.int .i64 h.cap,.int .i64 h.to,.bool h.Y,.int .i64 h.Z,x 0,x 1,x 2,x 3,x 4] 134 (0,0))
 own:HOwn B w h x
 ak:∀j,j<5->∀c,(x j).ownBlock=J c->c≠b
 new:B<=b
def S5(h:Hp)(part:Int)(a n:Nat):Int:=(Xn (Y1 (Zv<|Xr h part a n) 1<|I h.H).1).1
def Z0C(B:Nat)(w:World)(b:Nat)(h:Hp)(p a n:Nat)(e:Ending)(w':World):Prop:=
 ∃d,e=.returned (.int .u64<|S5 h (p+1) a n)/\Below B w w'/\Now B w' b (Xk (Xr h (p+1) a n) (p+1)<|(zr (Zu h p) a n).set a<|S5 h (p+1) a n) d
def Zbo{P}w{o:Oper}{a K Q}s t
  (d:o.op=.call {callee:=.builtin .clear,args:=#[s],argTypes:=#[t]}) vs (g:a.eval s=vs)
  w' (f:(Builtin.clear_ #[t] o.type #[vs]).run P w=.ok (.tuple #[]) w') (h:K (a.put o.dst<|.tuple #[]) w'):o.wp P a w K Q:=by
 unfold Oper.wp execOp;simp[d,resolve,invoke,builtin,g,f];exact h
def Zbl{P}w{ops rest o a Q}(d:o.guard=U)s t
  (f:o.op=.call {callee:=.builtin .clear,args:=#[s],argTypes:=#[t]}) vs (j:a.eval s=vs)
  w' (g:(Builtin.clear_ #[t] o.type #[vs]).run P w=.ok (.tuple #[]) w') (h:wpList P ops Q rest (a.put o.dst<|.tuple #[]) w'):wpList P ops Q (o::rest) a w:=
 wpList_plain d λ_ k=>Zbo w s t f vs j w' g Zg0
def Pc{b c}(hc:c≠b):∀vs o (w:World),(w.setCells b o vs).heap[c]?=w.heap[c]?
 | [],_,_=>rfl
 |v::r,o,w=>by
  show((w.setCell ⟨b,o,U⟩ v).setCells b _ r).heap[c]?=_;rw[Pc hc r];exact Zhj _ _ _ _ hc
def Pd b:∀vs o (w:World),xz (xj<|w.setCells b o vs)=xz (xj w)
 | [],_,_=>rfl
 |v::r,o,w=>by
  show xz (xj<|(w.setCell ⟨b,o,U⟩ v).setCells b _ r)=_;rw[Pd b r];simp
def Pa{B b}(d:B<=b):∀vs o a w,Below B a w->Below B a (w.setCells b o vs)
 | [],_,_,_,h=>h
 |v::r,o,a,w,h=>Pa d r _ a _<|h.setCell d _
def ML{B g len cap L}a:∀n k (w:World),a+k+n<=len->w.ownsRow B 24 1 (.slice (J ⟨g,0,U⟩) len cap) len (Yg .u64<|zr L a k)->
  (w.setCells g (a+k)<|List.replicate n<|.int .u64 0).ownsRow B 24 1 (.slice (J ⟨g,0,U⟩) len cap) len (Yg .u64<|zr L a<|k+n)
 |0,k,w,_,h=>h
 |n+1,k,w,j,h=>by
  have d:=(h.stored (a+k)<|.int .u64 0).1;have f:(Yg .u64<|zr L a k).set (a+k) (.int .u64 0)=Yg .u64 (zr L a<|k+1):=by rw[zr,Lf]
  rw[f]at d;have:=ML a n _ _ Z0 d;rw[show k+1+n=k+(n+1)by omega]at this;exact this
def Z34(w:World)(B b:Nat)(h:Hp)(x:Nat->Value)(q:Now B w b h x)(hB:B<=xz (xj w))(hh:h.ok)(p a n:Nat)(hp:p=2\/p=3)(S:0<n)(hn:n<=1000)(f4:(n:Int)<=Xu (Zv h))
  (g cap:Nat) (hx:x p=.slice (J ⟨g,0,U⟩) (I<|Zu h p) cap) (j1:a+n<=I (Zu h p)) (c':Nat):
  Calls xP 66 #[.pointer<|J ⟨b,0,U⟩,.slice (J ⟨g,a,U⟩) n c'] w (Z0C B w b h p a n):=by
 obtain⟨iU,e8,i8,i5,j2⟩:=info_parts Z5w;have k6:I (Zu h 0)<=1000000:=JB hh 0;obtain⟨v1,w1,i4,f3,z,a9⟩:=Z9o (P:=xP) (w:=w) (T:=28) (tI:=3) (ty:=28) SY Z29 e8 i8 rfl rfl i5 j2 (q.own.own 0 Z0) hB S Z0 .i64;obtain⟨a0,q0,e0⟩:=Yi<|q.own.own 0 Z0;have b0:w.cell? ⟨b,5,U⟩=J (x 0):=by rw[Zh7 _ _ _ _ _ _ q.blk];rfl
 have f0:w.frozen? ⟨b,5,U⟩=xw:=Yc q.blk;have e4:=Y9 q.blk;have F:J b≠(x 0).ownBlock:=λe=>q.ak 0 Z0 b e.symm rfl;have c1:=(z.cell_far ⟨b,5,U⟩ e4 F).trans b0;have f1:=(z.frozen_far ⟨b,5,U⟩ e4 F).trans f0;rw[e0]at i4 b0 c1;have i1:I (Yg .u64<|Zu h 0)=I (Zu h 0):=by simp[Yg]
 obtain⟨_,k2⟩|⟨g0,q1,y,k0,b3,g7,j8,j9,b1,f8⟩:=f3.2;omega;subst k0;have k3:¬q1=I (Zu h 0):=Z0;have R:g0≠b:=by
  intro e;obtain r|⟨_,r⟩:=a9;exact F (by rw[<-r,e];rfl);have:=(r.lt g0 rfl).1;omega
 have e5:g≠b:=q.ak p Z0 g (by rw[hx];rfl);have h8:g<xz (xj w):=((q.own.own p Z0).lt g (by rw[hx];rfl)).2;have e7:J g≠(x 0).ownBlock:=λe=>q.own.apart 0 p Z0 Z0 g e.symm (by rw[hx];rfl);have b4:g≠g0:=by
  intro e;obtain r|⟨_,r⟩:=a9;exact e7 (by rw[<-r,e];rfl);have:=(r.lt g0 rfl).1;omega
 obtain⟨w2,H⟩:∃w2,w2=w1.setCell ⟨b,5,U⟩ (.slice (J ⟨g0,0,U⟩) (I (Zu h 0)+n) q1):=⟨_,rfl⟩;have Q:w2.heap[g0]?=J (.cells y 24 (0,0)):=by rw[H,Zhj _ _ _ _ R];exact g7
 have h6:∀c,c≠b->c<xz (xj w)->J c≠(x 0).ownBlock->w2.heap[c]?=w.heap[c]? :=λc A h2 h3=>by
  rw[H,Zhj _ _ _ _ A,z.block c h2 h3]
 have N:w2.heap[b]?=J (.cells #[.int .u64 h.base,.int .i64 h.cap,.int .i64 h.to,.bool h.Y,.int .i64 h.Z,.slice (J ⟨g0,0,U⟩) (I (Zu h 0)+n) q1,x 1,x 2,x 3,x 4] 134 (0,0)):=by
  have:=(z.block b e4 F).trans q.blk;rw[H];simp[World.setCell,ZhB,this]
 have i9:w2.cell? ⟨b,5,U⟩=J (.slice (J ⟨g0,0,U⟩) (I (Zu h 0)+n) q1):=by rw[Zh7 _ _ _ _ _ _ N];rfl
 have X:w2.ownsRow B 24 1 (x p) (I<|Zu h p)<|Yg .u64<|Zu h p:=Xs (q.own.own p Z0) λc f=>by
  rw[hx]at f;cases f;exact h6 g e5 h8 e7
 obtain⟨M,a8⟩:∃M,M=Yg .u64 (((Zu h p).take<|a+n).drop a):=⟨_,rfl⟩;have O:I M=n:=by rw[a8];simp[Yg];omega
 have i6:∀j v,M[j]?=J v->w2.cell? ((⟨g,a,U⟩:Addr).add j)=J v:=by
  intro j v hv;have o:j<n:=by rw[<-O];exact(ZgZ.1 hv).1
  rw[hx]at X;have:=X.cellAt (a+j) Z0;rw[ZiB,this];rw[a8]at hv;simp only[Yg]at hv⊢;rw[<-hv];simp[ZhD,show a+j<a+n by omega]
 obtain⟨w3,K⟩:∃w3,w3=w2.setRow g0 (y.toList.take (I<|Zu h 0)++(M++y.toList.drop (I (Zu h 0)+I M))).toArray:=⟨_,rfl⟩;have b2:I (Zu h 0)+I M<=y.size:=by rw[O];simp at b1;omega
 have i3:∀v∈M,v.oneCell'=xk:=by
  intro v hv;rw[a8]at hv;obtain⟨_,_,rfl⟩:=Zhl.1 hv;rfl
 have i2:I M=Nat.min n n:=by rw[O];simp
 have i7:(xP.info? 24).map (·.size)=J 1:=by rw[e8];simp[i5]
 have d:w3.heap[b]?=J (.cells #[.int .u64 h.base,.int .i64 h.cap,.int .i64 h.to,.bool h.Y,.int .i64 h.Z,.slice (J ⟨g0,0,U⟩) (I (Zu h 0)+n) q1,x 1,x 2,x 3,x 4] 134 (0,0)):=by
  rw[K,ZiS _ _ _ _ R.symm];exact N
 have h9:∀c,c≠b->c≠g0->c<xz (xj w)->J c≠(x 0).ownBlock->w3.heap[c]?=w.heap[c]? :=λc A h2 h3 h4=>by
  rw[K,ZiS _ _ _ _ h2];exact h6 c A h3 h4
 have k4:xz (xj w)<=xz (xj w3):=by
  have:=z.size;have e2:xz (xj w2)=xz (xj w1):=by rw[H];simp[World.setCell]
  have e3:xz (xj w3)=xz (xj w2):=by rw[K];simp[World.setRow]
  omega
 have j5:Zu (Xr h (p+1) a n) 0=Zu h 0++((Zu h p).take<|a+n).drop a:=by
  obtain rfl|rfl:=hp<;>rfl
 have i0:∀j,j≠0->Zu (Xr h (p+1) a n) j=Zu h j:=λj o=>by
  unfold Zu Xr;simp[o]
 have Y:∀j,j<5->w3.ownsRow B 24 1 (if j=0 then .slice (J ⟨g0,0,U⟩) (I (Zu h 0)+n) q1 else x j) (I<|Zu (Xr h (p+1) a n) j) (Yg .u64<|Zu (Xr h (p+1) a n) j):=by
  intro j o;by_cases e9:j=0;subst e9;rw[Zhc rfl,j5];have hd:I (((Zu h p).take<|a+n).drop a)=n:=Zg1;refine⟨by simp[Yg],.inr ⟨g0,q1,(y.toList.take (I<|Zu h 0)++(M++y.toList.drop (I (Zu h 0)+I M))).toArray,?_,b3,?_,?_,j9,?_,?_⟩⟩;rw[ZhJ,hd];rw[K];exact Zlc _ _ _ _ _ _ Q;rw[ZhJ,hd];exact j8;simp[O]at b1 b2⊢;omega;have ht:y.toList.take (I<|Zu h 0)=Yg .u64 (Zu h 0):=by
   have:=Zi8 (List.take<|I<|Zu h 0) f8;rw[List.take_take,Zkt Z0]at this;rw[this,List.take_left' i1]
  rw[ZhJ,hd,ht];simp only[Zld];rw[<-ZhM,List.take_left' (by simp[i1,O]),a8];simp[Yg];rw[Zh9 e9,i0 j e9];have ho:=q.own.own j o
  exact Xs ho λc f=>h9 c (q.ak j o c f) (λe=>by
   obtain r|⟨_,r⟩:=a9;exact q.own.apart 0 j Z0 o c (by rw[<-r,e];rfl) f;have A:=(r.lt g0 rfl).1;have h2:=(ho.lt c f).2;omega) (ho.lt c f).2 (λe=>q.own.apart 0 j Z0 o c e.symm f)
 have g8:∀j,0<j->j<5->(x j).ownBlock≠J g0:=λj h0 o f=>by
  obtain r|⟨_,r⟩:=a9;exact q.own.apart 0 j h0 o g0 (by rw[<-r];rfl) f;have A:=(r.lt g0 rfl).1;have h2:=((q.own.own j o).lt g0 f).2;omega
 have j3:∀j,j<5->j≠p->(x j).ownBlock≠J g:=λj o F f=>by
  have h7:(x p).ownBlock=J g:=by rw[hx];rfl
  obtain A|A:=ZjX F;exact q.own.apart j p A Z0 g f h7;exact q.own.apart p j A o g h7 f
 have h5:B<=g:=((q.own.own p Z0).lt g (by rw[hx];rfl)).1;have b5:=q.own.own p Z0;rw[hx]at b5;have Z:∀W:World,W.heap[g]?=w.heap[g]? ->W.ownsRow B 24 1 (.slice (J ⟨g,0,U⟩) (I<|Zu h p) cap) (I<|Zu h p) (Yg .u64<|Zu h p):=λW hW=>Xs b5 λc f=>by
  cases f;exact hW
 have j6:I (Yg .u64<|Zu h p)=I (Zu h p):=by simp[Yg]
 have l:∀W:World,W.heap[g]?=w.heap[g]? ->(∀j,j<n->(W.cell? ⟨g,a+j,U⟩).isSome=xk)/\(∀j,j<n->W.frozen? ⟨g,a+j,U⟩=xw):=λW hW=>⟨λj o=>by
  rw[(Z W hW).cellAt (a+j) Z0];simp[j6];omega,λj o=>(Z W hW).frozenAt _⟩
 have g9:w3.heap[g]?=w.heap[g]? :=h9 g e5 b4 h8 e7;have HN:=Zh2 q;have HO:=Zh2 f3;have HG:=Zh2 z;have g3:=Zh2 H;have g4:=Zh2 K;have f9:=Zh2 Y;have d0:w3.cell? ⟨b,0,U⟩=J (Value.int .u64 h.base):=Zga;have d1:w3.cell? ⟨b,1,U⟩=J (Value.int .i64 h.cap):=Zga;have d2:w3.cell? ⟨b,2,U⟩=J (Value.int .i64 h.to):=Zga;have d3:w3.cell? ⟨b,3,U⟩=J (Value.bool h.Y):=Zga;have d4:w3.cell? ⟨b,4,U⟩=J (Value.int .i64 h.Z):=Zga;have d5:w3.cell? ⟨b,5,U⟩=J (Value.slice (J ⟨g0,0,U⟩) (I (Zu h 0)+n) q1):=Zga;have d6:w3.cell? ⟨b,6,U⟩=J (x 1):=Zga;have d7:w3.cell? ⟨b,7,U⟩=J (x 2):=Zga;have d8:w3.cell? ⟨b,8,U⟩=J (x 3):=Zga;have d9:w3.cell? ⟨b,9,U⟩=J (x 4):=Zga;have j7:(Xr h (p+1) a n).ok:=M2 hh (by obtain rfl|rfl:=hp<;>exact j1) f4 S;clear q f3 z H K Y;go_enter F6,Try.ntmps66
 go_wp2_with (first
  |(at_builtin;refine Lib.wpList_append_run _ rfl _ _ 28 3 rfl _ _ rfl rfl _ _ i4 ?_)
  |(rw[<-g3.out];refine wpList_copy_own rfl _ _ 28 28 rfl 24 SY i7 g0 (I<|Zu h 0) n (q1- I (Zu h 0)) ⟨g,a,U⟩ n c' rfl rfl y 24 Q M i2 i6 b2 i3 ?_;rw[<-g4.out])
  |(go_at_call 27;refine(Ts (h:=Xr h (p+1) a n) (x:=λj=>if j=0 then .slice (J ⟨g0,0,U⟩) (I (Zu h 0)+n) q1 else x j) (G:=λc=>B<=c/\c<xz (xj w3)) (λc f=>f.2)<|λj o=>Rp (f9.out j o) (λc A h2=>⟨A,h2⟩)).mono ?_;rintro e w4 ⟨rfl,g6⟩;have t:=Zh2 g6;clear g6)
  |(go_at_call 26;refine(A0 j7.bb _ _ _).mono ?_;rintro e C ⟨rfl,a6⟩;have D:C.heap[g]?=w.heap[g]? :=(a6.block g (by have:=t.out.size;omega)).trans<|(t.out.block g<|by omega).trans g9;have k8:xz (xj w3)<=xz (xj C):=Zhu t.out.size a6.size;have a4:=Zh2 a6;clear a6;obtain⟨w6,a3⟩:∃w6,w6=C.setCells g a (List.replicate n<|.int .u64 0):=⟨_,rfl⟩;have k9:xz (xj w6)=xz (xj C):=by {rw[a3];exact Pd _ _ _ _};have c6:w6.cell? ⟨g,a,U⟩=J (.int .u64 0):=by {rw[a3];have:=World.cell?_setCells_in g (List.replicate n<|Value.int .u64 0) a C (by simpa using(l C D).1) 0 (by simpa using S);simpa using this};have f6:w6.frozen? ⟨g,a,U⟩=xw:=by {rw[a3,World.frozen?_setCells];exact(l C D).2 0 S};have a5:=Zh2 a3;clear a3)
  |(refine Zbl _ rfl _ 28 rfl _ rfl _ (Lib.run_clear_slice _ _ 24 _ (.int .u64 0) SY (jl e8 i8) rfl rfl g a n c' S (l C D).1 (l C D).2) ?_;rw[<-a5.out])
  |(go_at_call 28;refine(O0 Z2f _).mono ?_;rintro e w7 ⟨rfl,a7⟩;have c7:=(a7.cell (p:=⟨g,a,U⟩) (by show g<xz (xj w6);omega)).trans c6;have f7:=(a7.frozen (p:=⟨g,a,U⟩) (by show g<xz (xj w6);omega)).trans f6;have b6:=Zh2 a7;clear a7))
 go_ret
 have b7:Below B w w3:=by
  rw[g4.out,g3.out];exact Go.below_setRow (Below.setCell (p:=⟨b,5,U⟩) ((Zhi B w).grown HG.out hB<|λk hk=>((HN.out.own.own 0 Z0).lt k hk).1) HN.out.new _) b3 _
 have j0:B<=xz (xj w3):=Z0;have b8:Below B w C:=(b7.trans<|t.out.mono j0).trans<|a4.out.mono (by have:=t.out.size;omega);have b9:Below B w w6:=by rw[a5.out];exact Pa h5 _ _ _ _ b8
 have c0:Below B w w7:=b9.trans<|b6.out.mono Z0;have k7:=t.out.size;have k5:=a4.out.size;have g5:∀(c:Nat) (u:Value),c≠g->c<xz (xj w3)->(w7.setCell ⟨g,a,U⟩ u).heap[c]?=w3.heap[c]? :=λc u A h2=>by
  rw[Zhj _ _ _ _ A,b6.out.block c Z0,a5.out,Pc A,a4.out.block c Z0,t.out.block c h2]
 have D:C.heap[g]?=w.heap[g]? :=(a4.out.block g Z0).trans<|(t.out.block g Z0).trans g9;have a1:=ML (L:=Zu h p) a n 0 C Z0<|Z C D;have e6:C.setCells g (a+0) (List.replicate n<|.int .u64 0)=w6:=a5.out.symm;rw[e6,ZhN]at a1;have f5:=Xs (w':=w7) a1 λc f=>by
  cases f;exact b6.out.block g Z0
 have a2:=(f5.stored a<|.int .u64<|S5 h (p+1) a n).1;rw[<-Lf]at a2;refine⟨λj=>if j=0 then .slice (J ⟨g0,0,U⟩) (I (Zu h 0)+n) q1 else x j,rfl,c0.setCell h5 _,?_,⟨?_,?_⟩,?_,HN.out.new⟩;rw[g5 b _ (λe=>e5 e.symm) Z0,d];obtain rfl|rfl:=hp<;>rfl;intro j o;by_cases f2:j=p;subst f2;have r:Zu (Xk (Xr h (j+1) a n) (j+1)<|(zr (Zu h j) a n).set a<|S5 h (j+1) a n) j=(zr (Zu h j) a n).set a (S5 h (j+1) a n):=by
  obtain rfl|rfl:=hp<;>rfl
 rw[r,Zh9 Z0,hx,ZiY,jN];exact a2;have r:Zu (Xk (Xr h (p+1) a n) (p+1)<|(zr (Zu h p) a n).set a<|S5 h (p+1) a n) j=Zu (Xr h (p+1) a n) j:=by
  have:j=0\/j=1\/j=2\/j=3\/j=4:=Z0;obtain rfl|rfl:=hp<;>obtain rfl|rfl|rfl|rfl|rfl:=this<;>first|rfl|exact(f2 rfl).elim
 rw[r];have ho:=f9.out j o;refine Xs ho λc f=>g5 c _ (λe=> ?_) (ho.lt c f).2;subst e;by_cases h0:j=0;rw[Zhc h0]at f;cases f;exact b4 rfl;rw[Zh9 h0]at f;exact j3 j o f2 f;intro i j j4 o c f;rw[Zh9 (Z0:¬j=0)];by_cases h0:i=0;rw[Zhc h0]at f;cases f;exact g8 j Z0 o;rw[Zh9 h0]at f;exact HN.out.own.apart i j j4 o c f;intro j o c f;by_cases h0:j=0;rw[Zhc h0]at f;cases f;exact R;rw[Zh9 h0]at f;exact HN.out.ak j o c f
end Vm
namespace Vm
open Go Go.Proofs Go.RowKit
def H9(w:World)(B b:Nat)(h:Hp)(x:Nat->Value)(j:Now B w b h x)(o:h.ok)(p a:Nat)(q:p=2\/p=3)(g cap:Nat)
  (hx:x p=.slice (J ⟨g,0,U⟩) (I<|Zu h p) cap) (t:a< I (Zu h p)):
  Calls xP 63 #[.pointer<|J ⟨b,0,U⟩,.agg #[.int .i64<|(p:Int)+1,.int .i64 a]] w λe r=>e=.returned (.slice (J ⟨g,a,U⟩) (I (Zu h p)-a)<|cap-a)/\Below (xz<|xj w) w r:=by
 have f:=Y9 j.blk;have u:=JB o p;have l:I (Zu h p)<=cap:=by
  have:=(j.own.own p Z0).2;rw[hx]at this;obtain⟨k,_⟩|⟨_,_,_,k,_,_,n,_⟩:=this;cases k;cases k;exact n
 obtain rfl|rfl:=q
 .have c7:(w.alloc<|.cells #[.int .i64 3,.int .i64 a] 68).cell? ⟨b,7,U⟩=J (.slice (J ⟨g,0,U⟩) (I<|Zu h 2) cap):=by
   rw[Ziu _ _ _ f,Zh7 _ _ _ _ _ _ j.blk,<-hx];rfl
  have d:(I (Zu h 2):Int)<=9223372036854775807:=Z0;go_enter jW,Try.ntmps63;go_wp2;go_region;go_wp2;go_ret
  exact⟨rfl,((Zhi _ _).alloc (Zh3 _) _).drew⟩
 .have c8:(w.alloc<|.cells #[.int .i64 4,.int .i64 a] 68).cell? ⟨b,8,U⟩=J (.slice (J ⟨g,0,U⟩) (I<|Zu h 3) cap):=by
   rw[Ziu _ _ _ f,Zh7 _ _ _ _ _ _ j.blk,<-hx];rfl
  have d:(I (Zu h 3):Int)<=9223372036854775807:=Z0;go_enter jW,Try.ntmps63;go_wp2;go_region;go_wp2;go_ret
  exact⟨rfl,((Zhi _ _).alloc (Zh3 _) _).drew⟩
end Vm
namespace Vm
open Go Go.Proofs Go.RowKit
def RV(w:World)(r:Int×Hp×Int)(e:Ending)(w':World):Prop:=
 ∃x,e=.returned (.tuple #[.int .u64 r.1,ZA r.2.1 x,.int .i64 r.2.2])/\Below (xz<|xj w) w w'/\HOwn (xz<|xj w) w' r.2.1 x
def Rq{B' B}{w:World}{e n v l}(h:w.ownsRow B' e 1 v n l)(k:∀c,B'<=c->c<xz (xj w)->B<=c/\c<xz (xj w)):w.ownsRow B e 1 v n l:=by
 refine⟨h.1,?_⟩;obtain d|⟨g,cap,a,j,o,f,r⟩:=h.2;exact .inl d;exact .inr ⟨g,cap,a,j,ZfZ,f,r⟩
def jM w' G:∀j,j<5->Rd w' G (.sl<|(Zu Hp.zero j).map vu) (.slice U 0 0):=λj a=>by
 have:Zu Hp.zero j=[]:=by
  unfold Zu Hp.zero;split;rfl;split;rfl;split;rfl;split<;>rfl
 rw[this];exact .nil _ _ Zgh
def RT B w':HOwn B w' Hp.zero (λ_=>.slice U 0 0):=⟨λj d=>by
 have:Zu Hp.zero j=[]:=by
  unfold Zu Hp.zero;split;rfl;split;rfl;split;rfl;split<;>rfl
 rw[this];exact Zio _ _ _ _,λi j _ _ c a=>by cases a⟩
def S8(w:World)(o:Obj):((w.alloc o).alloc<|.cells #[.int .u64 0,.int .i64 0,.int .i64 0,.bool xw,.int .i64 0,.slice U 0 0,.slice U 0 0,.slice U 0 0,.slice U 0 0,.slice U 0 0] 30).heap[xz (xj w)+1]?=J (.cells ZL 30 (0,0)):=by
 have e:xz (xj<|w.alloc o)=xz (xj w)+1:=Z1;have:=Zhk (w.alloc o)<|.cells ZL 30;rw[e]at this;exact this
end Vm
namespace Vm
open Go Go.Proofs Go.RowKit
def jI(h:Hp)(x:Nat->Value):Obj:=.cells #[.int .u64 h.base,.int .i64 h.cap,.int .i64 h.to,.bool h.Y,.int .i64 h.Z,x 0,x 1,x 2,x 3,x 4] 134
def C3{B a h x}(f:HOwn B a h x)(k:B<=xz (xj a)):Now B (a.alloc<|jI h x) (xz<|xj a) h x:=by
 refine⟨Zhk a _,⟨λj d=> ?_,f.apart⟩,λj d c g=> ?_,k⟩;exact Xs (f.own j d) λc g=>Zh4 _ _ _ ((f.own j d).lt c g).2;have:=((f.own j d).lt c g).2;omega
def Gg(W:World):W.drew.heap=W.heap:=rfl
def qQ{w2 b c}(hc:c≠b)v0 v1 a d v4 f v6 g h j:(TV w2 b v0 v1 a d v4 f v6 g h j).drew.heap[c]?=w2.heap[c]? :=by
 rw[Gg];exact UJ hc v0 v1 a d v4 f v6 g h j
def qA{w:World}{B n q e z a v xs}(h:w.ownsRow B e z v n xs)(j:v=.slice a n q)(l:0<n):∃g,a=J ⟨g,0,U⟩:=by
 subst j;obtain⟨_,k⟩|⟨g,cap,d,f,_⟩:=h.2;omega;cases f;exact⟨g,rfl⟩
def Z7s{w:World}{B n q e z a xs}(h:w.ownsRow B e z (.slice a n q) n xs)(o:0<n):n<=q/\q<=maxLen:=by
 obtain⟨_,l⟩|⟨g,cap,d,k,_,_,f,j,_⟩:=h.2;omega;cases k;exact⟨f,j⟩
def QB{w:World}{B g cap l}(h:w.ownsRow B 24 1 (.slice (J ⟨g,0,U⟩) (I l) cap) (I l)<|Yg .u64 l){i v}(a:l[i]?=J v):w.cell? ⟨g,i,U⟩=J (.int .u64 v):=by
 let⟨d,f⟩:=ZgZ.1 a;rw[h.cellAt i Z0];simp[Yg,a]
structure FwSt (w W:World) (rb lb kb b B:Nat) (part at_:Int) (h:Hp) (x:Nat->Value):Prop where
 cz:W.heap[rb]?=J (.cells ZL 30 (0,0))
 bb:W.heap[lb]?=J (.cells #[.int .u64 (Zv h).base,.int .i64 (Zv h).cap,.int .i64 (Zv h).to,.int .i64 (Zv h).H,.int .i64 (Zv h).ab,.int .i64 (Zv h).ah,.int .i64 (Zv h).ak] 65 (0,0))
 ul:W.heap[kb]?=J (.cells #[.int .i64 part,.int .i64 at_] 68 (0,0))
 br:Now B W b h x
 cy:Below (xz<|xj w) w W
 ah:xz (xj w)<=rb
 tf:rb<B
 su:lb<B
 uy:kb<B
 sz:B<=xz (xj W)
def FwSt.below{w W W' f lb kb b B part at_ h x}(s:FwSt w W f lb kb b B part at_ h x)(a:Below (xz<|xj W) W W'):FwSt w W' f lb kb b B part at_ h x:=by
 have p:=s.sz;have g:=s.tf;have k:=s.su;have l:=s.uy;have o:=a.size;refine⟨(a.block _ Z0).trans s.cz,(a.block _ Z0).trans s.bb,(a.block _ Z0).trans s.ul,⟨(a.block _<|Y9 s.br.blk).trans s.br.blk,⟨λj d=> ?_,s.br.own.apart⟩,s.br.ak,s.br.new⟩,s.cy.trans<|a.mono s.cy.size,s.ah,g,k,l,Z0⟩;exact Xs (s.br.own.own j d) λc n=>a.block _ ((s.br.own.own j d).lt c n).2
def FwSt.drew{w W a lb kb b B part at_ h x}(s:FwSt w W a lb kb b B part at_ h x):FwSt w W.drew a lb kb b B part at_ h x:=
 ⟨s.cz,s.bb,s.ul,⟨s.br.blk,⟨λj d=>Xs (s.br.own.own j d) λc f=>rfl,s.br.own.apart⟩,s.br.ak,s.br.new⟩,s.cy.drew,s.ah,s.tf,s.su,s.uy,s.sz⟩
def FwSt.F{w W a lb kb b B part at_ h x}(s:FwSt w W a lb kb b B part at_ h x):(∀j,W.cell? ⟨a,j,U⟩=(#[.int .u64 0,.int .i64 0,.int .i64 0,.bool xw,.int .i64 0,.slice U 0 0,.slice U 0 0,.slice U 0 0,.slice U 0 0,.slice U 0 0]:Array Value)[j]?)/\(∀j,W.frozen? ⟨a,j,U⟩=xw)/\
  (∀j,W.cell? ⟨b,j,U⟩=(#[.int .u64 h.base,.int .i64 h.cap,.int .i64 h.to,.bool h.Y,.int .i64 h.Z,x 0,x 1,x 2,x 3,x 4]:Array Value)[j]?)/\(∀j,W.cell? ⟨kb,j,U⟩=(#[.int .i64 part,.int .i64 at_]:Array Value)[j]?)/\∀j,W.cell? ⟨lb,j,U⟩=(#[.int .u64 (Zv h).base,.int .i64 (Zv h).cap,.int .i64 (Zv h).to,.int .i64 (Zv h).H,.int .i64 (Zv h).ab,.int .i64 (Zv h).ah,.int .i64 (Zv h).ak]:Array Value)[j]? :=
 ⟨λj=>Zh7 _ _ _ _ _ _ s.cz,λj=>Yc s.cz,λj=>Zh7 _ _ _ _ _ _ s.br.blk,λj=>Zh7 _ _ _ _ _ _ s.ul,λj=>Zh7 _ _ _ _ _ _ s.bb⟩
def Z0P(w:World)(G:Nat->Prop)(Q:∀b,G b->b<xz (xj w))(h:Hp)(hh:h.ok)(p:Nat->Value)(hs:∀j,j<5->Rd w G (.sl<|(Zu h j).map vu) (p j))(v:Int)(hv:ZC v)
  (hr:ZI (Zv h)=xk) (a7:¬v=0) (h1:(adr v).2=0) (part:Int) (at_:Nat) (hf:Yf (Zv h) (adr v).1=(part,(at_:Int),0)) (hp:part=1\/part=2):
  Calls xP 42 #[ZA h p,.int .u64 v] w (RV w<|fwd h v):=by
 have HS:=Zh2 hs;have T:=Zh2 hh;clear hs hh;unfold ZA;go_enter Kj,Try.ntmps42;obtain rfl|rfl:=hp;all_goals
  go_wp2_with (first
   |(go_at_call 27;go_loud (refine(Ts (h:=h) (x:=p) (G:=G) (λc X=>by have:=Q c X;simp;omega) (λj O=>(HS.out j O).keep (λb N=>by have:=Q b N;rw[Zh4 _ _ _ (by simp;omega),Zh4 _ _ _ (by omega)])<|λ_ h=>h)).mono ?_;rintro e w1 ⟨rfl,n⟩;unfold Vi;have z1:=(n.block (xz (xj w)+1)<|by simp).trans<|S8 w _;have p1:=(n.block (xz<|xj w) (by simp;omega)).trans<|(Zh4 _ _ (xz<|xj w)<|by simp).trans<|Zhk w _;have Z:=n.size;simp at Z;have R:=Zh2 n;clear n))
   |(go_at_call 47;go_loud (refine(QJ T.out.bb _).mono ?_;rintro e w2 ⟨rfl,d⟩;rw[hr];have z2:=(d.block (xz (xj w)+1) (by simp;omega)).trans<|(Zh4 w1 _ (xz (xj w)+1)<|by omega).trans z1;have p2:=(d.block (xz<|xj w) (by simp;omega)).trans<|(Zh4 w1 _ (xz<|xj w)<|by omega).trans p1;have x2:=λj=>Zh7 _ _ j _ _ _ p2;have r:Below (xz<|xj w) w w2:=((((((Zhi _ _).alloc (Zh3 _) _).alloc (by simp) _).trans<|R.out.mono (by simp;omega)).alloc (by omega) _).trans<|d.mono (by simp;omega));have a5:=d.size;simp at a5;have m2:=(d.block (xz<|xj w1)<|by simp).trans<|Zhk w1 _;have A:=Zh2 r;clear d r))
   |(go_at_call 58;go_loud (refine(U9 hv _).mono ?_;rintro e w3 ⟨rfl,f⟩;have z3:=(f.block (xz (xj w)+1)<|by omega).trans z2;have p3:=(f.block (xz<|xj w)<|by omega).trans p2;have m3:=(f.block (xz<|xj w1)<|by omega).trans m2;have l3:=λj=>Zh7 _ _ j _ _ _ m3;have b0:=f.size;have S:=Zh2 f;clear f))
   |(go_at_call 62;go_loud (refine(yf T.out.bb (zB hv) _).mono ?_;rintro e w4 ⟨rfl,g⟩;rw[hf];dsimp only;have b1:=g.size;have z4:=λo=>(Zh4 w4 o (xz (xj w)+1)<|by omega).trans<|(g.block (xz (xj w)+1)<|by omega).trans z3;have p4:=λo=>(Zh4 w4 o (xz<|xj w)<|by omega).trans<|(g.block (xz<|xj w)<|by omega).trans p3;have x4:=λo j=>Zh7 _ _ j _ _ _<|p4 o;have t:∀o,Below (xz<|xj w) w<|w4.alloc o:=λo=>((A.out.trans<|S.out.mono (by omega)).trans<|g.mono (by omega)).alloc (by omega) o;have m4:=λo=>(Zh4 w4 o (xz<|xj w1)<|by omega).trans<|(g.block (xz<|xj w1)<|by omega).trans m3;have q:=Zh2 t;clear g t z3 p3 m3 l3 z2 p2 x2 m2))
   |(go_at_call 23;go_loud (refine(Ki _ G (λb N=>by have:=Q b N;simp;omega) h T.out p<|λj O=>(HS.out j O).keep (λb N=>(q.out _).block b<|Q b N) (λ_ h=>h)).mono ?_;rintro e z ⟨x,rfl,k,a⟩;obtain⟨a0,q0,C⟩:=Yi<|a.own 0 Z0;obtain⟨a1,q1,D⟩:=Yi<|a.own 1 Z0;obtain⟨a2,q2,H⟩:=Yi<|a.own 2 Z0;obtain⟨a3,q3,K⟩:=Yi<|a.own 3 Z0;obtain⟨a4,q4,L⟩:=Yi<|a.own 4 Z0;unfold ZA;rw[C,D,H,K,L];have a6:=k.size;simp at a6;have P:∀o,xz (xj<|w4.alloc o)=xz (xj w4)+1:=λo=>Z1;rw[P]at a;have M:=C3 a Z0;unfold jI at M;rw[C,D,H,K,L]at M;have l:∀o,Below (xz<|xj w) w<|z.alloc o:=λo=>((q.out _).trans<|k.mono Zg1).alloc Z0 o;have z6:=λo=>(Zh4 z o (xz (xj w)+1) Z0).trans<|(k.block (xz (xj w)+1) Zg1).trans<|z4 _;have u:FwSt w (z.alloc _) (xz (xj w)+1) (xz<|xj w1) (xz<|xj w4) (xz<|xj z) (xz (xj w4)+1) _ (at_:Nat) h x:=⟨z6 _,(Zh4 z _ (xz<|xj w1) Z0).trans<|(k.block (xz<|xj w1) Zg1).trans<|m4 _,(Zh4 z _ (xz<|xj w4) Z0).trans<|(k.block (xz<|xj w4) Z1).trans<|Zhk w4 _,M,l _,Z0,Z0,Z0,Z0,Zg1⟩;obtain⟨y6,f6,a8,b2,b3⟩:=u.F;rw[C,D,H,K,L]at a8;have W:=Zh2 u;clear u;have B:=Zh2 l;have HN:=Zh2 M;have E0:=Zh2 C;have E1:=Zh2 D;have E2:=Zh2 H;have E3:=Zh2 K;have E4:=Zh2 L;clear l M C D H K L a k z4 p4 x4 m4)))
  go_region;all_goals
   go_wp2;try simp only[Exit.inBlock,Exit.then]
   have y:=WW W.out.cz (.int .u64 h.base) (.int .i64 h.cap) (.int .i64 h.to) (.bool h.Y) (.int .i64 h.Z) (.slice a0 (I<|Zu h 0) q0) (.slice a1 (I<|Zu h 1) q1) (.slice a2 (I<|Zu h 2) q2) (.slice a3 (I<|Zu h 3) q3)<|.slice a4 (I<|Zu h 4) q4;have Y:fwd h v=(v,h,0):=by simp[fwd,hr,a7,h1,hf]
   rw[Y];refine ZhE (v:=.tuple #[.int .u64 v,ZA h x,.int .i64 0]) ?_ rfl ?_
   .unfold ZA;rw[E0.out,E1.out,E2.out,E3.out,E4.out];simp[results,Try.results42,go_sem,y]
   refine⟨x,rfl,?_,?_⟩;exact(XW (B.out _) Z0 _ _ _ _ _ _ _ _ _ _).drew;refine⟨λj O=> ?_,HN.out.own.apart⟩;have ho:=HN.out.own.own j O;refine Rq (Xs ho ?_) ?_;intro c X;have a9:=(ho.lt c X).1;exact qQ Z0 _ _ _ _ _ _ _ _ _ _;intro c h1 h2;exact⟨Z0,h2⟩
def Z0O(w:World)(G:Nat->Prop)(hG:∀b,G b->b<xz (xj w))(h:Hp)(hh:h.ok)(A:Nat->Value)(hs:∀j,j<5->Rd w G (.sl<|(Zu h j).map vu) (A j))(v:Int)(hv:ZC v)
  (hr:ZI (Zv h)=xk) (b7:¬v=0) (h1:(adr v).2=0) (part:Int) (at_:Nat) (hf:Yf (Zv h) (adr v).1=(part,(at_:Int),0)) (j:Nat) (N:((j:Nat):Int)+1=part) (hp:part=3\/part=4)
  (wd:Int) (z:(Zu h j)[at_]?=J wd) (d7:at_< I (Zu h j)) (b8:ZC wd) (b1:(adr wd).2=0):
  Calls xP 42 #[ZA h A,.int .u64 v] w (RV w<|fwd h v):=by
 have HS:=Zh2 hs;have HH:=Zh2 hh;clear hs hh;unfold ZA;go_enter Kj,Try.ntmps42;obtain rfl|rfl:=hp;all_goals
  have d9:j=2\/j=3:=Z0
  go_wp2_with (first
   |(go_at_call 63;go_loud (have M:=H9 _ (xz (xj w4)+1) (xz<|xj Q) h x S.out.br HH.out j at_ (by omega) g qj EP.out (by omega);rw[N]at M;refine M.mono ?_;clear M;rintro e w7 ⟨rfl,K⟩;obtain⟨m,hm⟩:∃m,I (Zu h j)-at_=m:=⟨_,rfl⟩;obtain⟨qm,b2⟩:∃qm,qj-at_=qm:=⟨_,rfl⟩;rw[hm,b2];have e5:0<m:=(by omega);have d6:(0:Int)< (m:Int):=(by omega);have d5:at_+0=at_:=rfl;have d:=S.out.below K;have b6:=K.size;simp at b6;obtain⟨y7,f7,c0,f2,f5⟩:=d.F;rw[E0.out,E1.out,E2.out,E3.out,E4.out]at c0;have r:=d.br.own.own j (by omega);rw[EP.out]at r;have c7:=QB r z;have a9:=Zh2 d;clear K d r))
   |(go_at_call 58;go_loud (have d:=a9.out;refine(U9 b8 _).mono ?_;rintro e w8 ⟨rfl,L⟩;have B:=d.below L;have f0:=L.size;obtain⟨y8,f8,c1,f3,f9⟩:=B.F;rw[E0.out,E1.out,E2.out,E3.out,E4.out]at c1;have t:=B.br.own.own j (by omega);rw[EP.out]at t;have c8:=QB t z;have u:=Zh2 B;clear L B d t))
   |(go_at_call 27;go_loud (refine(Ts (h:=h) (x:=A) (G:=G) (λc hc=>by have:=hG c hc;simp;omega) (λj N=>(HS.out j N).keep (λb hb=>by have:=hG b hb;rw[Zh4 _ _ _ (by simp;omega),Zh4 _ _ _ (by omega)])<|λ_ h=>h)).mono ?_;rintro e w1 ⟨rfl,q⟩;unfold Vi;have z1:=(q.block (xz (xj w)+1)<|by simp).trans<|S8 w _;have p1:=(q.block (xz<|xj w) (by simp;omega)).trans<|(Zh4 _ _ (xz<|xj w)<|by simp).trans<|Zhk w _;have b3:=q.size;simp at b3;have a7:=Zh2 q;clear q))
   |(go_at_call 47;go_loud (refine(QJ HH.out.bb _).mono ?_;rintro e w2 ⟨rfl,f⟩;rw[hr];have z2:=(f.block (xz (xj w)+1) (by simp;omega)).trans<|(Zh4 w1 _ (xz (xj w)+1)<|by omega).trans z1;have p2:=(f.block (xz<|xj w) (by simp;omega)).trans<|(Zh4 w1 _ (xz<|xj w)<|by omega).trans p1;have x2:=λj=>Zh7 _ _ j _ _ _ p2;have D:Below (xz<|xj w) w w2:=((((((Zhi _ _).alloc (Zh3 _) _).alloc (by simp) _).trans<|a7.out.mono (by simp;omega)).alloc (by omega) _).trans<|f.mono (by simp;omega));have b4:=f.size;simp at b4;have m2:=(f.block (xz<|xj w1)<|by simp).trans<|Zhk w1 _;have R:=Zh2 D;clear f D))
   |(go_at_call 58;go_loud (refine(U9 hv _).mono ?_;rintro e w3 ⟨rfl,k⟩;have z3:=(k.block (xz (xj w)+1)<|by omega).trans z2;have p3:=(k.block (xz<|xj w)<|by omega).trans p2;have m3:=(k.block (xz<|xj w1)<|by omega).trans m2;have l3:=λj=>Zh7 _ _ j _ _ _ m3;have e8:=k.size;have a8:=Zh2 k;clear k))
   |(go_at_call 62;go_loud (refine(yf HH.out.bb (zB hv) _).mono ?_;rintro e w4 ⟨rfl,l⟩;rw[hf];dsimp only;have e9:=l.size;have z4:=λo=>(Zh4 w4 o (xz (xj w)+1)<|by omega).trans<|(l.block (xz (xj w)+1)<|by omega).trans z3;have p4:=λo=>(Zh4 w4 o (xz<|xj w)<|by omega).trans<|(l.block (xz<|xj w)<|by omega).trans p3;have x4:=λo j=>Zh7 _ _ j _ _ _<|p4 o;have H:∀o,Below (xz<|xj w) w<|w4.alloc o:=λo=>((R.out.trans<|a8.out.mono (by omega)).trans<|l.mono (by omega)).alloc (by omega) o;have m4:=λo=>(Zh4 w4 o (xz<|xj w1)<|by omega).trans<|(l.block (xz<|xj w1)<|by omega).trans m3;have C:=Zh2 H;clear l H z3 p3 m3 l3 z2 p2 x2 m2))
   |(go_at_call 23;go_loud (refine(Ki _ G (λb hb=>by have:=hG b hb;simp;omega) h HH.out A<|λj N=>(HS.out j N).keep (λb hb=>(C.out _).block b<|hG b hb) (λ_ h=>h)).mono ?_;rintro e Q ⟨x,rfl,n,a⟩;obtain⟨a0,q0,T⟩:=Yi<|a.own 0 Z0;obtain⟨a1,q1,W⟩:=Yi<|a.own 1 Z0;obtain⟨a2,q2,X⟩:=Yi<|a.own 2 Z0;obtain⟨a3,q3,Y⟩:=Yi<|a.own 3 Z0;obtain⟨a4,q4,Z⟩:=Yi<|a.own 4 Z0;obtain⟨aj,qj,ej⟩:=Yi<|a.own j Z0;obtain⟨g,hg⟩:=qA (a.own j Z0) ej Z0;subst hg;unfold ZA;rw[T,W,X,Y,Z];have b5:=n.size;simp at b5;have a6:∀o,xz (xj<|w4.alloc o)=xz (xj w4)+1:=λo=>Z1;rw[a6]at a;have hN:=C3 a Z0;unfold jI at hN;rw[T,W,X,Y,Z]at hN;have p:∀o,Below (xz<|xj w) w<|Q.alloc o:=λo=>((C.out _).trans<|n.mono Zg1).alloc Z0 o;have z6:=λo=>(Zh4 Q o (xz (xj w)+1) Z0).trans<|(n.block (xz (xj w)+1) Zg1).trans<|z4 _;have P:FwSt w (Q.alloc _) (xz (xj w)+1) (xz<|xj w1) (xz<|xj w4) (xz<|xj Q) (xz (xj w4)+1) _ (at_:Nat) h x:=⟨z6 _,(Zh4 Q _ (xz<|xj w1) Z0).trans<|(n.block (xz<|xj w1) Zg1).trans<|m4 _,(Zh4 Q _ (xz<|xj w4) Z0).trans<|(n.block (xz<|xj w4) Z1).trans<|Zhk w4 _,hN,p _,Z0,Z0,Z0,Z0,Zg1⟩;obtain⟨y6,f6,b9,f1,f4⟩:=P.F;rw[T,W,X,Y,Z]at b9;have S:=Zh2 P;have EP:=Zh2 ej;clear ej;clear P;have d0:=Zh2 p;have HN:=Zh2 hN;have E0:=Zh2 T;have E1:=Zh2 W;have E2:=Zh2 X;have E3:=Zh2 Y;have E4:=Zh2 Z;clear p hN T W X Y Z a n z4 p4 x4 m4)))
  have b0:fwd h v=(wd,h,0):=by
   first
   | (have O:j=2:=by omega
      subst O)
   | (have O:j=3:=by omega
      subst O)
   first
   |have a5:h.ah.getD at_ 0=wd:=by show(Zu h 2).getD at_ 0=wd;simp[List.getD,z]
   |have a5:h.ak.getD at_ 0=wd:=by show(Zu h 3).getD at_ 0=wd;simp[List.getD,z]
   have e6:I h.ah=I (Zu h 2):=rfl;have e7:I h.ak=I (Zu h 3):=rfl;simp[fwd,hr,b7,h1,hf,-List.getD_eq_getElem?_getD,a5,b1]
  go_region;all_goals
   go_wp2;try simp only[Exit.inBlock,Exit.then]
   have y:=WW u.out.cz (.int .u64 h.base) (.int .i64 h.cap) (.int .i64 h.to) (.bool h.Y) (.int .i64 h.Z) (.slice a0 (I<|Zu h 0) q0) (.slice a1 (I<|Zu h 1) q1) (.slice a2 (I<|Zu h 2) q2) (.slice a3 (I<|Zu h 3) q3)<|.slice a4 (I<|Zu h 4) q4;rw[b0];refine ZhE (v:=.tuple #[.int .u64 wd,ZA h x,.int .i64 0]) ?_ rfl ?_
   .unfold ZA;rw[E0.out,E1.out,E2.out,E3.out,E4.out];simp[results,Try.results42,go_sem,y]
   refine⟨x,rfl,?_,?_⟩;exact(XW u.out.cy Z0 _ _ _ _ _ _ _ _ _ _).drew;refine⟨λj N=> ?_,u.out.br.own.apart⟩;have ho:=u.out.br.own.own j N;refine Rq (Xs ho ?_) ?_;intro c hc;have d8:=(ho.lt c hc).1;exact qQ Z0 _ _ _ _ _ _ _ _ _ _;intro c h1 h2;exact⟨Z0,h2⟩
def Ep(w:World)(G:Nat->Prop)(hG:∀b,G b->b<xz (xj w))(h:Hp)(hh:h.ok)(f2:Nat->Value)(hs:∀j,j<5->Rd w G (.sl<|(Zu h j).map vu) (f2 j))(v:Int)(hv:ZC v)
  (hr:ZI (Zv h)=xk) (f1:¬v=0) (h1:(adr v).2=0) (part:Int) (at_:Nat) (hf:Yf (Zv h) (adr v).1=(part,(at_:Int),0)) (j:Nat) (hj:((j:Nat):Int)+1=part) (hp:part=3\/part=4)
  (wd:Int) (q:(Zu h j)[at_]?=J wd) (n2:at_< I (Zu h j)) (j7:ZC wd) (f0:¬(adr wd).2=0) (sz:Nat) (pt er:Int) (e6:ZR wd=((sz:Int),pt,er)) (o1:sz<=255)
  (hc:¬er=0\/(er=0/\I (Zu h j)<at_+(sz+1))\/(er=0/\at_+(sz+1)<=I (Zu h j)/\Xu (Zv h)< ((sz+1:Nat):Int))\/(er=0/\at_+(sz+1)<=I (Zu h j)/\¬Xu (Zv h)< ((sz+1:Nat):Int))):
  Calls xP 42 #[ZA h f2,.int .u64 v] w (RV w<|fwd h v):=by
 have HS:=Zh2 hs;have HH:=Zh2 hh;clear hs hh;unfold ZA;go_enter Kj,Try.ntmps42;obtain T|⟨T,l0⟩|⟨T,P,Z⟩|⟨T,P,Z⟩:=hc;all_goals obtain rfl|rfl:=hp
 all_goals
  have n4:j=2\/j=3:=Z0
  go_wp2_with (first
   |(go_at_call 63;go_loud (have i0:=H9 _ (xz (xj w4)+1) (xz<|xj L) h x j0.out.br HH.out j at_ (by omega) g qj EP.out (by omega);rw[hj]at i0;refine i0.mono ?_;clear i0;rintro e w7 ⟨rfl,h7⟩;obtain⟨m,hm⟩:∃m,I (Zu h j)-at_=m:=⟨_,rfl⟩;obtain⟨qm,i1⟩:∃qm,qj-at_=qm:=⟨_,rfl⟩;rw[hm,i1];have n5:0<m:=(by omega);have m6:(0:Int)< (m:Int):=(by omega);have g5:at_+0=at_:=rfl;have a5:=j0.out.below h7;have l5:=h7.size;simp at l5;obtain⟨y7,f7,i2,j8,k0⟩:=a5.F;rw[E0.out,E1.out,E2.out,E3.out,E4.out]at i2;have d8:=a5.br.own.own j (by omega);rw[EP.out]at d8;have c7:=QB d8 q;have k8:=Zh2 a5;clear h7 a5 d8))
   |(go_at_call 58;go_loud (have a5:=k8.out;refine(U9 j7 _).mono ?_;rintro e w8 ⟨rfl,h8⟩;have f3:=a5.below h8;have n9:=h8.size;obtain⟨y8,f8,i3,j9,k2⟩:=f3.F;rw[E0.out,E1.out,E2.out,E3.out,E4.out]at i3;have d9:=f3.br.own.own j (by omega);rw[EP.out]at d9;have c8:=QB d9 q;have k9:=Zh2 f3;clear h8 f3 a5 d9))
   |(go_at_call 64;go_loud (refine(K5 j7 _).mono ?_;rintro e t ⟨rfl,h9⟩;rw[e6];dsimp only;have o0:=h9.size;have b5:FwSt w (t.alloc<|.cells #[.int .i64 (sz:Nat),.int .i64 pt] 43) _ _ _ _ _ _ _ h x:=(k9.out.below h9).below<|(Zhi _ _).alloc (Zh3 _) _;obtain⟨k4,j2,e7,g8,d⟩:=b5.F;rw[E0.out,E1.out,E2.out,E3.out,E4.out]at e7;have W:=b5.br.own.own j (by omega);rw[EP.out]at W;have FT:=QB W q;have a9:=λj=>Zh7 _ _ j _ _ _<|Zhk t<|.cells #[.int .i64 (sz:Nat),.int .i64 pt] 43;have z:=Zh2 b5;have n6:m<=1000000:=(by have:=JB HH.out j;omega);have m5:at_+m=I (Zu h j):=(by omega);clear h9 b5 W))
   |(go_at_call 27;go_loud (refine(Ts (h:=h) (x:=f2) (G:=G) (λc hc=>by have:=hG c hc;simp;omega) (λj hj=>(HS.out j hj).keep (λb p=>by have:=hG b p;rw[Zh4 _ _ _ (by simp;omega),Zh4 _ _ _ (by omega)])<|λ_ h=>h)).mono ?_;rintro e w1 ⟨rfl,d5⟩;unfold Vi;have z1:=(d5.block (xz (xj w)+1)<|by simp).trans<|S8 w _;have p1:=(d5.block (xz<|xj w) (by simp;omega)).trans<|(Zh4 _ _ (xz<|xj w)<|by simp).trans<|Zhk w _;have l1:=d5.size;simp at l1;have k6:=Zh2 d5;clear d5))
   |(go_at_call 47;go_loud (refine(QJ HH.out.bb _).mono ?_;rintro e w2 ⟨rfl,b6⟩;rw[hr];have z2:=(b6.block (xz (xj w)+1) (by simp;omega)).trans<|(Zh4 w1 _ (xz (xj w)+1)<|by omega).trans z1;have p2:=(b6.block (xz<|xj w) (by simp;omega)).trans<|(Zh4 w1 _ (xz<|xj w)<|by omega).trans p1;have x2:=λj=>Zh7 _ _ j _ _ _ p2;have g6:Below (xz<|xj w) w w2:=((((((Zhi _ _).alloc (Zh3 _) _).alloc (by simp) _).trans<|k6.out.mono (by simp;omega)).alloc (by omega) _).trans<|b6.mono (by simp;omega));have l2:=b6.size;simp at l2;have m2:=(b6.block (xz<|xj w1)<|by simp).trans<|Zhk w1 _;have i5:=Zh2 g6;clear b6 g6))
   |(go_at_call 58;go_loud (refine(U9 hv _).mono ?_;rintro e w3 ⟨rfl,b7⟩;have z3:=(b7.block (xz (xj w)+1)<|by omega).trans z2;have p3:=(b7.block (xz<|xj w)<|by omega).trans p2;have m3:=(b7.block (xz<|xj w1)<|by omega).trans m2;have l3:=λj=>Zh7 _ _ j _ _ _ m3;have n7:=b7.size;have k7:=Zh2 b7;clear b7))
   |(go_at_call 62;go_loud (refine(yf HH.out.bb (zB hv) _).mono ?_;rintro e w4 ⟨rfl,b8⟩;rw[hf];dsimp only;have n8:=b8.size;have z4:=λo=>(Zh4 w4 o (xz (xj w)+1)<|by omega).trans<|(b8.block (xz (xj w)+1)<|by omega).trans z3;have p4:=λo=>(Zh4 w4 o (xz<|xj w)<|by omega).trans<|(b8.block (xz<|xj w)<|by omega).trans p3;have x4:=λo j=>Zh7 _ _ j _ _ _<|p4 o;have g7:∀o,Below (xz<|xj w) w<|w4.alloc o:=λo=>((i5.out.trans<|k7.out.mono (by omega)).trans<|b8.mono (by omega)).alloc (by omega) o;have m4:=λo=>(Zh4 w4 o (xz<|xj w1)<|by omega).trans<|(b8.block (xz<|xj w1)<|by omega).trans m3;have f5:=Zh2 g7;clear b8 g7 z3 p3 m3 l3 z2 p2 x2 m2))
   |(go_at_call 23;go_loud (refine(Ki _ G (λb p=>by have:=hG b p;simp;omega) h HH.out f2<|λj hj=>(HS.out j hj).keep (λb p=>(f5.out _).block b<|hG b p) (λ_ h=>h)).mono ?_;rintro e L ⟨x,rfl,b9,D⟩;obtain⟨a0,q0,e0⟩:=Yi<|D.own 0 Z0;obtain⟨a1,q1,e1⟩:=Yi<|D.own 1 Z0;obtain⟨a2,q2,e2⟩:=Yi<|D.own 2 Z0;obtain⟨a3,q3,e3⟩:=Yi<|D.own 3 Z0;obtain⟨a4,q4,e4⟩:=Yi<|D.own 4 Z0;obtain⟨aj,qj,ej⟩:=Yi<|D.own j Z0;obtain⟨g,hg⟩:=qA (D.own j Z0) ej Z0;subst hg;unfold ZA;rw[e0,e1,e2,e3,e4];have l4:=b9.size;simp at l4;have j6:∀o,xz (xj<|w4.alloc o)=xz (xj w4)+1:=λo=>Z1;rw[j6]at D;have hN:=C3 D Z0;unfold jI at hN;rw[e0,e1,e2,e3,e4]at hN;have d0:∀o,Below (xz<|xj w) w<|L.alloc o:=λo=>((f5.out _).trans<|b9.mono Zg1).alloc Z0 o;have z6:=λo=>(Zh4 L o (xz (xj w)+1) Z0).trans<|(b9.block (xz (xj w)+1) Zg1).trans<|z4 _;have i4:FwSt w (L.alloc _) (xz (xj w)+1) (xz<|xj w1) (xz<|xj w4) (xz<|xj L) (xz (xj w4)+1) _ (at_:Nat) h x:=⟨z6 _,(Zh4 L _ (xz<|xj w1) Z0).trans<|(b9.block (xz<|xj w1) Zg1).trans<|m4 _,(Zh4 L _ (xz<|xj w4) Z0).trans<|(b9.block (xz<|xj w4) Z1).trans<|Zhk w4 _,hN,d0 _,Z0,Z0,Z0,Z0,Zg1⟩;obtain⟨y6,f6,l7,o3,o4⟩:=i4.F;rw[e0,e1,e2,e3,e4]at l7;have j0:=Zh2 i4;have EP:=Zh2 ej;clear ej;clear i4;have l9:=Zh2 d0;have HN:=Zh2 hN;have E0:=Zh2 e0;have E1:=Zh2 e1;have E2:=Zh2 e2;have E3:=Zh2 e3;have E4:=Zh2 e4;clear d0 hN e0 e1 e2 e3 e4 D b9 z4 p4 x4 m4)))
 iterate 2
  focus
   have O:fwd h v=(0,Hp.zero,3):=by
    first
    | (have k:j=2:=by omega
       subst k)
    | (have k:j=3:=by omega
       subst k)
    first
    |have B:h.ah.getD at_ 0=wd:=by show(Zu h 2).getD at_ 0=wd;simp[List.getD,q]
    |have B:h.ak.getD at_ 0=wd:=by show(Zu h 3).getD at_ 0=wd;simp[List.getD,q]
    have X:I h.ah=I (Zu h 2):=rfl;have Y:I h.ak=I (Zu h 3):=rfl;simp[fwd,Sh,hr,f1,h1,hf,-List.getD_eq_getElem?_getD,B,X,Y,f0,e6,T]
   have y:=WW z.out.cz (.int .u64 0) (.int .i64 0) (.int .i64 0) (.bool xw) (.int .i64 0) (.slice U 0 0) (.slice U 0 0) (.slice U 0 0) (.slice U 0 0)<|.slice U 0 0;rw[O];refine ZhE (v:=.tuple #[.int .u64 0,.agg ZL,.int .i64 3]) ?_ rfl ?_
   .simp[results,Try.results42,go_sem,y,ZL]
   refine⟨λ_=>.slice U 0 0,?_,?_,RT _ _⟩;simp[ZA,Hp.zero,ZL];exact XW z.out.cy Z0 _ _ _ _ _ _ _ _ _ _
 iterate 2
  focus
   have O:fwd h v=(0,Hp.zero,2):=by
    first
    | (have k:j=2:=by omega
       subst k)
    | (have k:j=3:=by omega
       subst k)
    first
    |have B:h.ah.getD at_ 0=wd:=by show(Zu h 2).getD at_ 0=wd;simp[List.getD,q]
    |have B:h.ak.getD at_ 0=wd:=by show(Zu h 3).getD at_ 0=wd;simp[List.getD,q]
    have X:I h.ah=I (Zu h 2):=rfl;have Y:I h.ak=I (Zu h 3):=rfl;simp[fwd,Sh,hr,f1,h1,hf,-List.getD_eq_getElem?_getD,B,X,Y,f0,e6,T,l0]
   have y:=WW z.out.cz (.int .u64 0) (.int .i64 0) (.int .i64 0) (.bool xw) (.int .i64 0) (.slice U 0 0) (.slice U 0 0) (.slice U 0 0) (.slice U 0 0)<|.slice U 0 0;rw[O];refine ZhE (v:=.tuple #[.int .u64 0,.agg ZL,.int .i64 2]) ?_ rfl ?_
   .simp[results,Try.results42,go_sem,y,ZL]
   refine⟨λ_=>.slice U 0 0,?_,?_,RT _ _⟩;simp[ZA,Hp.zero,ZL];exact XW z.out.cy Z0 _ _ _ _ _ _ _ _ _ _
 iterate 2
  focus
   obtain⟨H,Q⟩:∃H:Nat,sz+1=H:=⟨_,rfl⟩;have l6:IntKind.i64.wrap ((sz:Int)+1)=(H:Int):=by rw[Zy ((sz:Int)+1) Z0 Z0];omega
   have j4:Xu (Zv h)< (H:Int):=Z0;have h4:=Zh2 Q;have i9:=Zh2 Z;have h3:=Zh2 P;clear Q Z P;have d7:xz (xj t)< xz (xj<|(t.alloc<|.cells #[.int .i64 (sz:Nat),.int .i64 pt] 43)):=Z1;clear k0 k2 g8 j8 j9 y7 y8 f7 f8 i2 i3 c7 c8;generalize (t.alloc<|.cells #[.int .i64 (sz:Nat),.int .i64 pt] 43)=e9 at*;have A:FwSt w e9 (xz (xj w)+1) (xz<|xj w1) (xz<|xj w4) (xz<|xj L) (xz (xj w4)+1) (((j:Nat):Int)+1) (at_:Nat) h x:=by rw[hj];exact z.out
   have R:(λa=>a.cell? ⟨xz<|xj w1,0,U⟩=J (.int .u64 (Zv h).base)/\a.cell? ⟨xz<|xj w1,1,U⟩=J (.int .i64 (Zv h).cap)/\a.cell? ⟨xz<|xj w1,2,U⟩=J (.int .i64 (Zv h).to)/\a.cell? ⟨xz<|xj w1,3,U⟩=J (.int .i64 (Zv h).H)/\a.cell? ⟨xz<|xj w1,4,U⟩=J (.int .i64 (Zv h).ab)/\a.cell? ⟨xz<|xj w1,5,U⟩=J (.int .i64 (Zv h).ah)/\a.cell? ⟨xz<|xj w1,6,U⟩=J (.int .i64 (Zv h).ak)/\a.cell? ⟨xz<|xj t,0,U⟩=J (.int .i64 (sz:Nat))/\FwSt w a (xz (xj w)+1) (xz<|xj w1) (xz<|xj w4) (xz<|xj L) (xz (xj w4)+1) (((j:Nat):Int)+1) (at_:Nat) h x/\xz (xj t)<xz (xj a)) e9.drew:=⟨d 0,d 1,d 2,d 3,d 4,d 5,d 6,a9 0,A.drew,d7⟩;have M:∀(u u':World),(λa=>a.cell? ⟨xz<|xj w1,0,U⟩=J (.int .u64 (Zv h).base)/\a.cell? ⟨xz<|xj w1,1,U⟩=J (.int .i64 (Zv h).cap)/\a.cell? ⟨xz<|xj w1,2,U⟩=J (.int .i64 (Zv h).to)/\a.cell? ⟨xz<|xj w1,3,U⟩=J (.int .i64 (Zv h).H)/\a.cell? ⟨xz<|xj w1,4,U⟩=J (.int .i64 (Zv h).ab)/\a.cell? ⟨xz<|xj w1,5,U⟩=J (.int .i64 (Zv h).ah)/\a.cell? ⟨xz<|xj w1,6,U⟩=J (.int .i64 (Zv h).ak)/\a.cell? ⟨xz<|xj t,0,U⟩=J (.int .i64 (sz:Nat))/\FwSt w a (xz (xj w)+1) (xz<|xj w1) (xz<|xj w4) (xz<|xj L) (xz (xj w4)+1) (((j:Nat):Int)+1) (at_:Nat) h x/\xz (xj t)<xz (xj a)) u->Below (xz<|xj u) u u'->(λa=>a.cell? ⟨xz<|xj w1,0,U⟩=J (.int .u64 (Zv h).base)/\a.cell? ⟨xz<|xj w1,1,U⟩=J (.int .i64 (Zv h).cap)/\a.cell? ⟨xz<|xj w1,2,U⟩=J (.int .i64 (Zv h).to)/\a.cell? ⟨xz<|xj w1,3,U⟩=J (.int .i64 (Zv h).H)/\a.cell? ⟨xz<|xj w1,4,U⟩=J (.int .i64 (Zv h).ab)/\a.cell? ⟨xz<|xj w1,5,U⟩=J (.int .i64 (Zv h).ah)/\a.cell? ⟨xz<|xj w1,6,U⟩=J (.int .i64 (Zv h).ak)/\a.cell? ⟨xz<|xj t,0,U⟩=J (.int .i64 (sz:Nat))/\FwSt w a (xz (xj w)+1) (xz<|xj w1) (xz<|xj w4) (xz<|xj L) (xz (xj w4)+1) (((j:Nat):Int)+1) (at_:Nat) h x/\xz (xj t)<xz (xj a)) u':=by
    rintro u u' ⟨c0,c1,c2,c3,c4,c5,c6,c7,st,hs⟩ p;have hl:=st.su;have hz:=st.sz;exact⟨(p.cell Zg8).trans c0,(p.cell Zg8).trans c1,(p.cell Zg8).trans c2,(p.cell Zg8).trans c3,(p.cell Zg8).trans c4,(p.cell Zg8).trans c5,(p.cell Zg8).trans c6,(p.cell hs).trans c7,st.below p,by have:=p.size;omega⟩
   go_region_held3 (λa=>a.cell? ⟨xz<|xj w1,0,U⟩=J (.int .u64 (Zv h).base)/\a.cell? ⟨xz<|xj w1,1,U⟩=J (.int .i64 (Zv h).cap)/\a.cell? ⟨xz<|xj w1,2,U⟩=J (.int .i64 (Zv h).to)/\a.cell? ⟨xz<|xj w1,3,U⟩=J (.int .i64 (Zv h).H)/\a.cell? ⟨xz<|xj w1,4,U⟩=J (.int .i64 (Zv h).ab)/\a.cell? ⟨xz<|xj w1,5,U⟩=J (.int .i64 (Zv h).ah)/\a.cell? ⟨xz<|xj w1,6,U⟩=J (.int .i64 (Zv h).ak)/\a.cell? ⟨xz<|xj t,0,U⟩=J (.int .i64 (sz:Nat))/\FwSt w a (xz (xj w)+1) (xz<|xj w1) (xz<|xj w4) (xz<|xj L) (xz (xj w4)+1) (((j:Nat):Int)+1) (at_:Nat) h x/\xz (xj t)<xz (xj a)) (first|exact R|assumption)
    (first|(go_at_call 65;refine(OH HH.out.bb _).mono ?_;rintro e k3 ⟨rfl,N⟩;have h6:=M _ _ R N))
   obtain⟨-,-,-,-,-,-,-,Ab,n,j5⟩:=h6;clear R A M a9 k4 j2 e7 d N d7;rename_i S;clear S;obtain⟨k5,j3,a8,g9,h0⟩:=n.F;rw[E0.out,E1.out,E2.out,E3.out,E4.out]at a8;have l:=n.br.own.own j Z0;rw[EP.out]at l;have j1:=QB l q;clear l hm i1 g5;have f:=Zh2 n;clear n;go_wp2;have a7:Xu (Zv h)< (sz:Int)+1:=by have:=h4.out;omega
   have O:fwd h v=(0,Hp.zero,7):=by
    first
    | (have k:j=2:=by omega
       subst k)
    | (have k:j=3:=by omega
       subst k)
    first
    |have B:h.ah.getD at_ 0=wd:=by show(Zu h 2).getD at_ 0=wd;simp[List.getD,q]
    |have B:h.ak.getD at_ 0=wd:=by show(Zu h 3).getD at_ 0=wd;simp[List.getD,q]
    have X:I h.ah=I (Zu h 2):=rfl;have Y:I h.ak=I (Zu h 3):=rfl;simp[fwd,Sh,hr,f1,h1,hf,-List.getD_eq_getElem?_getD,B,X,Y,f0,e6,T,ZkM.2 h3.out,a7]
   have y:=WW f.out.cz (.int .u64 0) (.int .i64 0) (.int .i64 0) (.bool xw) (.int .i64 0) (.slice U 0 0) (.slice U 0 0) (.slice U 0 0) (.slice U 0 0)<|.slice U 0 0;rw[O];refine ZhE (v:=.tuple #[.int .u64 0,.agg ZL,.int .i64 7]) ?_ rfl ?_
   .simp[results,Try.results42,go_sem,y,ZL]
   refine⟨λ_=>.slice U 0 0,?_,?_,RT _ _⟩;simp[ZA,Hp.zero,ZL];exact XW f.out.cy Z0 _ _ _ _ _ _ _ _ _ _
 iterate 2
  focus
   obtain⟨H,Q⟩:∃H:Nat,sz+1=H:=⟨_,rfl⟩;have l6:IntKind.i64.wrap ((sz:Int)+1)=(H:Int):=by rw[Zy ((sz:Int)+1) Z0 Z0];omega
   have j4:¬(Xu (Zv h)< (H:Int)):=Z0;have e5:=z.out.br.own.own j Z0;rw[EP.out]at e5;have m1:=Z7s e5 Z0;have m9:(H:Int)<=(qm:Int):=Z0;have m8:(0:Int)<=(H:Int):=Z0;clear e5;have h4:=Zh2 Q;have i9:=Zh2 Z;have h3:=Zh2 P;clear Q Z P;have d7:xz (xj t)< xz (xj<|(t.alloc<|.cells #[.int .i64 (sz:Nat),.int .i64 pt] 43)):=Z1;clear k0 k2 g8 j8 j9 y7 y8 f7 f8 i2 i3 c7 c8;generalize (t.alloc<|.cells #[.int .i64 (sz:Nat),.int .i64 pt] 43)=e9 at*;have A:FwSt w e9 (xz (xj w)+1) (xz<|xj w1) (xz<|xj w4) (xz<|xj L) (xz (xj w4)+1) (((j:Nat):Int)+1) (at_:Nat) h x:=by rw[hj];exact z.out
   have R:(λa=>a.cell? ⟨xz<|xj w1,0,U⟩=J (.int .u64 (Zv h).base)/\a.cell? ⟨xz<|xj w1,1,U⟩=J (.int .i64 (Zv h).cap)/\a.cell? ⟨xz<|xj w1,2,U⟩=J (.int .i64 (Zv h).to)/\a.cell? ⟨xz<|xj w1,3,U⟩=J (.int .i64 (Zv h).H)/\a.cell? ⟨xz<|xj w1,4,U⟩=J (.int .i64 (Zv h).ab)/\a.cell? ⟨xz<|xj w1,5,U⟩=J (.int .i64 (Zv h).ah)/\a.cell? ⟨xz<|xj w1,6,U⟩=J (.int .i64 (Zv h).ak)/\a.cell? ⟨xz<|xj t,0,U⟩=J (.int .i64 (sz:Nat))/\FwSt w a (xz (xj w)+1) (xz<|xj w1) (xz<|xj w4) (xz<|xj L) (xz (xj w4)+1) (((j:Nat):Int)+1) (at_:Nat) h x/\xz (xj t)<xz (xj a)) e9.drew:=⟨d 0,d 1,d 2,d 3,d 4,d 5,d 6,a9 0,A.drew,d7⟩;have M:∀(u u':World),(λa=>a.cell? ⟨xz<|xj w1,0,U⟩=J (.int .u64 (Zv h).base)/\a.cell? ⟨xz<|xj w1,1,U⟩=J (.int .i64 (Zv h).cap)/\a.cell? ⟨xz<|xj w1,2,U⟩=J (.int .i64 (Zv h).to)/\a.cell? ⟨xz<|xj w1,3,U⟩=J (.int .i64 (Zv h).H)/\a.cell? ⟨xz<|xj w1,4,U⟩=J (.int .i64 (Zv h).ab)/\a.cell? ⟨xz<|xj w1,5,U⟩=J (.int .i64 (Zv h).ah)/\a.cell? ⟨xz<|xj w1,6,U⟩=J (.int .i64 (Zv h).ak)/\a.cell? ⟨xz<|xj t,0,U⟩=J (.int .i64 (sz:Nat))/\FwSt w a (xz (xj w)+1) (xz<|xj w1) (xz<|xj w4) (xz<|xj L) (xz (xj w4)+1) (((j:Nat):Int)+1) (at_:Nat) h x/\xz (xj t)<xz (xj a)) u->Below (xz<|xj u) u u'->(λa=>a.cell? ⟨xz<|xj w1,0,U⟩=J (.int .u64 (Zv h).base)/\a.cell? ⟨xz<|xj w1,1,U⟩=J (.int .i64 (Zv h).cap)/\a.cell? ⟨xz<|xj w1,2,U⟩=J (.int .i64 (Zv h).to)/\a.cell? ⟨xz<|xj w1,3,U⟩=J (.int .i64 (Zv h).H)/\a.cell? ⟨xz<|xj w1,4,U⟩=J (.int .i64 (Zv h).ab)/\a.cell? ⟨xz<|xj w1,5,U⟩=J (.int .i64 (Zv h).ah)/\a.cell? ⟨xz<|xj w1,6,U⟩=J (.int .i64 (Zv h).ak)/\a.cell? ⟨xz<|xj t,0,U⟩=J (.int .i64 (sz:Nat))/\FwSt w a (xz (xj w)+1) (xz<|xj w1) (xz<|xj w4) (xz<|xj L) (xz (xj w4)+1) (((j:Nat):Int)+1) (at_:Nat) h x/\xz (xj t)<xz (xj a)) u':=by
    rintro u u' ⟨c0,c1,c2,c3,c4,c5,c6,c7,st,hs⟩ p;have hl:=st.su;have hz:=st.sz;exact⟨(p.cell Zg8).trans c0,(p.cell Zg8).trans c1,(p.cell Zg8).trans c2,(p.cell Zg8).trans c3,(p.cell Zg8).trans c4,(p.cell Zg8).trans c5,(p.cell Zg8).trans c6,(p.cell hs).trans c7,st.below p,by have:=p.size;omega⟩
   go_region_held3 (λa=>a.cell? ⟨xz<|xj w1,0,U⟩=J (.int .u64 (Zv h).base)/\a.cell? ⟨xz<|xj w1,1,U⟩=J (.int .i64 (Zv h).cap)/\a.cell? ⟨xz<|xj w1,2,U⟩=J (.int .i64 (Zv h).to)/\a.cell? ⟨xz<|xj w1,3,U⟩=J (.int .i64 (Zv h).H)/\a.cell? ⟨xz<|xj w1,4,U⟩=J (.int .i64 (Zv h).ab)/\a.cell? ⟨xz<|xj w1,5,U⟩=J (.int .i64 (Zv h).ah)/\a.cell? ⟨xz<|xj w1,6,U⟩=J (.int .i64 (Zv h).ak)/\a.cell? ⟨xz<|xj t,0,U⟩=J (.int .i64 (sz:Nat))/\FwSt w a (xz (xj w)+1) (xz<|xj w1) (xz<|xj w4) (xz<|xj L) (xz (xj w4)+1) (((j:Nat):Int)+1) (at_:Nat) h x/\xz (xj t)<xz (xj a)) (first|exact R|assumption)
    (first|(go_at_call 65;refine(OH HH.out.bb _).mono ?_;rintro e k3 ⟨rfl,N⟩;have h6:=M _ _ R N))
   obtain⟨-,-,-,-,-,-,-,Ab,n,j5⟩:=h6;clear R A M a9 k4 j2 e7 d N d7;rename_i S;clear S;obtain⟨k5,j3,a8,g9,h0⟩:=n.F;rw[E0.out,E1.out,E2.out,E3.out,E4.out]at a8;have l:=n.br.own.own j Z0;rw[EP.out]at l;have j1:=QB l q;clear l hm i1 g5;have f:=Zh2 n;clear n;have Q:=h4.out;have Z:=i9.out;have P:=h3.out;have a7:¬Xu (Zv h)< (sz:Int)+1:=Z0;have O:fwd h v=(S5 h (((j:Nat):Int)+1) at_ H,Xk (Xr h (((j:Nat):Int)+1) at_ H) (((j:Nat):Int)+1)<|(zr (Zu h j) at_ H).set at_<|S5 h (((j:Nat):Int)+1) at_ H,0):=by
    first
    | (have k:j=2:=by omega
       subst k)
    | (have k:j=3:=by omega
       subst k)
    first
    |have B:h.ah.getD at_ 0=wd:=by show(Zu h 2).getD at_ 0=wd;simp[List.getD,q]
    |have B:h.ak.getD at_ 0=wd:=by show(Zu h 3).getD at_ 0=wd;simp[List.getD,q]
    have X:I h.ah=I (Zu h 2):=rfl;have Y:I h.ak=I (Zu h 3):=rfl;subst Q;simp only[fwd,hr,f1,h1,hf,Zi0,ZhY,ZjO,Zli,ZkN];simp[-List.getD_eq_getElem?_getD,B,f0,e6,T,Sh,X,Y,ZkM.2 P,a7];exact⟨rfl,rfl⟩
   have HC:=Zh2<|Z34 k3 (xz (xj w4)+1) (xz<|xj L) h x f.out.br f.out.sz HH.out j at_ H Z0 Z0 Z0 Z0 g qj EP.out Z0 qm;have i7:=Zh2 O;clear Q Z P O a7;have i8:=Zh2 f.out.cz;go_wp2_with (first|(go_at_call 66;go_loud (refine HC.out.mono ?_;rintro e f4 ⟨x',rfl,a6,r⟩;have K:=(a6.block _ f.out.tf).trans i8.out;have d6:=f.out.cy.trans<|a6.mono (by have:=f.out.ah;have:=f.out.tf;omega);obtain⟨b0,r0,g0⟩:=Yi<|r.own.own 0 Z0;obtain⟨b1,r1,g1⟩:=Yi<|r.own.own 1 Z0;obtain⟨b2,r2,g2⟩:=Yi<|r.own.own 2 Z0;obtain⟨b3,r3,g3⟩:=Yi<|r.own.own 3 Z0;obtain⟨b4,r4,g4⟩:=Yi<|r.own.own 4 Z0;have e8:=r.blk;have e1:fwd h v=(S5 h (((j:Nat):Int)+1) at_ H,_,0):=i7.out;generalize o2:S5 h (((j:Nat):Int)+1) at_ H=to at*;generalize Xk (Xr h (((j:Nat):Int)+1) at_ H) (((j:Nat):Int)+1) ((zr (Zu h j) at_ H).set at_ to)=C at*;rw[g0,g1,g2,g3,g4]at e8)))
   have l8:∀j,f4.cell? ⟨xz (xj w)+1,j,U⟩=ZL[j]? :=λj=>Zh7 _ _ _ _ _ _ K;unfold ZL at l8;have n1:∀j,f4.frozen? ⟨xz (xj w)+1,j,U⟩=xw:=λj=>Yc K;have n0:∀j,f4.cell? ⟨xz<|xj L,j,U⟩=(#[.int .u64 C.base,.int .i64 C.cap,.int .i64 C.to,.bool C.Y,.int .i64 C.Z,.slice b0 (I<|Zu C 0) r0,.slice b1 (I<|Zu C 1) r1,.slice b2 (I<|Zu C 2) r2,.slice b3 (I<|Zu C 3) r3,.slice b4 (I<|Zu C 4) r4]:Array Value)[j]? :=λj=>Zh7 _ _ _ _ _ _ e8;have m7:=d6.size;have m0:xz (xj w4)+1<=xz (xj f4):=by have:=a6.size;have:=f.out.sz;omega
   have f9:=Zh2 r;have i6:=Zh2 d6;have h5:=Zh2 K;have G0:=Zh2 g0;have G1:=Zh2 g1;have G2:=Zh2 g2;have G3:=Zh2 g3;have G4:=Zh2 g4;clear e8 r d6 a6 K g0 g1 g2 g3 g4 k5 j3 a8 g9 h0;go_region;all_goals
    go_wp2;try simp only[Exit.inBlock,Exit.then]
    have y:=WW h5.out (.int .u64 C.base) (.int .i64 C.cap) (.int .i64 C.to) (.bool C.Y) (.int .i64 C.Z) (.slice b0 (I<|Zu C 0) r0) (.slice b1 (I<|Zu C 1) r1) (.slice b2 (I<|Zu C 2) r2) (.slice b3 (I<|Zu C 3) r3)<|.slice b4 (I<|Zu C 4) r4;rw[i7.out];refine ZhE (v:=.tuple #[.int .u64 to,ZA C x',.int .i64 0]) ?_ rfl ?_
    .unfold ZA;rw[G0.out,G1.out,G2.out,G3.out,G4.out];simp[results,Try.results42,go_sem,y]
    refine⟨x',rfl,?_,?_⟩;exact(XW i6.out Z0 _ _ _ _ _ _ _ _ _ _).drew;refine⟨λj hj=> ?_,f9.out.own.apart⟩;have ho:=f9.out.own.own j hj;refine Rq (Xs ho ?_) ?_;intro c hc;have n3:=(ho.lt c hc).1;exact qQ Z0 _ _ _ _ _ _ _ _ _ _;intro c h1 h2;exact⟨Z0,h2⟩
def Z0N(w:World)(G:Nat->Prop)(y:∀b,G b->b<xz (xj w))(h:Hp)(t:h.ok)(f:Nat->Value)(B:∀j,j<5->Rd w G (.sl<|(Zu h j).map vu) (f j))(v:Int)(C:ZC v)
  (A:ZI (Zv h)=xk) (o:¬v=0) (x:(adr v).2=0) (h2:(Yf (Zv h) (adr v).1).2.2=0):
  Calls xP 42 #[ZA h f,.int .u64 v] w (RV w<|fwd h v):=by
 obtain⟨_,M,N,O,D,_⟩:=Z3B h2;rw[Tn ⟨M,N⟩]at D;obtain⟨k,L⟩:=Zhf O;have z:Yf (Zv h) (adr v).1=((Yf (Zv h) (adr v).1).1,(k:Int),0):=by rw[<-L,<-h2]
 rw[L]at D;generalize (Yf (Zv h) (adr v).1).1=part at*;have:(part=1\/part=2)\/(part=3\/part=4):=Z0;obtain r|r:=this;exact Z0P w G y h t f B v C A o x part k z r;obtain⟨j,F,K⟩:∃j:Nat,((j:Nat):Int)+1=part/\Zx h part=Zu h j:=by
  obtain rfl|rfl:=r;exact⟨2,rfl,rfl⟩;exact⟨3,rfl,rfl⟩
 have d:=(XM t part).1;rw[K]at D d;have g:k< I (Zu h j):=Z0;have q:(Zu h j)[k]?=J (Zu h j)[k]:=ZgY g;replace d:=d _<|Zhm g;generalize (Zu h j)[k]=l at*;by_cases p:(adr l).2=0;exact Z0O w G y h t f B v C A o x part k z j F r l q g d p;by_cases a:(ZR l).2.2=0;have R:=YD.1<|DT (w:=l) a;obtain⟨n,Q⟩:=Zhf R.1;refine Ep w G y h t f B v C A o x part k z j F r l q g d p n (ZR l).2.1 (ZR l).2.2 (by rw[<-Q]) Z0 ?_;by_cases H:I (Zu h j)<k+(n+1);exact .inr<|.inl ⟨a,H⟩;by_cases u:Xu (Zv h)< ((n+1:Nat):Int);exact .inr<|.inr<|.inl ⟨a,Z0,u⟩;exact .inr<|.inr<|.inr ⟨a,Z0,u⟩;have P:ZR l=(((0:Nat):Int),(ZR l).2.1,(ZR l).2.2):=by
  unfold ZR at a⊢;split;rename_i c;rw[Zhc c]at a;exact absurd rfl a;rfl
 exact Ep w G y h t f B v C A o x part k z j F r l q g d p 0 _ _ P Z0<|.inl a
end Vm
namespace Vm
open Go Go.Proofs Go.RowKit
def Er(w:World)(G:Nat->Prop)(t:∀b,G b->b<xz (xj w))(h:Hp)(hh:h.ok)(a:Nat->Value)(hs:∀j,j<5->Rd w G (.sl<|(Zu h j).map vu) (a j))(v:Int)(X:ZC v):
  Calls xP 42 #[ZA h a,.int .u64 v] w (RV w<|fwd h v):=by
 have O:=Zh2 hs;have M:=Zh2 hh;clear hs hh;by_cases z:ZI (Zv h)=xk/\¬v=0/\(adr v).2=0/\(Yf (Zv h) (adr v).1).2.2=0;exact Z0N w G t h M.out a O.out v X z.1 z.2.1 z.2.2.1 z.2.2.2;unfold ZA;go_enter Kj,Try.ntmps42;cases D:ZI<|Zv h
 .go_wp2_with (first
   |(go_at_call 27;refine(Ts (h:=h) (x:=a) (G:=G) (λc H=>by have:=t c H;simp;omega) (λj A=>(O.out j A).keep (λb u=>by have:=t b u;rw[Zh4 _ _ _ (by simp;omega),Zh4 _ _ _ (by omega)])<|λ_ h=>h)).mono ?_;rintro e w1 ⟨rfl,d⟩;unfold Vi;have N:=(d.block (xz (xj w)+1)<|by simp).trans<|S8 w _;have q:=d.size;simp at q;have n:=Zh2 d;clear d)
   |(go_at_call 47;refine(QJ M.out.bb _).mono ?_;rintro e w2 ⟨rfl,f⟩;rw[D];have K:=(f.block (xz (xj w)+1) (by simp;omega)).trans<|(Zh4 w1 _ (xz (xj w)+1)<|by omega).trans N;have y2:∀j,w2.cell? ⟨xz (xj w)+1,j,U⟩=ZL[j]? :=λj=>Zh7 _ _ _ _ _ _ K;have f2:∀j,w2.frozen? ⟨xz (xj w)+1,j,U⟩=xw:=λj=>Yc K;unfold ZL at y2;have Y:=Zh2 f;clear f))
  have y:=WW K (.int .u64 0) (.int .i64 0) (.int .i64 0) (.bool xw) (.int .i64 0) (.slice U 0 0) (.slice U 0 0) (.slice U 0 0) (.slice U 0 0)<|.slice U 0 0;refine ZhE (v:=.tuple #[.int .u64 0,.agg ZL,.int .i64 1]) ZgK rfl ⟨λ_=>.slice U 0 0,?_,XW ?_ Z0 _ _ _ _ _ _ _ _ _ _,?_⟩;simp[fwd,D,ZA,Hp.zero,ZL];exact((((((Zhi _ _).alloc (Zh3 _) _).alloc Z1 _).trans<|n.out.mono Zg1).alloc Z0 _).trans<|Y.out.mono Zg1);have:(fwd h v).2.1=Hp.zero:=by simp[fwd,D]
  rw[this];exact RT _ _
 .by_cases S:v=0
  .subst S
   go_wp2_with (first
    |(go_at_call 27;refine(Ts (h:=h) (x:=a) (G:=G) (λc H=>by have:=t c H;simp;omega) (λj A=>(O.out j A).keep (λb u=>by have:=t b u;rw[Zh4 _ _ _ (by simp;omega),Zh4 _ _ _ (by omega)])<|λ_ h=>h)).mono ?_;rintro e w1 ⟨rfl,d⟩;unfold Vi;have N:=(d.block (xz (xj w)+1)<|by simp).trans<|S8 w _;have Q:=(d.block (xz<|xj w) (by simp;omega)).trans<|(Zh4 (w.alloc<|.cells #[.int .u64 h.base,.int .i64 h.cap,.int .i64 h.to,.bool h.Y,.int .i64 h.Z,a 0,a 1,a 2,a 3,a 4] 30) _ (xz<|xj w)<|by simp).trans<|Zhk w _;have q:=d.size;simp at q;have n:=Zh2 d;clear d)
    |(go_at_call 47;refine(QJ M.out.bb _).mono ?_;rintro e w2 ⟨rfl,f⟩;rw[D];have K:=(f.block (xz (xj w)+1) (by simp;omega)).trans<|(Zh4 w1 _ (xz (xj w)+1)<|by omega).trans N;have p2:=(f.block (xz<|xj w) (by simp;omega)).trans<|(Zh4 w1 _ (xz<|xj w)<|by omega).trans Q;have x2:∀j,w2.cell? ⟨xz<|xj w,j,U⟩=(#[.int .u64 h.base,.int .i64 h.cap,.int .i64 h.to,.bool h.Y,.int .i64 h.Z,a 0,a 1,a 2,a 3,a 4]:Array Value)[j]? :=λj=>Zh7 _ _ _ _ _ _ p2;have k:Below (xz<|xj w) w w2:=((((((Zhi _ _).alloc (Zh3 _) _).alloc (by simp) _).trans<|n.out.mono (by simp;omega)).alloc (by omega) _).trans<|f.mono (by simp;omega));have B:=f.size;simp at B;have l:=Zh2 k;clear f k)
    |(go_at_call 23;refine(Ki _ G (λb u=>by have:=t b u;omega) h M.out a<|λj A=>(O.out j A).keep (λb u=>l.out.block b<|t b u) (λ_ h=>h)).mono ?_;rintro e w3 ⟨x,rfl,g,p⟩;obtain⟨a0,q0,e0⟩:=Yi<|p.own 0 Z0;obtain⟨a1,q1,e1⟩:=Yi<|p.own 1 Z0;obtain⟨a2,q2,e2⟩:=Yi<|p.own 2 Z0;obtain⟨a3,q3,e3⟩:=Yi<|p.own 3 Z0;obtain⟨a4,q4,e4⟩:=Yi<|p.own 4 Z0;unfold ZA;rw[e0,e1,e2,e3,e4];have C:=(g.block (xz (xj w)+1) Z0).trans K;have R:∀j,w3.cell? ⟨xz (xj w)+1,j,U⟩=ZL[j]? :=λj=>Zh7 _ _ _ _ _ _ C;have f3:∀j,w3.frozen? ⟨xz (xj w)+1,j,U⟩=xw:=λj=>Yc C;unfold ZL at R;have r:=Zh2 g;have P:=Zh2 p;clear g p))
   have y:=WW C (.int .u64 h.base) (.int .i64 h.cap) (.int .i64 h.to) (.bool h.Y) (.int .i64 h.Z) (.slice a0 (I<|Zu h 0) q0) (.slice a1 (I<|Zu h 1) q1) (.slice a2 (I<|Zu h 2) q2) (.slice a3 (I<|Zu h 3) q3)<|.slice a4 (I<|Zu h 4) q4;have L:fwd h 0=(0,h,0):=by simp[fwd,D]
   refine ZhE (v:=.tuple #[.int .u64 0,ZA h x,.int .i64 0]) (by unfold ZA;rw[e0,e1,e2,e3,e4];simp[results,Try.results42,go_sem,y]) rfl ⟨x,?_,XW (l.out.trans<|r.out.mono Z0) Z0 _ _ _ _ _ _ _ _ _ _,?_⟩;rw[L];rw[L];refine⟨λj A=> ?_,P.out.apart⟩;have ho:=P.out.own j A;refine Rq (B':=xz<|xj w2) (Xs ho λc H=>UJ (by have:=(ho.lt c H).1;omega) _ _ _ _ _ _ _ _ _ _) (λc T W=>⟨Z0,W⟩)
  .have a5:¬(v=0):=S;by_cases T:(adr v).2=0
   .by_cases W:(Yf (Zv h) (adr v).1).2.2=0;exact(z ⟨D,a5,T,W⟩).elim
    .go_wp2_with (first
     |(go_at_call 27;refine(Ts (h:=h) (x:=a) (G:=G) (λc H=>by have:=t c H;simp;omega) (λj A=>(O.out j A).keep (λb u=>by have:=t b u;rw[Zh4 _ _ _ (by simp;omega),Zh4 _ _ _ (by omega)])<|λ_ h=>h)).mono ?_;rintro e w1 ⟨rfl,d⟩;unfold Vi;have N:=(d.block (xz (xj w)+1)<|by simp).trans<|S8 w _;have Q:=(d.block (xz<|xj w) (by simp;omega)).trans<|(Zh4 (w.alloc<|.cells #[.int .u64 h.base,.int .i64 h.cap,.int .i64 h.to,.bool h.Y,.int .i64 h.Z,a 0,a 1,a 2,a 3,a 4] 30) _ (xz<|xj w)<|by simp).trans<|Zhk w _;have q:=d.size;simp at q;have n:=Zh2 d;clear d)
     |(go_at_call 47;refine(QJ M.out.bb _).mono ?_;rintro e w2 ⟨rfl,f⟩;rw[D];have K:=(f.block (xz (xj w)+1) (by simp;omega)).trans<|(Zh4 w1 _ (xz (xj w)+1)<|by omega).trans N;have p2:=(f.block (xz<|xj w) (by simp;omega)).trans<|(Zh4 w1 _ (xz<|xj w)<|by omega).trans Q;have x2:∀j,w2.cell? ⟨xz<|xj w,j,U⟩=(#[.int .u64 h.base,.int .i64 h.cap,.int .i64 h.to,.bool h.Y,.int .i64 h.Z,a 0,a 1,a 2,a 3,a 4]:Array Value)[j]? :=λj=>Zh7 _ _ _ _ _ _ p2;have k:Below (xz<|xj w) w w2:=((((((Zhi _ _).alloc (Zh3 _) _).alloc (by simp) _).trans<|n.out.mono (by simp;omega)).alloc (by omega) _).trans<|f.mono (by simp;omega));have B:=f.size;simp at B;have m2:=(f.block (xz<|xj w1)<|by simp).trans<|Zhk w1 _;have l:=Zh2 k;clear f k)
     |(go_at_call 58;refine(U9 X _).mono ?_;rintro e w3 ⟨rfl,g⟩;have C:=(g.block (xz (xj w)+1)<|by omega).trans K;have R:∀j,w3.cell? ⟨xz (xj w)+1,j,U⟩=ZL[j]? :=λj=>Zh7 _ _ _ _ _ _ C;have f3:∀j,w3.frozen? ⟨xz (xj w)+1,j,U⟩=xw:=λj=>Yc C;unfold ZL at R;have m3:=(g.block (xz<|xj w1)<|by omega).trans m2;have l3:∀j,w3.cell? ⟨xz<|xj w1,j,U⟩=(#[.int .u64 (Zv h).base,.int .i64 (Zv h).cap,.int .i64 (Zv h).to,.int .i64 (Zv h).H,.int .i64 (Zv h).ab,.int .i64 (Zv h).ah,.int .i64 (Zv h).ak]:Array Value)[j]? :=λj=>Zh7 _ _ _ _ _ _ m3;have a6:=g.size;have r:=Zh2 g;clear g)
     |(go_at_call 62;refine(yf M.out.bb (zB X) _).mono ?_;rintro e w4 ⟨rfl,F⟩;have a7:=F.size;have z4:∀o,(w4.alloc o).heap[xz (xj w)+1]?=J (.cells ZL 30 (0,0)):=λo=>(Zh4 w4 o (xz (xj w)+1)<|by omega).trans<|(F.block (xz (xj w)+1)<|by omega).trans C;have y4:∀o j,(w4.alloc o).cell? ⟨xz (xj w)+1,j,U⟩=ZL[j]? :=λo j=>Zh7 _ _ _ _ _ _<|z4 o;have f4:∀o j,(w4.alloc o).frozen? ⟨xz (xj w)+1,j,U⟩=xw:=λo j=>Yc<|z4 o;unfold ZL at y4;have Z:=Zh2 F;clear F))
     have y:=WW (z4<|.cells #[.int .i64 (Yf (Zv h) (adr v).1).1,.int .i64 (Yf (Zv h) (adr v).1).2.1] 68) (.int .u64 0) (.int .i64 0) (.int .i64 0) (.bool xw) (.int .i64 0) (.slice U 0 0) (.slice U 0 0) (.slice U 0 0) (.slice U 0 0)<|.slice U 0 0;have L:fwd h v=(0,Hp.zero,6):=by simp[fwd,D,S,T,W]
     refine ZhE (v:=.tuple #[.int .u64 0,.agg ZL,.int .i64 6]) ZgK rfl ⟨λ_=>.slice U 0 0,?_,XW (((l.out.trans<|r.out.mono Z0).trans<|Z.out.mono Z0).alloc Z0 _) Z0 _ _ _ _ _ _ _ _ _ _,?_⟩;rw[L];simp[ZA,Hp.zero,ZL];rw[L];exact RT _ _
   .go_wp2_with (first
    |(go_at_call 27;refine(Ts (h:=h) (x:=a) (G:=G) (λc H=>by have:=t c H;simp;omega) (λj A=>(O.out j A).keep (λb u=>by have:=t b u;rw[Zh4 _ _ _ (by simp;omega),Zh4 _ _ _ (by omega)])<|λ_ h=>h)).mono ?_;rintro e w1 ⟨rfl,d⟩;unfold Vi;have N:=(d.block (xz (xj w)+1)<|by simp).trans<|S8 w _;have Q:=(d.block (xz<|xj w) (by simp;omega)).trans<|(Zh4 (w.alloc<|.cells #[.int .u64 h.base,.int .i64 h.cap,.int .i64 h.to,.bool h.Y,.int .i64 h.Z,a 0,a 1,a 2,a 3,a 4] 30) _ (xz<|xj w)<|by simp).trans<|Zhk w _;have q:=d.size;simp at q;have n:=Zh2 d;clear d)
    | (go_at_call 47;refine(QJ M.out.bb _).mono ?_;rintro e w2 ⟨rfl,f⟩;rw[D];have K:=(f.block (xz (xj w)+1) (by simp;omega)).trans<|(Zh4 w1 _ (xz (xj w)+1)<|by omega).trans N;have p2:=(f.block (xz<|xj w) (by simp;omega)).trans<|(Zh4 w1 _ (xz<|xj w)<|by omega).trans Q;have x2:∀j,w2.cell? ⟨xz<|xj w,j,U⟩=(#[.int .u64 h.base,.int .i64 h.cap,.int .i64 h.to,.bool h.Y,.int .i64 h.Z,a 0,a 1,a 2,a 3,a 4]:Array Value)[j]? :=λj=>Zh7 _ _ _ _ _ _ p2;have k:Below (xz<|xj w) w w2:=((((((Zhi _ _).alloc (Zh3 _) _).alloc (by simp) _).trans<|n.out.mono (by simp;omega)).alloc (by omega) _).trans<|f.mono (by simp;omega));have B:=f.size;simp at B;have l:=Zh2 k;clear f k)
      |(go_at_call 58;refine(U9 X _).mono ?_;rintro e w3 ⟨rfl,g⟩;have C:=(g.block (xz (xj w)+1)<|by omega).trans K;have R:∀j,w3.cell? ⟨xz (xj w)+1,j,U⟩=ZL[j]? :=λj=>Zh7 _ _ _ _ _ _ C;have f3:∀j,w3.frozen? ⟨xz (xj w)+1,j,U⟩=xw:=λj=>Yc C;unfold ZL at R;have r:=Zh2 g;clear g))
    have y:=WW C (.int .u64 0) (.int .i64 0) (.int .i64 0) (.bool xw) (.int .i64 0) (.slice U 0 0) (.slice U 0 0) (.slice U 0 0) (.slice U 0 0)<|.slice U 0 0;have L:fwd h v=(0,Hp.zero,3):=by simp[fwd,D,S,T]
    refine ZhE (v:=.tuple #[.int .u64 0,.agg ZL,.int .i64 3]) ZgK rfl ⟨λ_=>.slice U 0 0,?_,XW (l.out.trans<|r.out.mono Z0) Z0 _ _ _ _ _ _ _ _ _ _,?_⟩;rw[L];simp[ZA,Hp.zero,ZL];rw[L];exact RT _ _
end Vm
namespace Vm
open Go Go.Proofs Go.RowKit
def Sy{w G k n v}(r:Rd w G (.int k n) v):v=.int k n:=by cases r;rfl
def D2{w G b v}(r:Rd w G (.bool b) v):v=.bool b:=by cases r;rfl
def yC{w G h v}(r:Rd w G (ZD h) v):∃f,v=ZA h f/\∀j,j<5->Rd w G (.sl<|(Zu h j).map vu) (f j):=by
 cases r with
 |agg _ vs t _ a=>
  refine⟨λj=>vs.getD (5+j) xy,?_,?_⟩;have g:=Sy<|a 0 _ rfl;have k:=Sy<|a 1 _ rfl;have l:=Sy<|a 2 _ rfl;have n:=D2<|a 3 _ rfl;have o:=Sy<|a 4 _ rfl;have d:=t;unfold ZA;rw[<-g,<-k,<-l,<-n,<-o];congr 1;apply Zjs;simp[d];intro i u x;have p:i<10:=Z0
  match i,p with
  |0,_|1,_|2,_|3,_|4,_|5,_|6,_|7,_|8,_|9,_=>simp[Array.getD,d]
  intro j q
  match j,q with
  |0,_=>exact a 5 _ rfl
  |1,_=>exact a 6 _ rfl
  |2,_=>exact a 7 _ rfl
  |3,_=>exact a 8 _ rfl
  |4,_=>exact a 9 _ rfl
def Jr{w G h x}(d:∀j,j<5->Rd w G (.sl<|(Zu h j).map vu) (x j)):Rd w G (ZD h)<|ZA h x:=by
 refine .agg _ _ rfl Z1 ?_;intro i y a
 match i,a with
 |0,a=>cases a;exact .int _ _
 |1,a=>cases a;exact .int _ _
 |2,a=>cases a;exact .int _ _
 |3,a=>cases a;exact .bool _
 |4,a=>cases a;exact .int _ _
 |5,a=>cases a;exact d 0 Z0
 |6,a=>cases a;exact d 1 Z0
 |7,a=>cases a;exact d 2 Z0
 |8,a=>cases a;exact d 3 Z0
 |9,a=>cases a;exact d 4 Z0
end Vm
end
section
namespace Vm
open Go Go.Proofs Go.RowKit
def Rd.bz{w:Z3}{G:Z4}{l:Zr}{v:Ze}(h:Rd w G (.sl l) v):∃a c,v=.slice a (I l) c:=by
 cases h with
 |nil a cap _=>exact⟨a,cap,rfl⟩
 |sl l b o cap k vs=>exact⟨_,cap,rfl⟩
def append_empty{P:Z6}{w:Z3}{t ty e:Zf}(u:P.underlying t=J (.slice e))(o:Ut P e=xk)(p a:Addr)(n c:Nat)(d:Zm)(r:I d=n*P.cellsOf e)(f:∀j v,d[j]?=J v->w.cell? (a.add j)=J v)(y:0<n)(h:n<=Y3):
  (Builtin.append_ #[t,t] ty #[.slice (J p) 0 0,.slice (J a) n c]).run P w=(Builtin.append_ #[t,t] ty #[.slice U 0 0,.slice (J a) n c]).run P w:=by
 obtain⟨i,z,q,x,C,D,l,k⟩:=Q6 o;simp only[Y3]at h;have g:n*i.bytes<=140737488355328:=by
  have:n*i.bytes<=4294967296*32768:=ZkI h l;omega
 rw[run_append_nil (P:=P) w t ty e i z u q x a n c d (by rw[r,k]) f y Z0 Z0];have A:=run_append_grow (P:=P) w t ty e i z u q x p 0 0 [] Z1 (λj v B=>by simp at B) a n c d (by rw[r,k]) f Z0 Z0<|Zla Z0 ZgT;simpa using A
def Z2i{w:Z3}(f:Option Addr){ty:Zf}{G:Z4}{l:Z8}{y:Ze}(hl:I l<=1000000)(Q:Rd w G (.sl<|l.map vu) y):
  ∃C h,(Builtin.append_ #[28,28] ty #[.slice f 0 0,y]).run xP w=.ok C h/\Below (xz<|xj w) w h/\Rd h (λc=>xz (xj w)<=c/\c<xz (xj h)) (.sl<|l.map vu) C:=by
 have F:=SY;have g:∀(w:Z3),Rd w (λc=>xz (xj w)<=c/\c<xz (xj w)) (.sl ([]:List V))<|.slice f 0 0:=λw=>.nil _ _ Zgh;by_cases t:l=[];subst t;obtain⟨i,z,hi,hz,a1,d,Z,a0⟩:=Q6 (P:=xP) Jb;have hv:∃a c,y=.slice a 0 c:=by
  obtain⟨a,c,e⟩:=Rd.bz Q;exact⟨a,c,by simpa using e⟩
 obtain⟨a,c,rfl⟩:=hv;refine⟨.slice f 0 0,w,?_,Zhi _ _,g w⟩;cases a<;>cases f<;>simp[Builtin.append_,ZhL F,Go.sizeOf,typeInfo,hi,Builtin.lenOf,Builtin.firstCells,loadCells,loadCellsFrom,storeCells]
 have W:0<I l:=ZjK.2 t;have key:(Builtin.append_ #[28,28] ty #[.slice f 0 0,y]).run xP w=(Builtin.append_ #[28,28] ty #[.slice U 0 0,y]).run xP w:=by
  obtain _|f:=f;rfl;have p:=Q;generalize A:l.map vu=L at p;cases p with
  |nil=>simp at A;exact absurd A t
  |sl _ b o cap kk vs d k X Y D R=>
   have T:I L=I l:=by rw[<-A,Zhv]
   have H:kk=1:=by
    obtain⟨x,hx⟩:=ZkE l t;have:=(Y (vu x) (by rw[<-A];exact ZiI hx)).1;simpa using this.symm
   subst H;refine append_empty (P:=xP) F Jb f ⟨b,o,U⟩ _ cap ((List.range<|I L).map vs) (by rw[UW];simp) (λj u S=> ?_) Z0 (by simp only[Y3];omega);have M:j<I L:=by simpa using(ZgZ.1 S).1
   have O:vs j=u:=by simpa[M]using S
   rw[ZiB,<-O];exact D j Z0
 obtain⟨C,h,q,N,d,k,X,_,D⟩:=LN (P:=xP) (ty:=ty) (B:=xz<|xj w) (n:=0) (xs:=[]) F Jb (Zio w _ _ _) (Zh3 _) Q (by rw[UW];exact LW _) (by simp only[Y3,Zhv];omega);rw[UW]at d;have K:I q=I l:=by have:=d.1;simpa using this
 have R:=qf D K;rw[R]at d;simp only[Zhv,ZhN,ZhU]at d;refine⟨C,h,key.trans N,?_,Rp d λc d k=>⟨d,k⟩⟩;have hn:(Value.slice U 0 0).ownBlock=U:=rfl;rw[hn]at k;exact Below.grown (Zhi _ _) k (Zh3 _) (λr N=>by cases N)
def Zbp{w:Z3}{o:Oper}{a:Act}{K:Zq}{Q:Zh}(s x:Operand)
  (p:o.op=.call {callee:=.builtin .append,args:=#[s,x],argTypes:=#[28,28]}) {g:Option Addr} {y:Ze} (r:a.eval s=.slice g 0 0) (hx:a.eval x=y)
  {G:Z4} {l:Z8} (n:I l<=1000000) (t:Rd w G (.sl<|l.map vu) y)
  (h:∀f d,Below (xz<|xj w) w d->Rd d (λc=>xz (xj w)<=c/\c<xz (xj d)) (.sl<|l.map vu) f->K (a.put o.dst f) d):o.wp xP a w K Q:=by
 obtain⟨f,d,q,j,k⟩:=Z2i g (ty:=o.type) n t;unfold Oper.wp execOp;simp only[p,resolve,invoke,builtin,ZhK,Zjw,ZhI,List.map_toArray,ZhA,Zis,r,hx,q];exact h f d j k
def Z0g{w:Z3}{ops:Zl}{rest:List Oper}{o:Oper}{a:Act}{Q:Zh}(g:o.guard=U)(s x:Operand)
  (r:o.op=.call {callee:=.builtin .append,args:=#[s,x],argTypes:=#[28,28]}) {j:Option Addr} {y:Ze} (t:a.eval s=.slice j 0 0) (hx:a.eval x=y)
  {G:Z4} {l:Z8} (q:I l<=1000000) (u:Rd w G (.sl<|l.map vu) y)
  (h:∀f d,Below (xz<|xj w) w d->Rd d (λc=>xz (xj w)<=c/\c<xz (xj d)) (.sl<|l.map vu) f->wpList xP ops Q rest (a.put o.dst f) d):wpList xP ops Q (o::rest) a w:=
 wpList_plain g λ_ p=>Zbp s x r t hx q u λf d k n=>p _ _<|h f d k n
def AM(w:Z3){G:Z4}{l:Z8}{y:Ze}(j:I l<=1000000)(f:Rd w G (.sl<|l.map vu) y):
  Calls xP 46 #[y] w λe d=>∃v,e=.returned v/\Below (xz<|xj w) w d/\Rd d (λc=>xz (xj w)<=c/\c<xz (xj d)) (.sl<|l.map vu) v:=by
 obtain⟨a,c,rfl⟩:=Rd.bz f;go_enter EZ,Try.ntmps46;go_wp2_with (at_builtin;refine Z0g rfl _ _ rfl rfl rfl j f ?_;intro g d h k)
 exact ZhE (v:=g) (by simp[results,Try.results46,go_sem]) rfl ⟨g,rfl,h,k⟩
def Z3v(w:Z3)(n c:Nat):Sem.run xP (binOp .eql 28 (.slice U n c)<|.slice U 0 0) w=.ok (.bool xk) w:=ZgR
def Z3w(w:Z3)(a:Addr)(n c:Nat):Sem.run xP (binOp .eql 28 (.slice (J a) n c)<|.slice U 0 0) w=.ok (.bool xw) w:=ZgR
def Z0D(w:Z3){G:Z4}(x:∀b,G b->b<xz (xj w)){l:Z8}{y:Ze}(A:I l<=1000000)(g:Rd w G (.sl<|l.map vu) y):
  Calls xP 61 #[y] w λe k=>∃v,e=.returned v/\Below (xz<|xj w) w k/\Rd k (λc=>xz (xj w)<=c/\c<xz (xj k)) (.sl<|l.map vu) v:=by
 obtain⟨a,c,rfl⟩:=Rd.bz g;cases a with
 |none=>
  have u:l=[]:=by
   generalize z:l.map vu=L at g;cases g with
   |nil=>simpa using z
  subst u;have q:=Z3v w 0 c;go_enter F2,Try.ntmps61;simp only[Zis,Zif];go_wp2;exact ZhE (v:=.slice U 0 0) (by simp[results,Try.results61,go_sem]) rfl ⟨_,rfl,Zhi _ _,.nil _ _ Zgh⟩
 |some p=>
  have q:=Z3w w p (I l) c;go_enter F2,Try.ntmps61;have h:Rd (w.alloc<|.cells #[] 24) G (.sl<|l.map vu)<|.slice (J p) (I<|l.map vu) c:=g.keep (λb d=>Zh4 _ _ _<|x b d) λ_ q=>q;have f:Below (xz<|xj w) w<|w.alloc<|.cells #[] 24:=(Zhi _ _).alloc (Zh3 _) _;have j:xz (xj<|w.alloc<|.cells #[] 24)=xz (xj w)+1:=Z1;have n:=Zh2<|And.intro f j;clear f j g;go_wp2_with (at_builtin;refine Z0g rfl _ _ rfl rfl rfl A h ?_;intro t k d r;have o:=Zh2<|And.intro d r;clear d r h)
  refine ZhE (v:=t) (by simp[results,Try.results61,go_sem]) rfl ⟨t,rfl,n.out.1.trans<|o.out.1.mono (by rw[n.out.2];omega),o.out.2.mono λb d=>⟨by have:=n.out.2;omega,d.2⟩⟩
section
def QN(K:Zq)(Q:Zh):Exit->Act->World->Prop
 |.normal,a,w=>K a w
 |.ret,a,w=>Q .ret a w
 |.outgrown,a,w=>Q .outgrown a w
 |e,a,w=>Q e a w
section
variable {P:Z6}{ops:Zl}{Q:Zh}
def Zbm{i:Nat}{o:Oper}{K:Zq}{a:Act}{w:Z3}(k:ops[i]?=J o)(h:wpList P ops (QN K Q) [o] a w):wpOp P ops Q i K a w:=by
 unfold wpOp;rw[k];simp only;unfold wpList at h;split at h;rename_i f;rw[Zhc f];obtain h|⟨g,j⟩:=h;left;unfold Oper.wp at*;generalize (execOp a.eval o).run P w=r at*;cases r with
 |ok n l=>
  cases n<;>simp only[Oper.upon]at h⊢ <;>
   first
    |exact h
    |exact ZjB h (λe p d=>by cases e<;>exact d)
    |exact Rows.mono h (λ_ _ d=>d)
 |halt x l=>cases x<;>simp only[Oper.upon]at h⊢ <;>exact h
 exact .inr ⟨g,j⟩;rename_i f;rw[Zh9 f];exact h
def Z8Z{id:Nat}{C:Act}{w0:Z3}(hm:P.follows .mixedOrders=xk)(y:∀(i:Nat) (o:Oper),ops[i]?=J o->∀e∈Uc o,e<i)(I:(Nat->Bool)->Act->World->Prop)
  (S:I (λ_=>xw) C {w0 with drawn:=w0.drawn+1})
  (H:∀(L:ZfY) (i:Nat) (o:Oper) (a:Act) (w:Z3),ops[i]?=J o->L i=xw->(∀j∈Uc o,L j=xk)->I L a w->wpList P ops (QN (I<|add L i) Q) [o] a w)
  (M:∀(L:ZfY) (a:Act) (w:Z3),(∀i,i<ops.size->L i=xk)->I L a w->Q .normal a w):(Code.region id ops xk).wp P Q C w0:=by
 have t:∀(listed:Array Bool) (i:Nat),listed.size=ops.size->i<ops.size->listed.getD i xk=listed.getD i xw:=by
  intro listed i l D;simp[Zh5,l,D]
 have h:∀(listed:Array Bool),listed.size=ops.size->Region.ready .any ops listed=[]->∀i,i<ops.size->listed.getD i xw=xk:=by
  intro listed f z i;induction i using Nat.strongRecOn with
  |_ i K=>
   intro q;cases Z:listed.getD i xw with
   |true=>rfl
   |false=>
    have:i∈Region.ready .any ops listed:=ZkX.2 ⟨by rw[t listed i f q];exact Z,ops[i],ZhP q,λe X W=>by
     have k:=y i ops[i] (ZhP q) e.on<|IV X W;exact K e.on k Z0⟩
    rw[z]at this;simp at this
 refine wp_region_any hm ?_;have A:∀(d:Nat) (listed:Array Bool) (a:Act) (w:Z3),listed.size=ops.size->zf ops.size (λi=>listed.getD i xw)<=d->I (λi=>listed.getD i xw) a w->wpAny P .any ops Q d listed a w:=by
  intro d;induction d with
  |zero=>
   intro listed a w f N B;have g:=PS<|Nat.le_zero.1 N;refine⟨?_,M _ a w g B⟩;cases z:Region.ready .any ops listed with
   |nil=>rfl
   |cons i r=>
    have:i∈Region.ready .any ops listed:=by rw[z];simp
    obtain⟨l,o,x,_⟩:=ZkX.1 this;have q:i<ops.size:=(Zh6.1 x).1;rw[t listed i f q,g i q]at l;cases l
  |succ d K=>
   intro listed a w f N B;refine⟨λz=>M _ a w (h listed f z) B,λi q=> ?_⟩;obtain⟨l,o,x,g⟩:=ZkX.1 q;have k:i<ops.size:=(Zh6.1 x).1;rw[t listed i f k]at l;have p:(λj=>(listed.setIfInBounds i xk).getD j xw)=add (λi=>listed.getD i xw) i:=by
    funext j;simp only[add];by_cases u:j=i;subst u;have:j<listed.size:=Z0;simp[Zh5,this];have:(listed.setIfInBounds i xk).getD j xw=listed.getD j xw:=getD_set_ne xw<|ZiJ u;rw[this];simp[u]
   have hs:=Zbm x (H _ i o a w x l (λj Y=>by
    obtain⟨R,D,T,rfl⟩:=Gk Y;exact g R D T) B)
   refine wpOp_mono (λO w' F=>K _ O w' Zgi ?_ (by rw[p];exact F)) hs;rw[p];have:=PR (n:=ops.size) (L:=λi=>listed.getD i xw) k l;omega
 have G:(λi=>(Array.replicate ops.size xw).getD i xw)=λ_=>xw:=by
  funext i;simp only[Zh5,Array.getElem?_replicate];split<;>rfl
 refine A _ _ C _ Z1 ?_ (by rw[G];exact S);exact Zhu (Zkb _ _) Z1
end
def QF(a:Act)(l:List<|Nat×Value):Act:= {a with tmps:=l.foldl (λt p=>t.setIfInBounds p.1 p.2) a.tmps}
def C4(ops:Zl):Bool:=(List.range ops.size).all λi=>match ops[i]? with|some o=>(Uc o).all λe=>decide (e<i)|none=>xk
def Z7k{ops:Zl}(h:C4 ops=xk):∀(i:Nat) (o:Oper),ops[i]?=J o->∀e∈Uc o,e<i:=by
 intro i o a e d;unfold C4 at h;rw[Zhd]at h;have:=h i (by simpa using(Zh6.1 a).1);rw[a]at this;simp only[Zhd,Zhy]at this;exact this e d
def Tj(a:Act)(d:Za)(v:Z5):Act:=QF a (d.map λs=>(s,v s))
def Xf(v:Z5)(s:Nat)(x:Ze):Nat->Value:=λt=>if t=s then x else v t
def RD(v:Z5)(s:Nat)(x:Ze):Xf v s x s=x:=Zhc rfl
def TZ(v:Z5){s t:Nat}(x:Ze)(h:t≠s):Xf v s x t=v t:=Zh9 h
def Ot{P:Z6}{ops:Zl}{Q:Zh}{id:Nat}{d:Act}{w0:Z3}(g:Za)(C:(Nat->Bool)->(Nat->Value)->World->Prop)
  (t:P.follows .mixedOrders=xk) (f:C4 ops=xk) (l:∃v,d=Tj d g v/\C (λ_=>xw) v {w0 with drawn:=w0.drawn+1})
  (k:∀(L:ZfY) (i:Nat) (o:Oper) (v:Z5) (w:Z3),ops[i]?=J o->L i=xw->(∀j∈Uc o,L j=xk)->C L v w->
   wpList P ops (QN (λa w=>∃v,a=Tj d g v/\C (add L i) v w) Q) [o] (Tj d g v) w)
  (p:∀(L:ZfY) (v:Z5) (w:Z3),(∀i,i<ops.size->L i=xk)->C L v w->Q .normal (Tj d g v) w):(Code.region id ops xk).wp P Q d w0:=by
 refine Z8Z t (Z7k f) (λL a w=>∃v,a=Tj d g v/\C L v w) l ?_ ?_;rintro L i o _ w u q r ⟨v,rfl,h⟩;exact k L i o v w u q r h;rintro L _ w n ⟨v,rfl,h⟩;exact p L v w n h
def zA(L:ZfY)(i:Nat):add L i i=xk:=by simp[add]
def WH{L:ZfY}{i j:Nat}(h:j≠i):add L i j=L j:=by simp[add,h]
end
section
def K0{v:Z5}{s:Nat}{x:Ze}(h:v s=x):Xf v s x=v:=by
 funext t;unfold Xf;by_cases e:t=s;rw[Zhc e,e,h];rw[Zh9 e]
def Uy(h:Hp)(i:Nat):List Int:=if i=9 then h.H else if i=12 then h.ab else h.E
def Ue(h:Hp)(y:Z5):Array Value:=#[.int .u64 h.base,.int .i64 h.cap,.int .i64<|1-h.to,.bool xw,.int .i64 0,.slice U 0 0,.slice U 0 0,y 9,y 12,y 15]
def UZ(bh:Nat)(h:Hp)(src:Z5):Nat->Value
 |0=>.pointer<|J ⟨bh,0,U⟩
 |1=>.int .u64 h.base
 |2=>.pointer<|J ⟨bh,1,U⟩
 |3=>.int .i64 h.cap
 |4=>.pointer<|J ⟨bh,2,U⟩
 |5=>.int .i64 h.to
 |6=>.int .i64<|1-h.to
 |7=>.pointer<|J ⟨bh,5,U⟩
 |8=>src 0
 |10=>.pointer<|J ⟨bh,6,U⟩
 |11=>src 1
 |13=>.pointer<|J ⟨bh,9,U⟩
 |14=>src 4
 |_=>xy
def XZ(i:Nat):Prop:=i<15/\i≠9/\i≠12
def Xy(i:Nat):Prop:=i=9\/i=12\/i=15
def V4(W0 W:Z3)(L:ZfY)(v:Z5)(b:Nat):Prop:=xz (xj W0)<=b/\b<xz (xj W)/\(L 17=xk->v 4≠.pointer (J ⟨b,0,U⟩))
structure FlC (W0:World) (bh:Nat) (h:Hp) (src:Nat->Value) (L:Nat->Bool) (v:Nat->Value) (W:World):Prop where
 b:Below (xz<|xj W0) W0 W
 eq:∀i,XZ i->L i=xk->v (16+i)=UZ bh h src i
 rd:∀i,Xy i->L i=xk->Rd W (V4 W0 W L v) (.sl<|(Uy h i).map vu) (v<|16+i)
 agg:L 16=xk->∃y,v 32=.agg (Ue h y)/\∀i,Xy i->Rd W (V4 W0 W L v) (.sl<|(Uy h i).map vu) (y i)
 new:L 17=xk->∃c,v 4=.pointer (J ⟨c,0,U⟩)/\xz (xj W0)<=c/\c<xz (xj W)/\(L 18=xw->W.heap[c]?=J (.cells ZL 30 (0,0)))
 put:L 18=xk->∃c y,v 4=.pointer (J ⟨c,0,U⟩)/\xz (xj W0)<=c/\W.heap[c]?=J (.cells (Ue h y) 30 (0,0))/\∀i,Xy i->Rd W (V4 W0 W L v) (.sl<|(Uy h i).map vu) (y i)
 c18:L 18=xk->L 17=xk
section
variable {W0 W W':Z3}{bh:Nat}{h:Hp}{src:Z5}{L:ZfY}{v:Z5}
def FlC.step(C:FlC W0 bh h src L v W){i s:Nat}(O:i<17)(M:s=16+i){x:Ze}(q:Below (xz<|xj W) W W')(H:XZ i->x=UZ bh h src i)
  (K:Xy i->Rd W' (λb=>xz (xj W)<=b/\b<xz (xj W')) (.sl<|(Uy h i).map vu) x) (G:i=16->∃y,x=.agg (Ue h y)/\∀j,Xy j->Rd W (V4 W0 W L v) (.sl<|(Uy h j).map vu) (y j)):FlC W0 bh h src (add L i) (Xf v s x) W':=by
 subst M;have o:add L i 18=L 18:=WH Z0;have k:add L i 17=L 17:=WH Z0;have v4:Xf v (16+i) x 4=v 4:=TZ v x Z0;have B:∀b,V4 W0 W L v b->b<xz (xj W)/\V4 W0 W' (add L i) (Xf v (16+i) x) b:=λb d=>by
  obtain⟨D,A,F⟩:=d;refine⟨A,D,Zh8 A q.size,?_⟩;rw[k,v4];exact F
 have t:∀ {u:V} {z:Ze},Rd W (V4 W0 W L v) u z->Rd W' (V4 W0 W' (add L i)<|Xf v (16+i) x) u z:=λN=>N.keep (λb d=>q.block b (B b d).1) λb d=>(B b d).2;refine⟨C.b.trans<|q.mono C.b.size,λj f a=> ?_,λj f a=> ?_,λa=> ?_,λa=> ?_,λa=> ?_,λa=> ?_⟩;by_cases e:j=i;subst e;rw[RD];exact H f;rw[WH e]at a;rw[TZ v x Z0];exact C.eq j f a;by_cases e:j=i;subst e;rw[RD];refine(K f).mono λb d=> ?_;refine⟨Zhu C.b.size d.1,d.2,λl=> ?_⟩;rw[k]at l;rw[v4];obtain⟨c,g,_,p,_⟩:=C.new l;rw[g];intro r;cases r;omega;rw[WH e]at a;rw[TZ v x Z0];exact t<|C.rd j f a;by_cases e:i=16;subst e;obtain⟨y,g,n⟩:=G rfl;exact⟨y,by rw[<-g];exact RD _ _ _,λj f=>t<|n j f⟩;rw[WH<|ZiJ e]at a;obtain⟨y,g,n⟩:=C.agg a;exact⟨y,by rw[TZ v x Z0];exact g,λj f=>t<|n j f⟩;rw[k]at a;obtain⟨c,g,n,p,r⟩:=C.new a;refine⟨c,by rw[v4];exact g,n,Zh8 p q.size,λw=> ?_⟩;rw[o]at w;exact(q.block c p).trans (r w);rw[o]at a;obtain⟨c,y,g,n,p,r⟩:=C.put a;exact⟨c,y,by rw[v4];exact g,n,(q.block c<|Y9 p).trans p,λj f=>t<|r j f⟩;rw[o]at a;rw[k];exact C.c18 a
def FlC.pure(C:FlC W0 bh h src L v W){i s:Nat}(a:XZ i)(g:s=16+i){x:Ze}(f:x=UZ bh h src i):FlC W0 bh h src (add L i) (Xf v s x) W:=
 C.step (by unfold XZ at a;omega) g (Zhi _ _) (λ_=>f) (λd=>by unfold XZ at a;unfold Xy at d;omega) (λe=>by unfold XZ at a;omega)
def FlC.call(C:FlC W0 bh h src L v W){i s:Nat}(a:Xy i)(j:s=16+i){x:Ze}(f:Below (xz<|xj W) W W')(g:Rd W' (λb=>xz (xj W)<=b/\b<xz (xj W')) (.sl<|(Uy h i).map vu) x):FlC W0 bh h src (add L i) (Xf v s x) W':=
 C.step (by unfold Xy at a;omega) j f (λd=>by unfold XZ at d;unfold Xy at a;omega) (λ_=>g) (λe=>by unfold Xy at a;omega)
def FlC.built(C:FlC W0 bh h src L v W)(k:L 9=xk)(f:L 12=xk)(g:L 15=xk):FlC W0 bh h src (add L 16) (Xf v 32<|.agg (Ue h λi=>v<|16+i)) W:=
 C.step Z0 rfl (Zhi _ _) (λa=>by unfold XZ at a;omega) (λa=>by unfold Xy at a;omega) λ_=>⟨_,rfl,λj d=>C.rd j d (by unfold Xy at d;obtain rfl|rfl|rfl:=d<;>assumption)⟩
def FlC.alloc(C:FlC W0 bh h src L v W)(g:L 17=xw):FlC W0 bh h src (add L 17) (Xf v 4<|.pointer<|J ⟨xz<|xj W,0,U⟩)<|W.alloc<|.cells ZL 30:=by
 have k:L 18=xw:=by
  cases e:L 18 with
  |false=>rfl
  |true=>have:=C.c18 e;rw[g]at this;cases this
 have o:Below (xz<|xj W) W<|W.alloc<|.cells ZL 30:=(Zhi _ _).alloc (Zh3 _) _;have p:xz (xj<|W.alloc<|.cells ZL 30)=xz (xj W)+1:=Z1;have n:∀b,V4 W0 W L v b->b<xz (xj W)/\V4 W0 (W.alloc<|.cells ZL 30) (add L 17) (Xf v 4<|.pointer<|J ⟨xz<|xj W,0,U⟩) b:=λb d=>by
  obtain⟨w,x,A⟩:=d;refine⟨x,w,Z0,λ_=> ?_⟩;rw[RD];intro e;cases e;omega
 have q:∀ {u:V} {z:Ze},Rd W (V4 W0 W L v) u z->Rd (W.alloc<|.cells ZL 30) (V4 W0 (W.alloc<|.cells ZL 30) (add L 17)<|Xf v 4<|.pointer<|J ⟨xz<|xj W,0,U⟩) u z:=λp=>p.keep (λb d=>o.block b (n b d).1) λb d=>(n b d).2;refine⟨C.b.trans<|o.mono C.b.size,λj f a=> ?_,λj f a=> ?_,λa=> ?_,λa=> ?_,λa=> ?_,λa=> ?_⟩;have l:j<15:=f.1;rw[WH Z0]at a;rw[TZ _ _ Z0];exact C.eq j f a;have l:j<17:=by unfold Xy at f;omega
 rw[WH Z0]at a;rw[TZ _ _ Z0];exact q<|C.rd j f a;rw[WH Z0]at a;obtain⟨y,r,t⟩:=C.agg a;exact⟨y,by rw[TZ _ _ Z0];exact r,λj f=>q<|t j f⟩;exact⟨xz<|xj W,RD _ _ _,C.b.size,Z0,λ_=>Zhk W _⟩;rw[WH Z0,k]at a;cases a;exact zA _ _
def FlC.store(C:FlC W0 bh h src L v W){c:Nat}(hc:v 4=.pointer (J ⟨c,0,U⟩)){y:Z5}(N:v 32=.agg (Ue h y))(g:L 17=xk)(AV:L 16=xk)(R:L 18=xw)(B:W.heap[c]?=J (.cells ZL 30 (0,0)))
  (H:∀b,b≠c->W'.heap[b]?=W.heap[b]?) (S:xz (xj W')=xz (xj W)) (M:W'.heap[c]?=J (.cells (Ue h y) 30 (0,0))) (K:Below (xz<|xj W0) W W'):FlC W0 bh h src (add L 18) v W':=by
 have k:add L 18 17=L 17:=WH Z0;have x:∀b,V4 W0 W L v b->b≠c/\V4 W0 W' (add L 18) v b:=λb a=>by
  obtain⟨G,Q,w⟩:=a;refine⟨λe=> ?_,G,Z0,by rw[k];exact w⟩;subst e;exact w g hc
 have q:∀ {u:V} {z:Ze},Rd W (V4 W0 W L v) u z->Rd W' (V4 W0 W' (add L 18) v) u z:=λB=>B.keep (λb a=>H b (x b a).1) λb a=>(x b a).2;obtain⟨O,l,n,P,_⟩:=C.new g;rw[hc]at l;cases l;refine⟨C.b.trans K,λj d f=> ?_,λj d f=> ?_,λf=> ?_,λf=> ?_,λf=> ?_,λf=>by rw[k];exact g⟩;have o:j<15:=d.1;rw[WH Z0]at f;exact C.eq j d f;have o:j<17:=by unfold Xy at d;omega
 rw[WH Z0]at f;exact q<|C.rd j d f;obtain⟨y,l,n⟩:=C.agg AV;exact⟨y,l,λj d=>q<|n j d⟩;refine⟨c,hc,n,Z0,λt=> ?_⟩;rw[zA]at t;cases t;obtain⟨D,r,F⟩:=C.agg AV;rw[N]at r;have p:∀i,Xy i->D i=y i:=λi A=>by
  have e:Ue h y=Ue h D:=by injection r
  unfold Ue at e;unfold Xy at A;simp at e;obtain rfl|rfl|rfl:=A;exact e.1.symm;exact e.2.1.symm;exact e.2.2.symm
 exact⟨c,y,hc,n,M,λj d=>by rw[<-p j d];exact q<|F j d⟩
end
end
end Vm
end
section
namespace Vm
open Go Go.Proofs
def MU:Fn:=⟨5,[0,1,2,3,4],pQ [pR [(1,pS 0 10),pV 2 pF],pC [pK 5 36 [.mm 1 0 10]] [pV 3<|.ext (.s 5) 0,pV 4<|.ext (.s 5) 1]]<|px [pV 2<|.s 4],[(2,.v)]⟩
def c17:ZX [.fz] Try.f17=J MU:=Z2
def MV:Fn:=⟨6,[0,1,2,3,4,11],pQ [pR [(1,pS 0 10),pV 2<|pI 0],pC [pK 6 36 [.mm 1 0 10]] [pV 3<|.ext (.s 6) 0,pV 4<|.ext (.s 6) 1],pi 5 (.un .not<|.s 4)<|px [pV 2<|pI 0],pC [pK 7 37 [.s 3]] [pV 2<|.s 7]] .ret,[(2,.v)]⟩
def c18:ZX [.fz] Try.f18=J MV:=Z2
def N4:Fn:=⟨12,[0,1,2,3,13,4,16,15,17,6,14,24],pQ [pR [(1,pS 0 10),pV 2<|.c<|.ls 0,pV 3 pF],.ao ⟨[pK 12 27 [.mm 1 0 10]],[([],.ag [.ae (.mm 1 0 10) 0,.ae (.mm 1 0 10) 1,.ae (.mm 1 0 10) 2,.ae (.mm 1 0 10) 3,.ae (.mm 1 0 10) 4,.ae (.mm 1 0 10) 5,.ae (.mm 1 0 10) 6,.ae (.mm 1 0 10) 7,.ae (.mm 1 0 10) 8,.ae (.mm 1 0 10) 9,.ae (.sz (.s 12) 7) 0,.ae (.sz (.s 12) 7) 1,.ae (.sz (.s 12) 7) 2,.ae (.sz (.s 12) 7) 3,.ae (.sz (.s 12) 7) 4,.ae (.sz (.s 12) 7) 5,.ae (.sz (.s 12) 7) 6,pN,pN,pN,pN,.c<|.mp 0 [] [],.c<|.mp 0 [] []])],[(5,.m [.ae (.mm 1 0 10) 0,.ae (.mm 1 0 10) 1,.ae (.mm 1 0 10) 2,.ae (.mm 1 0 10) 3,.ae (.mm 1 0 10) 4,.ae (.mm 1 0 10) 5,.ae (.mm 1 0 10) 6,.ae (.mm 1 0 10) 7,.ae (.mm 1 0 10) 8,.ae (.mm 1 0 10) 9,.ae (.sz (.s 12) 7) 0,.ae (.sz (.s 12) 7) 1,.ae (.sz (.s 12) 7) 2,.ae (.sz (.s 12) 7) 3,.ae (.sz (.s 12) 7) 4,.ae (.sz (.s 12) 7) 5,.ae (.sz (.s 12) 7) 6,pN,pN,pN,pN,.c<|.mp 0 [] [],.c<|.mp 0 [] []])]⟩,pQ [pC [pK 10 55 []] [pV 6<|pI 0,pV 7<|.len<|.s 10]]<|po [0,1,2,3,5,6,7,10] 8 (pl (.s 6)<|.s 7) (pQ [pR [(9,.m [.ae (.bd (.ba (.s 10) (.s 6) 1) 0 1) 0])],pC [.cn 13 [] (.e<|.m 9 0) [.mem [.fz,.fz,.fz,.fz,.fz,.fz,.fz,.fz,.fz,.fz,.fz,.fz,.fz,.fz,.fz,.fz,.fz,.fz,.fz,.fz,.fz,.own 108,.own 109]] [.ag [.m 5 0,.m 5 1,.m 5 2,.m 5 3,.m 5 4,.m 5 5,.m 5 6,.m 5 7,.m 5 8,.m 5 9,.m 5 10,.m 5 11,.m 5 12,.m 5 13,.m 5 14,.m 5 15,.m 5 16,.m 5 17,.m 5 18,.m 5 19,.m 5 20,.m 5 21,.m 5 22]]] [(5,pM (.ext (.s 13) 1) 23),pV 11<|.un .not<|.ext (.s 13) 0]]<|pw (.s 11)<|px [pV 2<|.c<|.ls 0,pV 3 pF])<|pc 6]<|px [pV 2<|.pt U [.m 5 0,.m 5 1,.m 5 2,.m 5 3,.m 5 4,.m 5 5,.m 5 6,.m 5 7,.m 5 8,.m 5 9,.m 5 10,.m 5 11,.m 5 12,.m 5 13,.m 5 14,.m 5 15,.m 5 16,.m 5 17,.m 5 18,.m 5 19,.m 5 20,.m 5 21,.m 5 22],pV 3 pT,(5,.no)],[(2,.v),(3,.v)]⟩
def c36:ZX [.fz] Try.f36=J N4:=Z2
def N5:Fn:=⟨11,[0,2,3,4,8,19,18,20,6,17,25],pQ [pR [pV 1<|pI 0],pR [pV 2<|pI 0],pQ [pR [pV 3<|pI 3]]<|.block 0<|.loop [0,1,2,3]<|pQ [pu 4 (pL (.s 3)<|pI 4) .skip<|.exit 0,.block 1<|pQ [pR [pV 5<|pI 0,pV 6<|.len<|.ae (.ai (.bd (.au<|.s 0) 17 4) (pb (.s 3)<|pI 1) 4 1 xk) 0,pV 9<|.ae (.ai (.bd (.au<|.s 0) 17 4) (pb (.s 3)<|pI 1) 4 1 xk) 0]]<|.block 2<|.loop [0,1,2,3,4,5,6,9]<|pQ [pR [pV 7<|pl (.s 5)<|.s 6],.cond (.s 7) .skip<|.exit 2,.block 3<|pQ [pR [(8,pM (.bd (.ba (.s 9) (.s 5) 5) 0 5) 5)]]<|pi 10 (.un .not<|.m 8 3)<|pR [pV 2<|pa (.s 2)<|pa (pI 1)<|.m 8 1]]<|pc 5]<|pc 3]<|px [pV 1<|.s 2],[(1,.v)]⟩
def c37:ZX [.fz] Try.f37=J N5:=Z2
def Ng:Fn:=⟨1,[0],pQ [pR [pV 0 pN]]<|px [pV 0<|.lit [.ag [.c<|.fn 73],.ag [.c<|.fn 74],.ag [.c<|.fn 75],.ag [.c<|.fn 76],.ag [.c<|.fn 77],.ag [.c<|.fn 78],.ag [.c<|.fn 79],.ag [.c<|.fn 80]]],[(0,.v)]⟩
def c55:ZX [] Try.f55=J Ng:=Z2
def No:Fn:=⟨2,[0,2],pQ [pR [pV 1 pF],.ao ⟨[pK 2 47 [.bd (.au<|.s 0) 10 7],.lt 3 []<|.s 2,.lt 4 []<|.ite (.s 3) (pL (.len<|.ae (.au<|.s 0) 9)<|pI 16) pF,.lt 5 []<|.ite (.s 4) (pg (.ae (.au<|.s 0) 4)<|pI 0) pF],[([(3,xk)],pL (.len<|.ae (.au<|.s 0) 9)<|pI 16),([(4,xk)],pg (.ae (.au<|.s 0) 4)<|pI 0),([(5,xk)],pL (.ae (.au<|.s 0) 4)<|.len<|.ae (.au<|.s 0) 5)],[pV 1<|.ite (.s 5) (pL (.ae (.au<|.s 0) 4)<|.len<|.ae (.au<|.s 0) 5) pF]⟩] .ret,[(1,.v)]⟩
def c73:ZX [.fz] Try.f73=J No:=Z2
def Lo:Fn:=⟨3,[0,2,7],pQ [pR [pV 1 pF],pi 2 (.ae (.au<|.s 0) 3)<|px [pV 1<|pl (.ae (.au<|.s 0) 4)<|.len<|.ae (.au<|.s 0) 5],.ao ⟨[.lt 3 []<|pe (.len<|.ae (.au<|.s 0) 7)<|pI 0,.lt 4 []<|.ite (.s 3) (pe (.len<|.ae (.au<|.s 0) 8)<|pI 0) pF],[([(3,xk)],pe (.len<|.ae (.au<|.s 0) 8)<|pI 0),([(4,xk)],pe (.ae (.au<|.s 0) 4)<|.len<|.ae (.au<|.s 0) 5)],[pV 1<|.ite (.s 4) (pe (.ae (.au<|.s 0) 4)<|.len<|.ae (.au<|.s 0) 5) pF]⟩] .ret,[(1,.v)]⟩
def c74:ZX [.fz] Try.f74=J Lo:=Z2
def Np:Fn:=⟨11,[0,2,3,8,9,4,5,6,7,18,39],pQ [pR [pV 1 pF],pR [pV 2 pT],.skip,pQ [pR [pV 3<|pI 0]]<|po [0,1,2,3] 4 (pl (.s 3)<|pI 4) (pQ [pR [pV 5<|.s 3],pR [pV 6<|pa (.s 5)<|pI 1],pR [pV 7 pN],pR [pV 8<|pI 0],pQ [.ao ⟨[.lt 11 []<|pe (.s 6)<|pI 1],[([(11,xw)],pe (.s 6)<|pI 2)],[pV 9<|.ite (.s 11) pT<|pe (.s 6)<|pI 2]⟩]<|.cond (.s 9) (pC [pK 12 85 [.pt U [.m 0 0,.m 0 1,.m 0 2,.m 0 3,.m 0 4,.m 0 5,.m 0 6,.m 0 7,.m 0 8,.m 0 9,.m 0 10,.m 0 11,.m 0 12,.m 0 13,.m 0 14,.m 0 15,.m 0 16,.m 0 17,.m 0 18,.m 0 19,.m 0 20,.m 0 21,.m 0 22],.s 6],.call 13 [] (.id 84) xk xw [.s 12]] [pV 7<|.ext (.s 13) 0,pV 8<|.ext (.s 13) 1])<|pC [pK 14 85 [.pt U [.m 0 0,.m 0 1,.m 0 2,.m 0 3,.m 0 4,.m 0 5,.m 0 6,.m 0 7,.m 0 8,.m 0 9,.m 0 10,.m 0 11,.m 0 12,.m 0 13,.m 0 14,.m 0 15,.m 0 16,.m 0 17,.m 0 18,.m 0 19,.m 0 20,.m 0 21,.m 0 22],.s 6],pK 15 85 [.pt U [.m 0 0,.m 0 1,.m 0 2,.m 0 3,.m 0 4,.m 0 5,.m 0 6,.m 0 7,.m 0 8,.m 0 9,.m 0 10,.m 0 11,.m 0 12,.m 0 13,.m 0 14,.m 0 15,.m 0 16,.m 0 17,.m 0 18,.m 0 19,.m 0 20,.m 0 21,.m 0 22],.s 6],pK 16 87 [.pt U [.m 0 0,.m 0 1,.m 0 2,.m 0 3,.m 0 4,.m 0 5,.m 0 6,.m 0 7,.m 0 8,.m 0 9,.m 0 10,.m 0 11,.m 0 12,.m 0 13,.m 0 14,.m 0 15,.m 0 16,.m 0 17,.m 0 18,.m 0 19,.m 0 20,.m 0 21,.m 0 22],.s 15],.call 17 [] (.id 86) xk xw [.s 14,.s 16]] [pV 7<|.ext (.s 17) 0,pV 8<|.ext (.s 17) 1],pi 10 (pn (.s 8)<|pI 0)<|pQ [pR [pV 2 pF]]<|.exit 0]<|pC [.cn 18 [] (.id 88) [.mem [.fz,.fz,.fz,.fz,.fz,.fz,.fz,.fz,.fz,.fz,.fz,.fz,.fz,.fz,.fz,.fz,.fz,.fz,.fz,.fz,.fz,.own 108,.own 109],.fz,.fz] [.ag [.m 0 0,.m 0 1,.m 0 2,.m 0 3,.m 0 4,.m 0 5,.m 0 6,.m 0 7,.m 0 8,.m 0 9,.m 0 10,.m 0 11,.m 0 12,.m 0 13,.m 0 14,.m 0 15,.m 0 16,.m 0 17,.m 0 18,.m 0 19,.m 0 20,.m 0 21,.m 0 22],.s 6,.s 7]] [(0,pM (.ext (.s 18) 1) 23)])<|pc 3]<|px [pV 1<|.s 2],[(1,.v)]⟩
def c75:Wx xP fresh sig [(.mem [.fz,.fz,.fz,.fz,.fz,.fz,.fz,.fz,.fz,.fz,.fz,.fz,.fz,.fz,.fz,.fz,.fz,.fz,.fz,.fz,.fz,(.own 108),(.own 109)])] [(0,(.mem [.fz,.fz,.fz,.fz,.fz,.fz,.fz,.fz,.fz,.fz,.fz,.fz,.fz,.fz,.fz,.fz,.fz,.fz,.fz,.fz,.fz,(.own 108),(.own 109)]))] Try.f75=J Np:=Z2
def Co:Fn:=⟨13,[0,2,12,3,4,15,26,25,27,6,24,32,46],pQ [pR [pV 1 pF],pi 2 (.un .not<|.ae (.au<|.s 0) 3)<|px [pV 1 pT],pR [pV 3<|.c<|.mp 0 [] []],pQ [pR [pV 4<|pI 3]]<|.block 0<|.loop [0,1,2,3,4]<|pQ [pu 5 (pL (.s 4)<|pI 4) .skip<|.exit 0,.block 1<|pQ [pR [pV 6<|pI 0,pV 7<|.len<|.ae (.ai (.bd (.au<|.s 0) 17 4) (pb (.s 4)<|pI 1) 4 1 xk) 0,pV 10<|.ae (.ai (.bd (.au<|.s 0) 17 4) (pb (.s 4)<|pI 1) 4 1 xk) 0]]<|.block 2<|.loop [0,1,2,3,4,5,6,7,10]<|pQ [pR [pV 8<|pl (.s 6)<|.s 7],.cond (.s 8) .skip<|.exit 2,.block 3<|pQ [pR [(9,pM (.bd (.ba (.s 10) (.s 6) 5) 0 5) 5)],pi 11 (.un .not<|.m 9 3)<|.exit 3,pQ [.ao ⟨[.lt 13 []<|pn (.lk (.i .u64) (.ae (.au<|.s 0) 21) (.m 9 4) (.int .i64 0) xw)<|pI 1],[([(13,xw)],.fl<|.lk (.i .u64) (.s 3) (.m 9 4) (.bool xw) xw)],[pV 12<|.ite (.s 13) pT<|.fl<|.lk (.i .u64) (.s 3) (.m 9 4) (.bool xw) xw]⟩]<|pw (.s 12)<|px [pV 1 pF]]<|pR [pV 3<|.dj (.i .u64) (.s 3) (.m 9 4) pT]]<|pc 6]<|pc 4]<|px [pV 1<|pe (.dz<|.s 3)<|.len<|.ae (.ai (.bd (.au<|.s 0) 17 4) (pI 0) 4 1 xk) 0],[(1,.v)]⟩
def c76:ZX [.fz] Try.f76=J Co:=Z2
def Nq:Fn:=⟨9,[0,1,2,11,10,12,4,9,18],pQ [pR [(1,.m [.one<|.s 0]),pV 2 pF],pQ [pR [pV 3<|pI 0,pV 4<|.len<|.ae (.au<|.m 1 0) 9,pV 7<|.ae (.au<|.m 1 0) 9]]<|po [0,1,2,3,4,7] 5 (pl (.s 3)<|.s 4) (pQ [pR [pV 6<|.ae (.ba (.s 7) (.s 3) 1) 0],pC [pK 9 89 [.m 1 0,.s 6,pI 1,pI 2]] [pV 8<|.un .not<|.s 9]]<|pw (.s 8)<|px [pV 2 pF])<|pc 3,pC [.call 10 [] (.id 90) xw xk [.m 1 0,pI 2,.pt (J 91) [.pt U [.m 1 0]]],.lt 11 []<|.s 10,.call 12 [(11,xk)] (.id 90) xw xk [.m 1 0,pI 1,.pt (J 92) [.pt U [.m 1 0]]]] [pV 2<|.ite (.s 11) (.s 12) pF]] .ret,[(2,.v)]⟩
def c77:ZX [.fz] Try.f77=J Nq:=Z2
def Nr:Fn:=⟨3,[0,1,2],pQ [pR [(1,.m [.one<|.s 0]),pV 2 pF],pC [.call 3 [] (.id 90) xw xk [.m 1 0,pI 1,.pt (J 93) [.pt U [.m 1 0]]]] [pV 2<|.s 3]] .ret,[(2,.v)]⟩
def c78:ZX [.fz] Try.f78=J Nr:=Z2
def Ns:Fn:=⟨4,[0,1,2,3],pQ [pR [(1,.m [.one<|.s 0]),pV 2 pF],pR [(3,.no)],pC [.call 4 [] (.id 90) xw xk [.m 1 0,pI 3,.pt (J 94) [.pt U [.m 1 0]]],.lt 5 []<|.s 4,.call 6 [(5,xk)] (.id 90) xw xk [.m 1 0,pI 4,.pt (J 94) [.pt U [.m 1 0]]]] [pV 2<|.ite (.s 5) (.s 6) pF,(3,.no)]] .ret,[(2,.v)]⟩
def c79:ZX [.fz] Try.f79=J Ns:=Z2
def Nt:Fn:=⟨2,[0,2],pQ [pR [pV 1 pF],pC [pK 2 37 [.s 0]] [pV 1<|pL (pa (pa (.len<|.ae (.au<|.s 0) 5)<|.len<|.ae (.au<|.s 0) 6)<|.s 2)<|.ae (.au<|.s 0) 1]] .ret,[(1,.v)]⟩
def c80:ZX [.fz] Try.f80=J Nt:=Z2
def Nu:Fn:=⟨8,[0,1,2,4,5,6,7,22],pQ [pR [(2,pS 0 10),pV 3 pN,pV 4<|pI 0],pC [pK 8 36 [.mm 2 0 10]] [pV 5<|.ext (.s 8) 0,pV 6<|.ext (.s 8) 1],pQ [.ao ⟨[.lt 9 []<|.un .not<|.s 6,.lt 10 []<|.ite (.s 9) pT<|pl (.s 1)<|pI 1],[([(9,xw)],pl (.s 1)<|pI 1),([(10,xw)],pj (.s 1)<|pI 4)],[pV 7<|.ite (.s 10) pT<|pj (.s 1)<|pI 4]⟩]<|pw (.s 7)<|px [pV 4<|pI 1]]<|px [pV 3<|.ae (.ai (.bd (.au<|.s 5) 17 4) (pb (.s 1)<|pI 1) 4 1 xk) 0,pV 4<|pI 0],[(3,.v),(4,.v)]⟩
def c81:ZX [.fz,.fz] Try.f81=J Nu:=Z2
def Nx:Fn:=⟨3,[0,1,4],pQ [pR [pV 2 pN]]<|px [pV 2<|.ai (.ag [.ae (.au<|.s 0) 5,.ae (.au<|.s 0) 6,.ae (.au<|.s 0) 7,.ae (.au<|.s 0) 8]) (pb (.s 1)<|pI 1) 4 1 xw],[(2,.v)]⟩
def c85:ZX [.fz,.fz] Try.f85=J Nx:=Z2
def Ny:Fn:=⟨14,[0,1,4,5,6,15,7,8,9,25,10,11,36,52],pQ [pR [pV 2 pN],pR [pV 3 pN],pQ [pR [pV 4<|pI 0]]<|.block 0<|.loop [0,1,2,3,4]<|pQ [pu 5 (pl (.s 4)<|.len<|.s 1) .skip<|.exit 0]<|.block 1<|pQ [pR [(6,.m [pI 0,pI 0])],pQ [pC [pK 14 58 [.ae (.ba (.s 1) (.s 4) 1) 0]] [pV 7<|.ext (.s 14) 0,pV 8<|.ext (.s 14) 1]]<|pu 9 (pe (.s 8)<|pI 0) (pQ [pR [(10,pM (.sz (.ext (.lk (.i .u64) (.ae (.au<|.s 0) 22) (.s 7) (.agg [.int .i64 0,.int .i64 0]) xk) 0) 2) 2),pV 11<|.ext (.lk (.i .u64) (.ae (.au<|.s 0) 22) (.s 7) (.agg [.int .i64 0,.int .i64 0]) xk) 1],pi 12 (.un .not<|.s 11)<|px [pV 2<|.s 3,(3,.no)],pR [(6,pM (.mm 10 0 2) 2)]]<|pR [pV 3<|.app (.s 3) (.lit [.mm 6 0 2]) 2])<|pQ [pC [pK 15 64 [.ae (.ba (.s 1) (.s 4) 1) 0]] [(6,pM (.sz (.ext (.s 15) 0) 2) 2),pV 8<|.ext (.s 15) 1]]<|pi 13 (pn (.s 8)<|pI 0)<|px [pV 2<|.s 3,(3,.no)]]<|pR [pV 4<|pa (.s 4)<|pa (pI 1)<|.m 6 0]]<|px [pV 2<|.s 3,(3,.no)],[(2,.v)]⟩
def c87:ZX [.fz,.fz] Try.f87=J Ny:=Z2
def Lp:Fn:=⟨11,[0,1,2,19,18,20,7,17,8,9,42],pQ [.ao ⟨[],[([],.ai (.c<|.agg [(.bool xk),(.bool xk),(.bool xk),(.bool xk)]) (pb (.s 1)<|pI 1) 4 1 xw)],[(0,.m [.m 0 0,.m 0 1,.m 0 2,.m 0 3,.m 0 4,.m 0 5,.m 0 6,.m 0 7,.m 0 8,.m 0 9,.m 0 10,.m 0 11,.m 0 12,.m 0 13,.m 0 14,.m 0 15,.m 0 16,.ae (.di (.mm 0 17 4) (pb (.s 1)<|pI 1) 4 1<|.one<|.s 2) 0,.ae (.di (.mm 0 17 4) (pb (.s 1)<|pI 1) 4 1<|.one<|.s 2) 1,.ae (.di (.mm 0 17 4) (pb (.s 1)<|pI 1) 4 1<|.one<|.s 2) 2,.ae (.di (.mm 0 17 4) (pb (.s 1)<|pI 1) 4 1<|.one<|.s 2) 3,.m 0 21,.m 0 22])]⟩,pR [pV 3<|pI 0,pV 4<|.len<|.s 2,pV 7<|.s 2]]<|po [0,1,2,3,4,7] 5 (pl (.s 3)<|.s 4) (pQ [pR [(6,pM (.bd (.ba (.s 7) (.s 3) 5) 0 5) 5)],pC [pK 11 26 [.mm 0 10 7,.ag [.one<|.s 1,.m 6 0]]] [pV 8<|.ext (.s 11) 0,pV 9<|.ext (.s 11) 1],pR [(0,.m [.m 0 0,.m 0 1,.m 0 2,.m 0 3,.m 0 4,.m 0 5,.m 0 6,.m 0 7,.m 0 8,.m 0 9,.m 0 10,.m 0 11,.m 0 12,.m 0 13,.m 0 14,.m 0 15,.m 0 16,.m 0 17,.m 0 18,.m 0 19,.m 0 20,.dj (.i .u64) (.m 0 21) (.s 8)<|.s 1,.m 0 22])]]<|pi 10 (pe (.s 1)<|pI 1)<|pR [(0,.m [.m 0 0,.m 0 1,.m 0 2,.m 0 3,.m 0 4,.m 0 5,.m 0 6,.m 0 7,.m 0 8,.m 0 9,.m 0 10,.m 0 11,.m 0 12,.m 0 13,.m 0 14,.m 0 15,.m 0 16,.m 0 17,.m 0 18,.m 0 19,.m 0 20,.m 0 21,.dj (.i .u64) (.m 0 22) (.s 8)<|.mm 6 1 2])])<|pc 3,[]⟩
def c88:Wx xP fresh sig [(.mem [.fz,.fz,.fz,.fz,.fz,.fz,.fz,.fz,.fz,.fz,.fz,.fz,.fz,.fz,.fz,.fz,.fz,.fz,.fz,.fz,.fz,(.own 108),(.own 109)]),.fz,.fz] [(0,(.mem [.fz,.fz,.fz,.fz,.fz,.fz,.fz,.fz,.fz,.fz,.fz,.fz,.fz,.fz,.fz,.fz,.fz,.fz,.fz,.fz,.fz,(.own 108),(.own 109)]))] Try.f88=J Lp:=Z2
def Cp:Fn:=⟨11,[0,1,2,3,8,14,9,10,21,11,12],pQ [pR [pV 4 pF],pi 5 (pe (.s 1)<|pU 0)<|px [pV 4 pT],pC [pK 11 58 [.s 1]] [pV 6<|.ext (.s 11) 0,pV 7<|.ext (.s 11) 1],pi 8 (pn (.s 7)<|pI 0)<|px [pV 4 pF],pR [pV 9<|.ext (.lk (.i .u64) (.ae (.au<|.s 0) 21) (.s 6) (.int .i64 0) xk) 0,pV 10<|.ext (.lk (.i .u64) (.ae (.au<|.s 0) 21) (.s 6) (.int .i64 0) xk) 1],.ao ⟨[.lt 12 []<|.s 10,.lt 13 []<|.ite (.s 12) (pg (.s 9)<|.s 2) pF],[([(12,xk)],pg (.s 9)<|.s 2),([(13,xk)],pL (.s 9)<|.s 3)],[pV 4<|.ite (.s 13) (pL (.s 9)<|.s 3) pF]⟩] .ret,[(4,.v)]⟩
def c89:ZX [.fz,.fz,.fz,.fz] Try.f89=J Cp:=Z2
def Nz:Fn:=⟨17,[0,1,2,6,7,23,22,24,9,21,28,32,31,33,10,11,47],pQ [pR [pV 3 pF],pC [pK 17 85 [.s 0,.s 1]] [pV 4<|.s 17],pQ [pR [pV 5<|pI 0,pV 6<|.len<|.ae (.ai (.bd (.au<|.s 0) 17 4) (pb (.s 1)<|pI 1) 4 1 xk) 0,pV 9<|.ae (.ai (.bd (.au<|.s 0) 17 4) (pb (.s 1)<|pI 1) 4 1 xk) 0]]<|po [0,1,2,3,4,5,6,9] 7 (pl (.s 5)<|.s 6) (pQ [pR [(8,pM (.bd (.ba (.s 9) (.s 5) 5) 0 5) 5)],pi 10 (.m 8 3)<|.exit 1,pR [pV 11<|pI 0,pV 12<|.m 8 2]]<|.block 2<|.loop [0,1,2,3,4,5,6,7,8,9,10,11,12]<|pQ [pR [pV 13<|pl (.s 11)<|.s 12],.cond (.s 13) .skip<|.exit 2,.block 3<|pQ [pR [pV 14<|.s 11],pR [pV 15<|pa (pa (.m 8 0)<|pI 1)<|.s 14],pC [.call 18 [] (.e<|.s 2) xw xw [.s 15,.ae (.ba (.s 4) (.s 15) 1) 0]] [pV 16<|.un .not<|.s 18]]<|pw (.s 16)<|px [pV 3 pF]]<|pc 11)<|pc 5]<|px [pV 3 pT],[(3,.v)]⟩
def c90:ZX [.fz,.fz,.fz] Try.f90=J Nz:=Z2
def NA:Fn:=⟨4,[0,1,2,5],pQ [pR [pV 3 pF],pC [pK 4 89 [.ae (.au<|.s 2) 0,.s 1,pI 1,pI 2]] [pV 3<|.s 4]] .ret,[(3,.v)]⟩
def c91:ZX [.fz,.fz,.fz] Try.f91=J NA:=Z2
def Cq:Fn:=⟨4,[0,1,2,5],pQ [pR [pV 3 pF],pC [.lt 4 []<|pg (.s 0)<|.ae (.au<|.ae (.au<|.s 2) 0) 4,.call 5 [(4,xw)] (.id 89) xw xw [.ae (.au<|.s 2) 0,.s 1,pI 1,pI 2]] [pV 3<|.ite (.s 4) pT<|.s 5]] .ret,[(3,.v)]⟩
def c92:ZX [.fz,.fz,.fz] Try.f92=J Cq:=Z2
def Cr:Fn:=⟨4,[0,1,2,5],pQ [pR [pV 3 pF],pC [.lt 4 []<|pl (.s 0)<|.ae (.au<|.ae (.au<|.s 2) 0) 4,.call 5 [(4,xw)] (.id 89) xw xw [.ae (.au<|.s 2) 0,.s 1,pI 1,pI 4]] [pV 3<|.ite (.s 4) pT<|.s 5]] .ret,[(3,.v)]⟩
def c93:ZX [.fz,.fz,.fz] Try.f93=J Cr:=Z2
def NB:Fn:=⟨4,[0,1,2,5],pQ [pR [pV 3 pF],pC [pK 4 89 [.ae (.au<|.s 2) 0,.s 1,pI 3,pI 4]] [pV 3<|.s 4]] .ret,[(3,.v)]⟩
def c94:ZX [.fz,.fz,.fz] Try.f94=J NB:=Z2
end Vm
end
