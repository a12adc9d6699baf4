import Derived.ProofKit
import Derived.OpenShut
import Derived.WalkSpells
import Derived.WalkLawsBesides
import Derived.StillTailTactics
import Derived.Deep.RegionHeld3
import Derived.Deep.AppendLies
import Derived.Deep.Onto
import Derived.Deep.OwnRows
import Derived.Lib.Hide
import Derived.Lib.AppendZerosOnto
import Derived.Laws.CopyOwn
import Derived.Test.YtffknkhabklijaaSScanWhole4
set_option linter.unusedSimpArgs false
set_option linter.unusedVariables false
set_option linter.defProp false
open Option renaming some→J,none→U
open Bool renaming true→xk,false→xw
open List renaming length→I
open Array renaming size→xz
open Go.World renaming heap→xj
open List renaming length→xq
open Array renaming size→xz
open Go.World renaming heap→xj
set_option maxHeartbeats 8000000
set_option maxRecDepth 100000
theorem ZeY{p:Prop}(h:p:=by simp[Xe]):p:=h
theorem ZeA{p:Prop}(h:p:=by simp[Y8];omega):p:=h
theorem ZeC{p:Prop}(h:p:=by unfold ZJ at d;omega):p:=h
theorem Zeo{p:Prop}(h:p:=by decide):p:=h
theorem Zen{p:Prop}(h:p:=by unfold maxLen;omega):p:=h
theorem Zeh{p:Prop}(h:p:=by rw[cell_of_row _ _ _ _ _ _ d];rfl):p:=h
theorem ZeW{p:Prop}(h:p:=by simp[Xe];omega):p:=h
def Zgl:=@List.append_nil
def Zgp:=@Int.tmod_eq_emod_of_nonneg
def Ziy:=@Int.tdiv_eq_ediv_of_nonneg
def Zix:=@Int.fdiv_eq_ediv_of_nonneg
def ZfZ:=@List.take_add_one
def Zj2:=@Int.emod_nonneg
def ZiB:=@Int.emod_lt_of_pos
def Zj7:=@List.set_append_right
def Zg7:=@List.drop_eq_getElem_cons
def ZfM:=@List.append_assoc
def ZhN:=@List.map_set
def Zhe:=@List.take_append_drop
def Ziu:=@List.sum_append
def ZhR:=@Bool.true_eq_false
def ZgY:=@List.length_eq_zero_iff
def Zft:=@Go.RowKit.Below.heap_setCell
def Zfa:=@Go.Lib.hid
def ZfV:=@Go.bodyPost_ret
def Zjk:=@Nat.mul_one
def ZiK:=@List.take_left
def ZhH:=@Array.ext
def Zh5:=@List.length_set
def Zgz:=@Go.World.cell?_alloc_lt
def ZiP:=@not_true_eq_false
def Zh4:=@List.length_pos_iff
def ZgM:=@List.mem_map_of_mem
def Zgc:=@List.length_nil
def ZhT:=@List.findIdx?_cons
def ZfT:=@List.findIdx?_eq_some_iff_getElem
def Ziv:=@List.take_succ_cons
def Zhi:=@List.getElem?_eq_none_iff
section
namespace Vm
open Go
open Go.Proofs
def sig(f:Zq):Option<|List OT:=
 if f=102 then J [.fz,.mem [.own 97],.mem [.own 3]]else
 if f=50 then J [.fz,.mem [.fz,.fz]]else
 if f=80 then J [.fz,.own 97]else
 if f=47 then J [.fz,.own 97]else
 if f=121 then J [.mem [.fz,.fz,.fz,.fz,.fz,.fz,.fz,.fz,.fz,.fz,.fz,.fz,.fz,.fz,.fz,.fz,.fz,.fz,.fz,.fz,.fz,.own 84,.own 115],.fz,.fz]else
 if f=105 then J [.mem [.fz,.fz,.fz,.fz,.fz,.fz,.fz,.fz,.fz,.fz,.fz,.fz,.fz,.fz,.fz,.fz,.fz,.fz,.fz,.fz,.fz,.own 84,.own 115]]else
 if f=1000101 then J [.mem [.fz,.fz,.fz,.fz,.fz,.fz,.fz,.fz,.fz,.fz,.fz,.fz,.fz,.fz,.fz,.fz,.fz,.fz,.fz,.fz,.fz,.own 84,.own 115]]else
 U
@[simp]def pI(n:Int):E:=.c<|.int .i64 n
@[simp]def pU(n:Int):E:=.c<|.int .u64 n
@[simp]def pF:E:=.c<|.bool xw
@[simp]def pT:E:=.c<|.bool xk
@[simp]def pN:E:=.c<|.sl []
@[simp]def pG(e:E):Nat->Nat->List E
 |_,0=>[]
 |i,n+1=>.ae e i::pG e (i+1) n
@[simp]def pS(a n:Nat):OV:=.m<|pG (.sz (.s a) n) 0 n
@[simp]def pM(e:E)(n:Nat):OV:=.m<|pG e 0 n
@[simp]def pY:E:=.ag [pU 0,pI 0,pI 0,pF,pI 0,pN,pN,pN,pN,pN]
@[simp]def pZ:OV:=.m [pU 0,pI 0,pI 0,pF,pI 0,pN,pN,pN,pN,pN]
@[simp]def pR(l:List<|Nat×OV):Stm:=.am ⟨[],[],l⟩
@[simp]def pC(e:List EF)(l:List<|Nat×OV):Stm:=.am ⟨e,[],l⟩
@[simp]def pV(t:Nat)(e:E):Nat×OV:=(t,.v e)
@[simp]def pK(t f:Nat)(l:List E):EF:=.call t [] (.id f) xw xw l
@[simp]def pQ:List Stm->Stm->Stm
 | [],z=>z
 |a::l,z=>.seq a<|pQ l z
def fresh(f:Zq):Bool:=f==81||f==117||f==119
def follows:Sol.prog.follows .mixedOrders=xk:=Z2
@[simp]def pl(a b:E):E:=.bo .lss a b
@[simp]def pe(a b:E):E:=.bo .eql a b
@[simp]def pa(a b:E):E:=.bo .add a b
@[simp]def pn(a b:E):E:=.bo .neq a b
@[simp]def pb(a b:E):E:=.bo .sub a b
@[simp]def pg(a b:E):E:=.bo .geq a b
@[simp]def pL(a b:E):E:=.bo .leq a b
@[simp]def pj(a b:E):E:=.bo .gtr a b
@[simp]def pm(a b:E):E:=.bo .mul a b
@[simp]def pw(c:E)(a:Stm):Stm:=.cond c a .skip
@[simp]def px(l:List<|Nat×OV):Stm:=.seq (pR l) .ret
@[simp]def pi(t:Nat)(e:E)(a:Stm):Stm:=.seq (pR [pV t e])<|.cond (.s t) a .skip
@[simp]def pu(t:Nat)(e:E)(a b:Stm):Stm:=.seq (pR [pV t e])<|.cond (.s t) a b
@[simp]def po(k:Za)(t:Nat)(e:E)(a b:Stm):Stm:=.block 0<|.loop k<|.seq (pR [pV t e])<|.seq (.cond (.s t) .skip<|.exit 0)<|.seq (.block 1 a) b
@[simp]def pc(n:Nat):Stm:=pR [pV n<|.bo .add (.s n)<|pI 1]
section
def A1(x:Option V)(A B:Prop):Prop:=
 match x with
 |some (.bool xk)=>A
 |some (.bool xw)=>B
 |_=>False
@[simp]theorem ZaU b A B:A1 (J<|.bool b) A B↔if b=xk then A else B:=by cases b<;>simp[A1]
def XU{α:Type}(x:Option α)(K:α->Prop):Prop:=
 match x with
 |some x=>K x
 |none=>False
@[simp]theorem ZcA{α}x(K:α->Prop):XU (J x) K↔K x:=ZgX
@[simp]theorem Zcz{α}(K:α->Prop):XU U K↔False:=ZgX
@[simp]theorem Zcy{α β}f(x:Option α)(K:β->Prop):XU (x.map f) K↔XU x (λy=>K<|f y):=by cases x<;>rfl
@[simp]theorem Zcw{α β}f(x:Option α)(K:β->Prop):XU (x.bind f) K↔XU x (λy=>XU (f y) K):=by cases x<;>rfl
@[simp]theorem Zcx{α}p [Decidable p]x y(K:α->Prop):XU (if p then x else y) K↔if p then XU x K else XU y K:=by split<;>rfl
def SO P [Lg P](f:Zq)(fr fl:Bool)(xs:Zr)(K:V->Prop):Prop:=∃r,VC P f fr xs r/\(fl=xk->WC r=J r)/\K r
def Zy{P} [Lg P]{f fr fl xs K r}(h:VC P f fr xs r)(d:fl=xk->WC r=J r)(a:K r):SO P f fr fl xs K:=⟨r,h,d,a⟩
def zA P [Lg P](f:Zq)(ks:List OT)(xs:Zr)(K:V->Prop):Prop:=∃R,Vl P f ks xs R/\K R
def VW{P} [Lg P]{f ks xs K R}(h:Vl P f ks xs R)(a:K R):zA P f ks xs K:=⟨R,h,a⟩
def kS P [Lg P](b:Stm)(N:St->Prop)(X:Nat->St->Prop)(R:St->Prop)(s:St):Prop:=Yt P b s N X R
def xB(id:Nat)(N:St->Prop)(X:Nat->St->Prop)(i:Nat)(s:St):Prop:=if i=id then N s else X i s
def kR(a:List<|ZE×E)(outs:List<|Nat×OV)(K:St->Prop)(t:St):Prop:=SD t a/\VU outs t t K
def kO(l:List<|Nat×OV)(t u:St)(i:Nat)(K:St->Prop)(x:SV):Prop:=VU l t (YB u i x) K
def kL P [Lg P](l:List EF)(s:St)(i:Nat)(K:St->Prop)(x:V):Prop:=YM P l (YB s i<|.v x) K
def kA P [Lg P](f:Zq)(fr fl:Bool)(K:V->Prop)(xs:Zr):Prop:=SO P f fr fl xs K
def Q6 P [Lg P](fr fl:Bool)(K:V->Prop)(xs:Zr)(v:V):Prop:=XU (QQ v) λn=>SO P n.1 fr fl (xs++n.2) K
def B3 P [Lg P](x:Option V)(fr fl:Bool)(K:V->Prop)(xs:Zr):Prop:=XU x<|Q6 P fr fl K xs
def B4 P [Lg P](f:Option FuncId)(ks:List OT)(K:V->Prop)(xs:Zr):Prop:=XU f λn=>zA P n ks xs K
def kW P [Lg P](l:List EF)(s:St)(i:Nat)(K:St->Prop)(a:Zr):Prop:=if a=[]then YM P l s K else YM P l (YB s i<|.v<|.an<|.bool xw::a) K
def kT(_:V):Prop:=True
section
variable {P:Z5}[Lg P]{N R:St->Prop}{X:Nat->St->Prop}{K:St->Prop}{s t u:St}
@[simp]theorem Zcd b:kS P b N X R s↔Yt P b s N X R:=ZgX
@[simp]theorem Ze5 id:xB id N X id s↔N s:=by simp[xB]
def JU id i:xB id N X i s↔if i=id then N s else X i s:=ZgX
@[simp]theorem Ze4{id i}(h:i≠id):xB id N X i s↔X i s:=by simp[xB,h]
@[simp]theorem Zcc a outs:kR a outs K t↔SD t a/\VU outs t t K:=ZgX
@[simp]theorem Zcb l i x:kO l t u i K x↔VU l t (YB u i x) K:=ZgX
@[simp]theorem Zca l i x:kL P l s i K x↔YM P l (YB s i<|.v x) K:=ZgX
@[simp]theorem Zc9 f fr fl K xs:kA P f fr fl K xs↔SO P f fr fl xs K:=ZgX
@[simp]theorem Zc7 v fr fl K xs:B3 P (J v) fr fl K xs↔Q6 P fr fl K xs v:=ZgX
@[simp]theorem Zc6(f:Zq)(fr fl:Bool)(K:V->Prop)(xs:Zr):Q6 P fr fl K xs (.fn f)↔SO P f fr fl xs K:=by simp[Q6,QQ]
@[simp]theorem Zc5 f cs fr fl K xs:Q6 P fr fl K xs (.cq f cs)↔SO P f fr fl (xs++cs) K:=by simp[Q6,QQ]
@[simp]theorem Zc8 f ks K xs:B4 P (J f) ks K xs↔zA P f ks xs K:=ZgX
@[simp]theorem Zcg(l:List EF)(i:Nat):kW P l s i K []↔YM P l s K:=by simp[kW]
@[simp]theorem Zcf l i x a:kW P l s i K (x::a)↔YM P l (YB s i<|.v<|.an<|.bool xw::x::a) K:=by simp[kW]
@[simp]theorem Zce x:kT x↔True:=ZgX
@[simp]theorem Ze0 r:Yt P (.am r) s N X R↔js P r s N:=ZgX
@[simp]theorem Ze3:Yt P .skip s N X R↔N s:=ZgX
@[simp]theorem Ze2 a b:Yt P (.seq a b) s N X R↔Yt P a s (kS P b N X R) X R:=ZgX
@[simp]theorem ZdY c a b:Yt P (.cond c a b) s N X R↔A1 (eval s c) (Yt P a s N X R) (Yt P b s N X R):=by
 rfl
@[simp]theorem ZdX id a:Yt P (.block id a) s N X R↔Yt P a s N (xB id N X) R:=ZgX
@[simp]theorem ZdZ id:Yt P (.exit id) s N X R↔X id s:=ZgX
@[simp]theorem Ze1:Yt P .ret s N X R↔R s:=ZgX
def UG{keep a}(I:St->Prop)(μ:St->Nat)(f:I<|YV keep s)(g:∀s,I s->Yt P a s (λd=>I (YV keep d)/\μ (YV keep d)<μ s) X R):Yt P (.loop keep a) s N X R:=⟨I,μ,f,g⟩
@[simp]theorem ZdW d a outs:js P ⟨d,a,outs⟩ s K↔YM P d s (kR a outs K):=ZgX
@[simp]theorem ZdV:VU [] t u K↔K u:=ZgX
@[simp]theorem ZdU i o l:VU ((i,o)::l) t u K↔XU (WV t o) (kO l t u i K):=by
 simp[VU,kO];cases WV t o<;>rfl
@[simp]theorem ZdO:SD t []↔True:=ZgX
@[simp]theorem ZdN C e l:SD t ((C,e)::l)↔(VJ t C=xk->XU (eval t e) kT)/\SD t l:=by
 simp[SD,kT];cases eval t e<;>simp
@[simp]theorem ZdT:YM P [] s K↔K s:=ZgX
@[simp]theorem ZdS i C e l:YM P (.lt i C e::l) s K↔if VJ s C=xk then XU (eval s e) (kL P l s i K)else YM P l s K:=by
 simp[YM,kL];cases eval s e<;>rfl
@[simp]theorem ZdP i C f fr fl es l:YM P (.call i C (.id f) fr fl es::l) s K↔if VJ s C=xk then XU (YA s es) (kA P f fr fl<|kL P l s i K)else YM P l s K:=by
 simp[YM,XU,SO,UT];cases YA s es<;>simp
@[simp]theorem ZdQ i C x fr fl es l:YM P (.call i C (.e x) fr fl es::l) s K↔if VJ s C=xk then XU (YA s es) (B3 P (eval s x) fr fl<|kL P l s i K)else YM P l s K:=by
 simp[YM,XU,B3,Q6,SO,UT];cases YA s es with
 |none=>simp
 |some d=>
  cases eval s x with
  |none=>simp
  |some v=>cases a:QQ v<;>simp[a]
@[simp]theorem ZdR i C f ks es l:YM P (.co i C f ks es::l) s K↔
  if VJ s C=xk then XU (YA s es)<|B4 P (Vs s f) ks<|kL P l s i K
  else XU (WE s ks es)<|kW P l s i K:=by
 simp[YM,XU,zA,B4,kW];split;cases YA s es<;>cases Vs s f<;>simp
 cases WE s ks es with
 |none=>simp
 |some a=>cases a<;>simp
@[simp]theorem Zd1 e:WV t (.v e)=(eval t e).map .v:=rfl
@[simp]theorem ZcZ l:WV t (.m l)=(YA t l).map .m:=rfl
@[simp]theorem Zd0:WV t .no=J .no:=rfl
@[simp]theorem Zc0:VJ s []=xk:=rfl
def Z2r i b(C:ZE):VJ s ((i,b)::C)=((match get s i with|.v (.bool c)=>c==b|_=>xw)&&VJ s C):=rfl
end
@[simp]theorem ZbY x(s:St):get (x::s) 0=x:=rfl
@[simp]theorem ZbX x(s:St)n:get (x::s) (n+1)=get s n:=by simp[get]
@[simp]theorem Zd6 x y(s:St):YB (y::s) 0 x=x::s:=rfl
@[simp]theorem Zd5 x y(s:St)n:YB (y::s) (n+1) x=y::YB s n x:=rfl
@[simp]theorem Zd4 x:YB [] 0 x=[x]:=rfl
@[simp]theorem Zd3 x n:YB [] (n+1) x=.no::YB [] n x:=rfl
@[simp]theorem ZcX s:YV [] s=[]:=rfl
@[simp]theorem ZcW i l s:YV (i::l) s=YB (YV l s) i (get s i):=rfl
attribute [simp] Lo eval YA Z2r Wv TG Ub RU RT Xx Jv SK Tk Vs WE
section
variable {k:IntKind}{a b:Int}{x y:V}{l r:Zr}
@[simp]theorem Z9Y:Xc .add (.int k a) (.int k b)=J (.int k<|k.wrap<|a+b):=by simp[Xc]
@[simp]theorem Za8:Xc .sub (.int k a) (.int k b)=J (.int k<|k.wrap<|a-b):=by simp[Xc]
@[simp]theorem Za4:Xc .mul (.int k a) (.int k b)=J (.int k<|k.wrap<|a*b):=by simp[Xc]
@[simp]theorem Za6:Xc .quo (.int k a) (.int k b)=if b≠0 then J (.int k<|k.wrap<|a.tdiv b)else U:=by simp[Xc]
@[simp]theorem Za7:Xc .rem (.int k a) (.int k b)=if b≠0 then J (.int k<|a.tmod b)else U:=by simp[Xc]
@[simp]theorem Z9Z:Xc .eql (.int k a) (.int k b)=J (.bool<|decide (a=b)):=by simp[Xc];rfl
@[simp]theorem Za5:Xc .neq (.int k a) (.int k b)=J (.bool<|!decide (a=b)):=by simp[Xc];rfl
@[simp]theorem Za3:Xc .lss (.int k a) (.int k b)=J (.bool<|decide (a<b)):=by simp[Xc]
@[simp]theorem Za2:Xc .leq (.int k a) (.int k b)=J (.bool<|decide (a<=b)):=by simp[Xc]
@[simp]theorem Za1:Xc .gtr (.int k a) (.int k b)=J (.bool<|decide (b<a)):=by simp[Xc]
@[simp]theorem Za0:Xc .geq (.int k a) (.int k b)=J (.bool<|decide (b<=a)):=by simp[Xc]
@[simp]theorem ZaW p q n:SW n (.bool p) (.bool q)=J (.bool<|n ^^ (p==q)):=rfl
@[simp]theorem ZdG:Sz .neg (.int k a)=J (.int k<|k.wrap<|0-a):=rfl
@[simp]theorem ZdH p:Sz .not (.bool p)=J (.bool !p):=rfl
@[simp]theorem ZaV k':QS k' (.int k a)=J (.int k'<|k'.wrap a):=rfl
@[simp]theorem Zch:Qa (.sl l)=J (.int .i64<|I l):=rfl
@[simp]theorem Zcn id vs:R7 (.mp id l vs)=J (.int .i64<|I l):=rfl
@[simp]theorem Zck id vs:KT (.mp id l vs)=J (.mp id [] []):=rfl
@[simp]theorem Zcl:Qe (.int k a) (.int k b)=J (.int k<|if b<a then b else a):=rfl
@[simp]theorem Zcj:Qd (.int k a) (.int k b)=J (.int k<|if b>a then b else a):=rfl
@[simp]theorem ZaX i:TT (.an l) i=l[i]? :=rfl
@[simp]theorem Zc2(i n:Nat):X7 (.sl l) (.int k i) n=(l[i]?).bind λz=>if I z.cells=n then J z else U:=by simp[X7]
@[simp]theorem ZaH:(V.int k a).cells=[V.int k a]:=rfl
@[simp]theorem ZaF p:(V.bool p).cells=[V.bool p]:=rfl
@[simp]theorem ZaK s:(V.str s).cells=[V.str s]:=rfl
@[simp]theorem ZaJ:(V.sl l).cells=[V.sl l]:=rfl
@[simp]theorem ZaD:(V.agg l).cells=l:=rfl
@[simp]theorem ZaI id:(V.mp id l r).cells=[V.mp id l r]:=rfl
@[simp]theorem ZaG f:(V.fn f).cells=[V.fn f]:=rfl
@[simp]theorem ZcS:(V.int k a).one=xk:=rfl
@[simp]theorem ZcO p:(V.bool p).one=xk:=rfl
@[simp]theorem ZcV:(V.sl l).one=xk:=rfl
@[simp]theorem ZcT id:(V.mp id l r).one=xk:=rfl
@[simp]theorem ZcR f:(V.fn f).one=xk:=rfl
@[simp]theorem ZcN:(V.agg l).one=xw:=rfl
@[simp]theorem ZcH:YZ (.int k a)=J (.int k a):=rfl
@[simp]theorem ZcD p:YZ (.bool p)=J (.bool p):=rfl
@[simp]theorem ZcL s:YZ (.str s)=J (.str s):=rfl
@[simp]theorem ZcK:YZ (.sl l)=J (.sl l):=rfl
@[simp]theorem ZcI id:YZ (.mp id l r)=J (.mp id l r):=rfl
@[simp]theorem ZcG f:YZ (.fn f)=J (.fn f):=rfl
@[simp]theorem Zb0 o:Y0 (.agg l) o=(l[o]?).bind YZ:=rfl
@[simp]theorem Zbm:Y0 (.int k a) 0=J (.int k a):=rfl
@[simp]theorem Zb1 p:Y0 (.bool p) 0=J (.bool p):=rfl
@[simp]theorem ZbM:Y0 (.sl l) 0=J (.sl l):=rfl
@[simp]theorem ZbN s:Y0 (.str s) 0=J (.str s):=rfl
@[simp]theorem ZbO o n:Um (.agg l) o n=if o+n<=(I l) then J (.agg<|(l.drop o).take n)else U:=rfl
@[simp]theorem Zdu n:Vz (.agg l) n=if I l=n then J (.agg l)else U:=rfl
@[simp]theorem Zc3:Q5 (.agg l)=J (.agg l):=rfl
@[simp]theorem Zdt:Te (.ptr l)=J (.agg l):=rfl
@[simp]theorem Zc4 p A B:Ja (.bool p) A B=if p=xk then A else B:=by cases p<;>rfl
@[simp]theorem Z9K:TN l=.agg (flat l):=rfl
@[simp]theorem ZaY:flat (x::l)=x.cells++flat l:=rfl
@[simp]theorem ZaZ:flat []=[]:=rfl
@[simp]theorem Z9X n:RI n (.sl l) (.sl r)=if I l+I r<=Y8/\Xq n r=xk then J (.sl<|l++r)else U:=rfl
@[simp]theorem Zdm n:Xq n []=xk:=rfl
@[simp]theorem Zdj n:Xq n (x::l)=(I x.cells==n&&Xq n l):=rfl
def JL{α:Type}{f n}{l:List α}(h:∀x,(f x).cells.length=n):Xq n (l.map f)=xk:=by
 simp[Xq,h]
abbrev Z8:=List Int
@[simp]theorem jg(l:Z8):Xq 1 (l.map<|V.int k)=xk:=JL λ_=>rfl
@[simp]theorem Zcm(n:Nat):KW x (.int k n)=if n<=Y8 then J (.sl<|List.replicate n x)else U:=by
 simp only[KW];have:(n<=Y8)↔n<=Y8:=Z0;simp
@[simp]theorem Z8d(i j n:Nat):Rq n (.sl l) (.int k i) (.int k j)=if i<=j/\j<=I l/\Xq n l=xk then J (.sl<|(l.take j).drop i)else U:=by
 simp[Rq]
@[simp]theorem Zdr(i n:Nat):Qs n (.sl l) (.int k (i:Int))=if i<=I l/\Xq n l=xk then J (.sl<|l.drop i)else U:=by
 simp[Qs]
@[simp]theorem ZdI(i o:Nat):RB (.sl l) (.int k i) o y=(l[i]?).bind λz=>if o+I y.cells<=I z.cells/\y.cells≠[]then J (.sl<|l.set i<|z.put o y.cells)else U:=by
 simp[RB]
end
abbrev vi(n:Int):V:=.int .i64 n
abbrev vu(n:Int):V:=.int .u64 n
@[simp]theorem Zcp(n:Nat):((n:Int)<0)↔False:=by simp
def Zz n(a: -9223372036854775808<=n)(h2:n<=9223372036854775807):IntKind.i64.wrap n=n:=by
 rw[IntKind.wrap_i64];omega
end
end Vm
end
section
namespace Vm
open Go Go.ChangeShapes Go.WideShapes Go.ChangeAt Go.RowKit
section
def Kx(P:Z5)(n:Nat):List Field->Nat->Bool
 | [],o=>o==n
 |f::l,o=>f.offset==o&&Kx P n l (o+P.cellsOf f.type)
def Sf(P:Z5):Nat->TypeId->Bool
 |0,_=>xw
 |n+1,t=>match P.underlying t with
  |some .bool|some (.int _)|some .string=>xk
  |some (.slice e)=>Sf P n e&&decide (0<P.cellsOf e)
  |some (.struct a)=>Kx P (P.cellsOf t) a.toList 0&&a.toList.all λf=>Sf P n f.type
  |some (.array m e)=>Sf P n e&&m*P.cellsOf e==P.cellsOf t
  |_=>xw
def Xi(P:Z5):Nat->TypeId->V->Prop
 |0,_,_=>False
 |n+1,t,x=>match P.underlying t with
  |some .bool=>∃b,x=.bool b
  |some (.int k)=>∃m,x=.int k m/\(Lit.int k m).wf=xk
  |some .string=>∃s,x=.str s/\s.size<=maxLen
  |some (.slice e)=>∃l,x=.sl l/\I l<=maxLen/\∀y∈l,Xi P n e y
  |some (.struct d)=>∃a,x=.agg (flat a)/\I a=I d.toList/\∀(i:Nat) (f:Field) (y:V),d.toList[i]?=J f->a[i]?=J y->Xi P n f.type y
  |some (.array m e)=>∃a,x=.agg (flat a)/\I a=m/\∀y∈a,Xi P n e y
  |_=>False
def RdC(w:Z3)(G:Z4)(cs:Zr)(vs:Zm):Prop:=
 I vs=I cs/\∀(i:Nat) (c:V),cs[i]?=J c->c.one=xk/\∃u,vs[i]?=J u/\Rd w G c u
def RdC.nil{w G}:RdC w G [] []:=⟨rfl,λi c h=>ZeK⟩
def RdC.append{w G cs d vs f}(h:RdC w G cs vs)(h':RdC w G d f):RdC w G (cs++d)<|vs++f:=by
 refine⟨by simp[h.1,h'.1],λi c g=> ?_⟩;rw[List.getElem?_append]at g⊢;rw[h.1];split at g;rename_i a;rw[if_pos a];exact h.2 i c g;rename_i a;rw[if_neg a];exact h'.2 _ c g
theorem RdC.one{w G c v}(a:c.one=xk)(h:Rd w G c v):RdC w G [c] [v]:=
 ⟨rfl,λi x d=>by
  grind⟩
def zD{α:Type}{Q:Nat->α->Prop}:∀n,(∀i,i<n->∃y,Q i y)->∃l:List α,I l=n/\∀i y,l[i]?=J y->Q i y
 |0,_=>Z1
 |n+1,h=>by
  let⟨l,d,f⟩:=zD n λi o=>h i Z0;let⟨y,j⟩:=h n Z0;refine⟨l++[y],by simp[d],λi z a=> ?_⟩;rw[List.getElem?_append]at a;split at a;exact f i z a;rename_i g;rw[List.getElem?_singleton]at a;split at a;rename_i k;have:i=n:=Z0;subst this;simp[Zf2]at a;subst a;exact j;cases a
def jW{w:Z3}{b a n cs}(h:w.cells? b a n=J cs):I cs=n/\∀i,i<n->w.cell? (a.add i)=cs[i]? :=by
 unfold World.cells? at h;split at h;have d:=mapM_some_length h;rw[List.length_range]at d;refine⟨d,λi f=>mapM_some_get h i i ?_⟩;simp_all;cases h
def Z1k{w:Z3}{a v}(h:w.cell? a=J v):a.block<xz (xj w):=by
 grind [World.cell?]
def CL{w G}:∀ {ys} {a:List (List Value)},I a=I ys->(∀(i:Nat) y vs,ys[i]?=J y->a[i]?=J vs->RdC w G y.cells vs)->RdC w G (flat ys) a.flatten
 | [],[],_,_=>by simpa using RdC.nil
 | [],_::_,h,_=>ZeK
 |_::_,[],h,_=>ZeK
 |y::ys,vs::a,h,d=>by
  exact(d 0 y vs rfl rfl).append (CL Ze7 λi z f j g=>d (i+1) z f Ze7 Ze7)
def G2{P n}{cs:Zm}:∀ {l} {o:Nat},Kx P n l o=xk->o<=n/\(I cs=n->cs.drop o=(l.map λf=>(cs.drop f.offset).take<|P.cellsOf f.type).flatten)
 | [],o,h=>by
   simp_all[Kx,ZfS]
 |f::l,o,h=>by
  simp[Kx,ZfS]at h;let⟨d,a⟩:=h;let⟨g,j⟩:=G2 (cs:=cs) a;refine⟨Z0,λk=> ?_⟩;grind [List.drop_drop,List.take_append_drop]
def Z09{cs:Zm}{k}:∀ {m},I cs=m*k->cs=((List.range m).map λi=>(cs.drop<|i*k).take k).flatten:=by
 have:∀m (cs:Zm),cs.take (m*k)=((List.range m).map λi=>(cs.drop<|i*k).take k).flatten:=by
  intro m;induction m with
  |zero=>simp
  |succ m d=>
   simp_all[Zhp,Zgg,List.flatten_append,Zgo,List.take_add]
 intro m h;have a:=this m cs;grind
section
abbrev Zs:=Nat->Bool
variable {H:Type}{enc:TypeId×Value->H}{P:Z5}{w:Z3}{spare:Zs}{held:Bool}
def qF:∀ {n} {t:Zi} {C:Nat} {cs:Zm} {d:DataW H×List MemPlace},Sf P n t=xk->DataW.trod enc P w 0 spare held C t cs=J d->
  ∃x,Xi P n t x/\RdC w (λb=>b<xz (xj w)) x.cells cs
 |0,t,C,cs,d,L,h=>by cases L
 |n+1,t,C,cs,d,L,h=>by
  unfold Sf at L;unfold Xi;split at L;rename_i N;obtain⟨b,rfl,_⟩:=DataW.trod_bool N h;exact⟨.bool b,⟨b,rfl⟩,.one rfl<|.bool b⟩;rename_i k N;obtain⟨m,rfl,_,hw⟩:=DataW.trod_int N h;exact⟨.int k m,Ze8,.one rfl<|.int k m⟩;rename_i N;obtain⟨s,rfl,_,hw⟩:=DataW.trod_string N h;exact⟨.str s,Ze8,.one rfl<|.str s⟩;rename_i e N;simp only[Zf6,Zfv]at L;let⟨M,A⟩:=L;obtain⟨rfl,_⟩|⟨a,len,cap,a8,b3,m,_,rfl,_,_,b5,a4,b4,D,_⟩:=DataW.trod_slice N h;exact⟨.sl [],Z1,.one rfl<|.nil _ _ Z0⟩;have F:∀i,i<len->∃y,Xi P n e y/\∃vs,w.cells? 0 (a.add<|i*P.cellsOf e) (P.cellsOf e)=J vs/\RdC w (λb=>b<xz (xj w)) y.cells vs:=by
   intro i g;have p:=D i g;rw[Zf4 Z0]at p;simp only[Zf1]at p;let⟨vs,S,B⟩:=p;let⟨y,r,T⟩:=qF M B;exact⟨y,r,vs,S,T⟩
  let⟨l,b1,a1⟩:=zD len F;have b6:∀y∈l,Xi P n e y:=λy r=>by
   let⟨i,g⟩:=Zfo r;exact(a1 i y g).1
  refine⟨.sl l,Ze7,.one rfl ?_⟩;cases a5:len with
  |zero=>
   have:l=[]:=Ze8;subst this;exact .nil _ _ a4
  |succ b2=>
   let⟨b,o,a0⟩:=a;have a2:a0=U:=by
    let⟨y,_,vs,O,_⟩:=F 0 Z0;let⟨p,S⟩:=jW O;have B:=S 0 A;rw[Zf4 Z0]at B;have h4:=World.cell?_spot B;obtain _|s:=a0;rfl;simp[Addr.add]at h4
   subst a2;have z:∀(i j:Nat) (y:V),l[i]?=J y->j<P.cellsOf e->∃(u:Zf),w.cell? ⟨b,o+(i*P.cellsOf e+j),U⟩=J u/\∃c,y.cells[j]?=J c/\c.one=xk/\Rd w (λb=>b<xz (xj w)) c u:=by
    intro i j y r Z;let⟨_,vs,O,T⟩:=a1 i y r;let⟨p,S⟩:=jW O;have B:=S j Z;rw[ZgG,ZgG,Zf4 Z0]at B;have b7:j<I y.cells:=by rw[<-T.1];omega
    let⟨q1,u,q2,q3⟩:=T.2 j y.cells[j] Z1;rw[Zf4 Z0,Zf2]at q2;subst q2;exact⟨_,by rw[<-Zgi];exact B,_,Z1,q1,q3⟩
   have K:∀y∈l,y.aw<|P.cellsOf e:=λy r=>by
    let⟨i,g⟩:=Zfo r;let⟨_,vs,O,T⟩:=a1 i y g;refine⟨by rw[<-T.1,(jW O).1],λc hc=> ?_⟩;let⟨j,Z⟩:=Zfo hc;exact(T.2 j c Z).1
   have Y:∀i,i<I l*P.cellsOf e->∃y,l[i / P.cellsOf e]?=J y/\i%P.cellsOf e<P.cellsOf e/\i=i / P.cellsOf e*P.cellsOf e+i%P.cellsOf e:=by
    intro i g;have p:=(Zj9 A).2 g;exact⟨_,Zf4 p,Zin _ A,by rw[Nat.mul_comm];exact(Nat.div_add_mod _ _).symm⟩
   have hb:b<xz (xj w):=by
    obtain⟨y,r⟩:∃y,l[0]?=J y:=⟨_,Zf4 Z0⟩;let⟨u,hu,_⟩:=z 0 0 y r A;exact Z1k hu
   have a6:=Rd.sl (w:=w) (G:=λb=>b<xz (xj w)) l b o cap (P.cellsOf e) (λi=>(w.cell? ⟨b,o+i,U⟩).getD undef) Z0 a4 hb K (λi g=> ?_) (λi c g=> ?_);rw[b1,a5]at a6;exact a6;let⟨y,p,S,B⟩:=Y i g;let⟨u,hu,_⟩:=z _ _ y p S;rw[<-B]at hu;rw[hu];rfl;have b0:i<I l*P.cellsOf e:=by
    rw[<-TV K];exact(Zf3.1 g).1
   let⟨y,p,S,B⟩:=Y i b0;let⟨u,hu,c',a9,_,T⟩:=z _ _ y p S;rw[<-B]at hu;rw[B,VG K p _ S,a9]at g;cases g;simp only[hu,Zfw];exact T
  rename_i fs N;simp only[Zf6,Zfe]at L;let⟨M,A⟩:=L;let⟨xs,m,_,_,a3,a7,D⟩:=DataW.trod_struct N h
  let⟨ys,R,W⟩:=zD (Q:=λi y=>∀f,fs.toList[i]?=J f->Xi P n f.type y/\RdC w (λb=>b<xz (xj w)) y.cells ((cs.drop f.offset).take<|P.cellsOf f.type)) (I fs.toList) (by
   intro i g;have hf:fs.toList[i]?=J fs.toList[i]:=Z1;have p:=D i fs.toList[i] Z1;rw[Zf4 (by rw[a7];exact g)]at p;let⟨y,r,T⟩:=qF (A _<|Zfq g) p;exact⟨y,Ze7⟩)
  refine⟨.agg<|flat ys,⟨ys,rfl,R,λi f y hf r=>Ze7⟩,?_⟩;have X:=(G2 (cs:=cs) M).2 a3;rw[List.drop_zero]at X;rw[X];refine CL (by simp[R]) λi y vs r O=> ?_;rw[Zfl,Zf5]at O;obtain⟨f,hf,rfl⟩:=O;exact(W i y r f hf).2;rename_i m e N;simp only[Zf6,ZfS]at L;let⟨M,A⟩:=L;let⟨xs,q,_,_,a3,a7,D⟩:=DataW.trod_array N h
  let⟨ys,R,W⟩:=zD (Q:=λi y=>Xi P n e y/\RdC w (λb=>b<xz (xj w)) y.cells ((cs.drop<|i*P.cellsOf e).take<|P.cellsOf e)) m (by
   intro i g;have p:=D i g;rw[Zf4 Z0]at p;exact qF M p)
  refine⟨.agg<|flat ys,⟨ys,rfl,R,λy r=> ?_⟩,?_⟩;let⟨i,g⟩:=Zfo r;exact(W i y g).1;rw[Z09 (cs:=cs) (k:=P.cellsOf e) (m:=m) Z0];refine CL (by simp[R]) λi y vs r O=> ?_;rw[Zfl,Zf5]at O;obtain⟨j,Z,rfl⟩:=O;have:j=i:=by
   rw[Zf3]at Z;let⟨_,Z⟩:=Z;simpa using Z.symm
  subst this;exact(W j y r).2;cases L
def Z6I{n t v d F r D}(j:Sf P n t=xk)(a:Value.okWide P w r D t v)(h:DataW.Trod enc P w 0 spare held t v d F):
  ∃x,Xi P n t x/\Rd w (λb=>b<xz (xj w)) x v:=by
 let⟨B,h⟩:=h;let⟨x,g,l⟩:=qF j h;refine⟨x,g,?_⟩;have o:∀ {c},x=c->c.cells=[c]->v.cells.toList=[v]->Rd w (λb=>b<xz (xj w)) x v:=by
  intro c y q A;subst y;rw[q,A]at l;let⟨_,u,p,C⟩:=l.2 0 x rfl;simp at p;subst p;exact C
 have K:∀ {cs} {vs:Zd},x=.agg cs->v=.agg vs->Rd w (λb=>b<xz (xj w)) x v:=by
  intro cs vs y A;subst y A;refine .agg cs vs (by have:=l.1;simpa[Value.cells]using this) (λc q=> ?_) λi c z=> ?_;let⟨i,z⟩:=Zfo q;exact(l.2 i c z).1;let⟨_,u,p,C⟩:=l.2 i c z;have:vs.getD i undef=u:=by
   have G:vs[i]?=J u:=by simpa[Value.cells]using p
   simp[G]
  grind
 cases n with
 |zero=>cases j
 |succ n=>
  unfold Sf at j;unfold Xi at g;split at j;rename_i f;rw[f]at g;obtain⟨b,rfl⟩:=g;obtain⟨c,rfl⟩:=okWide_bool f a;exact o rfl rfl rfl;rename_i k f;rw[f]at g;obtain⟨b,rfl,_⟩:=g;obtain⟨c,rfl⟩:=okWide_int f a;exact o rfl rfl rfl;rename_i f;rw[f]at g;obtain⟨b,rfl,_⟩:=g;obtain⟨c,rfl⟩:=okWide_string f a;exact o rfl rfl rfl;rename_i e f;rw[f]at g;obtain⟨b,rfl,_⟩:=g;obtain⟨c,_,_,rfl⟩:=okWide_slice f a;exact o rfl rfl rfl;rename_i H f;rw[f]at g;simp[Value.okWide]at a;grind;rename_i m e f;rw[f]at g;simp[Value.okWide]at a;grind;cases j
def Nx{n r F}:∀ {ts} {vs:Zm} {l:List (DataW H)} {z:List MemPlace},DataW.TrodAll enc P w 0 spare held ts vs l z->(∀t∈ts,Sf P n t=xk)->
  (∀(j:Nat) t v,ts[j]?=J t->vs[j]?=J v->Value.okWide P w r F t v)->
  ∃k:Zr,I k=I vs/\I vs=I ts/\I l=I ts/\(∀(i:Nat) t x,ts[i]?=J t->k[i]?=J x->Xi P n t x)/\∀(i:Nat) x v,k[i]?=J x->vs[i]?=J v->Rd w (λb=>b<xz (xj w)) x v
 | [],vs,l,z,h,_,_=>by
   obtain⟨rfl,rfl,rfl⟩:=trodAll_nil h;simp
 |t::ts,vs,l,z,h,D,a=>by
  obtain⟨v,S,d,G,p,q,rfl,rfl,rfl,K,L⟩:=trodAll_cons h;let⟨x,u,y⟩:=Z6I (D t Z1) (a 0 t v rfl rfl) K;let⟨k,M,N,R,O,Q⟩:=Nx L (λt g=>D t<|by simp[g]) λj A B g o=>a (j+1) A B Ze7 Ze7;refine⟨x::k,by simp[M],by simp[N],by simp[R],λi A C g f=> ?_,λi C B f o=> ?_⟩;cases i with
  |zero=>simp at g f;subst g f;exact u
  |succ i=>exact O i A C Ze7 Zeq
  cases i with
  |zero=>simp at o f;subst o f;exact y
  |succ i=>exact Q i C B Zeq Ze7
def ER{W g}(l:laidOutB P=xk)(j:Below (xz<|xj W) W g):∀ {ts} {vs:Zm} {f:List (DataW H)} {a:List MemPlace},DataW.TrodAll enc P W 0 (λ_=>xk) xk ts vs f a->
  (∀t∈ts,P.readableRec t=xk/\t<P.types.size)->(∀x∈a,x.block<xz (xj W))->DataW.TrodAll enc P g 0 (λb=>decide (b<xz (xj W))) xk ts vs f a
 | [],vs,f,a,h,_,_=>by
   obtain⟨rfl,rfl,rfl⟩:=trodAll_nil h;rfl
 |t::ts,vs,f,a,h,k,u=>by
  obtain⟨v,y,d,n,p,q,rfl,rfl,rfl,o,r⟩:=trodAll_cons h;exact trodAll_cons_mk (Below.trod l (k t Z1).1 (k t Z1).2 o j λx w=>Ze8) (ER l j r Ze8 λx w=>Ze8)
end
def Z3Q{P} [Lg P]{f fn}{s:ChangeSpec}{tb}n(S:laidOutB P=xk)(C:(fn.params.toList.all λt=>Sf P n t)=xk)(k:(fn.params.toList.all λt=>P.readableRec t&&decide (t<P.types.size))=xk)
  (a:s.vars=[]) (u:fn.resultTypes=#[tb]) (O:P.underlying tb=J .bool)
  (h:∀H ds,I ds=I fn.params.toList->s.fn H ds= {results:=[.lit<|.bool xk],args:=ds})
  (o:∀y,I y=I fn.params.toList->(∀(i:Nat) t x,fn.params.toList[i]?=J t->y[i]?=J x->Xi P n t x)->VC P f xw y (.bool xk))
  H enc W base args (ds gs:List<|DataW H) d
  (w:∀(j:Nat) t v,fn.params[j]?=J t->args[j]?=J v->Value.okWide P W .any base t v)
  (A:DataW.Whole enc P fn.params.toList s.vars xw W args.toList ds gs d):
  Lg.kz P f args W λe G=>∃v,e=.returned v/\s.post enc P fn xw xk xw xw W args v G:=by
 have r:=λx z=>by simpa using A.lt x z
 have l:=A;obtain⟨p,q,K,L,rfl,_,_⟩:=A;rw[a]at L;obtain⟨rfl,rfl⟩:=trodVars_none L;rw[Zgl]at r l;let⟨y,N,T,q5,X,Y⟩:=Nx (n:=n) K (Zfe.1 C) λj t v M Z=>w j t v Ze7 Ze7;let⟨_,F⟩:=o y (by rw[N,T]) X;refine Lg.fe (F W (λb=>b<xz (xj W)) args Z0 Ze7 λi x z=> ?_) λe G Q=> ?_;have R:i<I args.toList:=by rw[<-N];exact(Zf3.1 z).1
 have:args.getD i undef=args.toList[i]:=by
  have B:i<args.size:=by simpa using R
  simp[Zf7,B]
 rw[this];exact Y i x _ z Z1;obtain⟨v,rfl,g,D⟩:=Q;cases D;refine⟨_,rfl,ds,[],p,[],p,[],l,?_,?_,?_,g.frame _,Z1⟩;rw[h H _ Ze7,u];exact trodAll_mk1<|shut_bool O xk;rw[h H _ Ze7,Zgl];exact ER S g K (λt M=>by simpa using Zfe.1 k t M) r;rw[a,h H _ Ze7];rfl
def Hv{α:Type}{enc}{Q:α->Prop}:∀ {l:Zr},(∀y∈l,∃a,y=enc a/\Q a)->∃d:List α,l=d.map enc/\∀a∈d,Q a
 | [],_=>Z1
 |y::l,h=>by
  obtain⟨a,rfl,g⟩:=h y Z1;obtain⟨d,rfl,j⟩:=Hv (l:=l) λz f=>h z<|ZfJ _ f;exact⟨a::d,rfl,Ze8⟩
def OP{P n t x k}(d:P.underlying t=J (.int k))(h:Xi P (n+1) t x):∃m,x=.int k m/\k.min<=m/\m<=k.max:=by
 unfold Xi at h;rw[d]at h;obtain⟨m,rfl,a⟩:=h;simp[Lit.wf,Zfv]at a;exact⟨m,rfl,a⟩
def Dz{P n t e x}{α:Type}{enc}{Q:α->Prop}(g:P.underlying t=J (.slice e))(h:Xi P (n+1) t x)(f:∀y,Xi P n e y->∃a,y=enc a/\Q a):∃l:List α,x=.sl (l.map enc)/\I l<=maxLen/\∀a∈l,Q a:=by
 unfold Xi at h;rw[g]at h;obtain⟨l,rfl,k,d⟩:=h;obtain⟨p,rfl,o⟩:=Hv λy j=>f y<|d y j;grind
def OQ{P n t x fs}(d:P.underlying t=J (.struct fs))(h:Xi P (n+1) t x):∃a,x=.agg (flat a)/\I a=I fs.toList/\∀(i:Nat) f y,fs.toList[i]?=J f->a[i]?=J y->Xi P n f.type y:=by
 simp_all[Xi]
end
end Vm
end
section
namespace Vm
open Go
open Go.Proofs
section
def VQ(s:St):List (Nat×SV)->St
 | []=>s
 |(i,x)::l=>VQ (YB s i x) l
@[simp]theorem Zd9(s:St):VQ s []=s:=rfl
@[simp]theorem Zd8(s:St)(i:Nat)(x:SV)(l:List<|Nat×SV):VQ s ((i,x)::l)=VQ (YB s i x) l:=rfl
section
variable {P:Z5}[Lg P]{K K':St->Prop}
def Pq(d:∀s,K s->K' s){t:St}:∀ {l:List (Nat×OV)} {u:St},VU l t u K->VU l t u K'
 | [],_,h=>d _ h
 | (i,o)::l,u,h=>by
   simp only[VU]at h⊢;split;rename_i x a;rw[a]at h;exact Pq d h;rename_i a;rw[a]at h;exact h
def RD(g:∀s,K s->K' s):∀ {l:List EF} {s:St},YM P l s K->YM P l s K'
 | [],_,h=>g _ h
 | .lt i C e::l,s,h=>by
   simp only[YM]at h⊢;split;rename_i a;rw[if_pos a]at h;split;rename_i x d;rw[d]at h;exact RD g h;rename_i d;rw[d]at h;exact h;rename_i a;rw[if_neg a]at h;exact RD g h
 | .call i C f u fl t::l,s,h=>by
   simp only[YM]at h⊢;split;rename_i a;rw[if_pos a]at h;split;rename_i x n d k;rw[d,k]at h;obtain⟨r,j,o,p⟩:=h;exact⟨r,j,o,RD g p⟩;rename_i q;split at h;rename_i x n d k;exact(q x n d k).elim;exact h;rename_i a;rw[if_neg a]at h;exact RD g h
 | .co i C f w t::l,s,h=>by
   simp only[YM]at h⊢;split;rename_i a;rw[if_pos a]at h;split;rename_i x n d k;rw[d,k]at h;obtain⟨r,j,p⟩:=h;exact⟨r,j,RD g p⟩;rename_i d;split at h;rename_i x n j o;exact(d x n j o).elim;exact h;rename_i a;rw[if_neg a]at h;split at h;exact RD g h;exact RD g h;exact h.elim
def RE:∀ {a:Stm} {s:St} {N p R q:St->Prop} {X u:Nat->St->Prop},Yt P a s N X R->(∀s,N s->p s)->(∀i s,X i s->u i s)->(∀s,R s->q s)->Yt P a s p u q
 |.am r,s,_,_,_,_,_,_,h,d,_,_=>RD (λt j=>⟨j.1,Pq d j.2⟩) h
 |.skip,s,_,_,_,_,_,_,h,d,_,_=>d _ h
 |.seq a b,s,_,_,_,_,_,_,h,d,g,f=>RE (a:=a) (s:=s) h (λt j=>RE (a:=b) (s:=t) j d g f) g f
 | .cond c a b,s,_,_,_,_,_,_,h,d,g,f=>by
   simp only[Yt]at h⊢;split;rename_i k;rw[k]at h;exact RE h d g f;rename_i k;rw[k]at h;exact RE h d g f;rename_i l n;split at h;rename_i k;exact(l k).elim;rename_i k;exact(n k).elim;exact h
 | .block id a,s,_,_,_,_,_,_,h,d,g,f=>RE (a:=a) (s:=s) h d (λi t j=>by
   split;rename_i o;rw[if_pos o]at j;exact d _ j;rename_i o;rw[if_neg o]at j;exact g _ _ j) f
 | .loop w a,s,_,_,_,_,_,_,h,d,g,f=>by
   obtain⟨I,m,l,n⟩:=h;exact⟨I,m,l,λt j=>RE (a:=a) (s:=t) (n t j) (λ_ h=>h) g f⟩
 |.exit id,s,_,_,_,_,_,_,h,_,g,_=>g _ _ h
 |.ret,s,_,_,_,_,_,_,h,_,_,f=>f _ h
end
def SE{P:Z5} [Lg P]{keep:Za}{a:Stm}{s:St}{N R:St->Prop}{X:Nat->St->Prop}{ι:Type}(L:ι->List (Nat×SV))(Inv:ι->Prop)(m:St->Nat)(d:ι)
  (g:YV keep s=VQ (YV keep s) (L d)) (k:Inv d)
  (j:∀p,Inv p->Yt P a (VQ (YV keep s)<|L p) (λf=>∃q,Inv q/\YV keep f=VQ (YV keep s) (L q)/\m (VQ (YV keep s)<|L q)<m (VQ (YV keep s)<|L p)) X R):
  Yt P (.loop keep a) s N X R:=by
 refine⟨λt=>∃p,Inv p/\t=VQ (YV keep s) (L p),m,⟨d,k,g⟩,?_⟩;rintro t ⟨p,o,rfl⟩;refine RE (j p o) (λf u=> ?_) (λ_ _ h=>h) (λ_ h=>h);obtain⟨q,r,l,n⟩:=u;rw[l];exact⟨⟨q,r,rfl⟩,n⟩
def Xe(c:Nat)(n:Nat)(t:St):Nat:=match get t c with|.v (.int _ k)=>n-k.toNat|_=>0
def VV{P:Z5} [Lg P]{keep:Za}{a:Stm}{s:St}{N R:St->Prop}{X:Nat->St->Prop}(c n:Nat)(L:Nat->List (Nat×SV))(Inv:Z4)
  (g:YV keep s=VQ (YV keep s) (L 0)) (hc:∀i,get (VQ (YV keep s)<|L i) c=.v (vi i)) (k:Inv 0)
  (j:∀i,i<=n->Inv i->Yt P a (VQ (YV keep s)<|L i) (λf=>i<n/\Inv (i+1)/\YV keep f=VQ (YV keep s) (L<|i+1)) X R):
  Yt P (.loop keep a) s N X R:=by
 refine SE L (λi=>i<=n/\Inv i) (Xe c n) 0 g ⟨Z0,k⟩ ?_;rintro i ⟨o,q⟩;refine RE (j i o q) (λf p=> ?_) (λ_ _ h=>h) (λ_ h=>h);obtain⟨h,d,l⟩:=p;refine⟨i+1,⟨Z0,d⟩,l,?_⟩;simp only[Xe,hc];simp;omega
def z5{P:Z5} [Lg P]{keep:Za}{a:Stm}{s:St}{N R:St->Prop}{X:Nat->St->Prop}(c n:Nat)(Inv:Z4)
  (d:YV keep s=YB (YV keep s) c (.v<|vi 0)) (hc:∀x,get (YB (YV keep s) c x) c=x) (g:Inv 0)
  (f:∀i,i<=n->Inv i->Yt P a (YB (YV keep s) c<|.v<|vi i) (λh=>i<n/\Inv (i+1)/\YV keep h=YB (YV keep s) c (.v<|vi<|i+1)) X R):
  Yt P (.loop keep a) s N X R:=
 VV c n (λi=>[(c,.v<|vi i)]) Inv d (λi=>hc _) g f
end
def Lf:Fn:=⟨5,[0,2,3,5,12],pQ [pR [pV 1<|pU 0,pV 2<|pI 0],pi 3 (pe (.s 0)<|pU 0)<|px [pV 1<|pU 0,pV 2<|pI 6],pQ [.am ⟨[.lt 5 []<|pe (.bo .rem (.s 0)<|pU 2)<|pU 0],[([(5,xw)],pe (.s 0)<|pU 1)],[pV 4<|.ite (.s 5) pT<|pe (.s 0)<|pU 1]⟩]<|pw (.s 4)<|px [pV 1<|pU 0,pV 2<|pI 3]]<|px [pV 1<|.bo .quo (.s 0)<|pU 2,pV 2<|pI 0],[(1,.v),(2,.v)]⟩
def c44:ZL Sol.prog fresh sig [.fz] [] Try.f44=J Lf:=Z2
def MG:Fn:=⟨5,[0,2,3,4,20],pQ [pR [(1,.m [pI 0,pI 0]),pV 2<|pI 0],pR [(3,pM (.ag [.conv .i64<|.bo .rem (.bo .shr (.s 0)<|pU 1)<|pU 65536,.conv .i64<|.bo .shr (.s 0)<|pU 17]) 2)],pQ [.am ⟨[.lt 5 []<|pn (.bo .rem (.s 0)<|pU 2)<|pU 0,.call 6 [(5,xw)] (.id 94) xw xw [.mm 3 0 2]],[([(5,xw)],.un .not<|.s 6)],[pV 4<|.ite (.s 5) pT<|.un .not<|.s 6]⟩]<|pw (.s 4)<|px [(1,pM (.ag [pI 0,pI 0]) 2),pV 2<|pI 3]]<|px [(1,pM (.mm 3 0 2) 2),pV 2<|pI 0],[(1,(.ag 2)),(2,.v)]⟩
def c69:ZL Sol.prog fresh sig [.fz] [] Try.f69=J MG:=Z2
def MN:Fn:=⟨3,[0,1,2],pQ [pR [(1,pS 0 2),pV 2 pF],.am ⟨[.lt 3 []<|pg (.m 1 0)<|pI 0,.lt 4 []<|.ite (.s 3) (pL (.m 1 0)<|pI 255) pF,.lt 5 []<|.ite (.s 4) (pg (.m 1 1)<|pI 0) pF],[([(3,xk)],pL (.m 1 0)<|pI 255),([(4,xk)],pg (.m 1 1)<|pI 0),([(5,xk)],pL (.m 1 1)<|.m 1 0)],[pV 2<|.ite (.s 5) (pL (.m 1 1)<|.m 1 0) pF]⟩] .ret,[(2,.v)]⟩
def c94:ZL Sol.prog fresh sig [.fz] [] Try.f94=J MN:=Z2
def qn:Fn:=⟨4,[0,2,3,9],pQ [pR [pV 1<|pU 0,pV 2<|pI 0],pQ [.am ⟨[.lt 4 []<|pl (.s 0)<|pU 1],[([(4,xw)],pj (.s 0)<|pU 9223372036854775807)],[pV 3<|.ite (.s 4) pT<|pj (.s 0)<|pU 9223372036854775807]⟩]<|pw (.s 3)<|px [pV 1<|pU 0,pV 2<|pI 1]]<|px [pV 1<|pa (pm (pU 2)<|.s 0)<|pU 1,pV 2<|pI 0],[(1,.v),(2,.v)]⟩
def c95:ZL Sol.prog fresh sig [.fz] [] Try.f95=J qn:=Z2
def MP:Fn:=⟨6,[0,1,2,3,4,8],pQ [pR [(1,pS 0 2),pV 2<|pU 0,pV 3<|pI 0],pC [pK 6 116 [.mm 1 0 2]] [pV 4<|.s 6],pi 5 (.un .not<|.s 4)<|px [pV 2<|pU 0,pV 3<|pI 1]]<|px [pV 2<|pm (pU 2)<|pa (.conv .u64<|.m 1 0)<|pm (pU 65536)<|.conv .u64<|.m 1 1,pV 3<|pI 0],[(2,.v),(3,.v)]⟩
def c99:ZL Sol.prog fresh sig [.fz] [] Try.f99=J MP:=Z2
def qi:Fn:=⟨4,[0,2,3,9],pQ [pR [pV 1<|pU 0,pV 2<|pI 0],pQ [.am ⟨[.lt 4 []<|pl (.s 0)<|pU 1],[([(4,xw)],pj (.s 0)<|pU 9223372036854775807)],[pV 3<|.ite (.s 4) pT<|pj (.s 0)<|pU 9223372036854775807]⟩]<|pw (.s 3)<|px [pV 1<|pU 0,pV 2<|pI 1]]<|px [pV 1<|pa (pm (pU 2)<|.s 0)<|pU 1,pV 2<|pI 0],[(1,.v),(2,.v)]⟩
def Z0G:ZL Sol.prog fresh sig [.fz] [] Try.f101=J qi:=Z2
def M8:Fn:=⟨3,[0,1,2],pQ [pR [(1,pS 0 2),pV 2 pF],.am ⟨[.lt 3 []<|pg (.m 1 0)<|pI 0,.lt 4 []<|.ite (.s 3) (pL (.m 1 0)<|pI 255) pF,.lt 5 []<|.ite (.s 4) (pg (.m 1 1)<|pI 0) pF],[([(3,xk)],pL (.m 1 0)<|pI 255),([(4,xk)],pg (.m 1 1)<|pI 0),([(5,xk)],pL (.m 1 1)<|.m 1 0)],[pV 2<|.ite (.s 5) (pL (.m 1 1)<|.m 1 0) pF]⟩] .ret,[(2,.v)]⟩
def Z0R:ZL Sol.prog fresh sig [.fz] [] Try.f116=J M8:=Z2
end Vm
end
section
namespace Vm
open Go Go.Proofs
def Yr(n:Int):Prop:= -9223372036854775808<=n/\n<=9223372036854775807
def ZB(n:Int):Prop:=0<=n/\n<18446744073709551616
def ZY(n:Int)(a:0<=n)(h2:n<=18446744073709551615):IntKind.u64.wrap n=n:=by
 rw[IntKind.wrap_u64];omega
def Wm{α:Type}{l:List α}{i:Nat}{x:α}(h:l[i]?=J x):∀a:i<I l,l[i]'a=x:=λa=>by
 rw[Zf4 a]at h;exact ZgR h
def YJ(size ptrs:Int):Bool:=decide (0<=size)&&decide (size<=255)&&decide (0<=ptrs)&&decide (ptrs<=size)
theorem YE{s p:Int}:YJ s p=xk↔0<=s/\s<=255/\0<=p/\p<=s:=by simp[YJ,and_assoc]
abbrev JK(s p:Int):V:=.agg [vi s,vi p]
def NK{s p:Int}:VC Sol.prog 94 xw [JK s p]<|.bool<|YJ s p:=by
 refine ZW Sol.func94 follows Z2 c94 rfl ?_;by_cases a:0<=s<;>by_cases d:s<=255<;>by_cases f:0<=p<;>by_cases g:p<=s<;>simp[MN,YJ,a,d,f,g]
def Z6T{s p:Int}:VC Sol.prog 116 xw [JK s p]<|.bool<|YJ s p:=by
 refine ZW Sol.func116 follows Z2 Z0R rfl ?_;by_cases a:0<=s<;>by_cases d:s<=255<;>by_cases f:0<=p<;>by_cases g:p<=s<;>simp[M8,YJ,a,d,f,g]
def adr(w:Int):Int×Int:=if w=0 then(0,6)else if w%2=0\/w=1 then(0,3)else(w / 2,0)
def K5{w:Int}(l:ZB w):VC Sol.prog 44 xw [vu w]<|.an [vu (adr w).1,vi (adr w).2]:=by
 refine ZW Sol.func44 follows Z2 c44 rfl ?_;obtain⟨f,n⟩:=l;have d:w.tmod 2=w%2:=Zgp f;have j:w.tdiv 2=w / 2:=Ziy f;have k:=ZY (w / 2) Z0 Z0;by_cases a:w=0;simp[Lf,adr,a];by_cases g:w%2=0;simp[Lf,adr,a,d,g];by_cases h:w=1;subst h;simp[Lf,adr];simp[Lf,adr,a,d,j,g,h,k]
def XH(a:Int):Int×Int:=if a<1\/9223372036854775807<a then(0,1)else(2*a+1,0)
def Z6j{a:Int}(j:ZB a):VC Sol.prog 95 xw [vu a]<|.an [vu (XH a).1,vi (XH a).2]:=by
 refine ZW Sol.func95 follows Z2 c95 rfl ?_;obtain⟨k,l⟩:=j;by_cases d:a<1;simp[qn,XH,d];by_cases f:9223372036854775807<a;simp[qn,XH,d,f];have g:=ZY (2*a) Z0 Z0;have h:=ZY (2*a+1) Z0 Z0;simp[qn,XH,d,f,g,h]
def Z6Q{a:Int}(j:ZB a):VC Sol.prog 101 xw [vu a]<|.an [vu (XH a).1,vi (XH a).2]:=by
 refine ZW Sol.func101 follows Z2 Z0G rfl ?_;obtain⟨k,l⟩:=j;by_cases d:a<1;simp[qi,XH,d];by_cases f:9223372036854775807<a;simp[qi,XH,d,f];have g:=ZY (2*a) Z0 Z0;have h:=ZY (2*a+1) Z0 Z0;simp[qi,XH,d,f,g,h]
def Ux(s p:Int):Int×Int:=if YJ s p then(2*(s+65536*p),0)else(0,1)
def Z6P{s p:Int}:VC Sol.prog 99 xw [JK s p]<|.an [vu (Ux s p).1,vi (Ux s p).2]:=by
 refine ZW Sol.func99 follows Z2 c99 rfl ?_;simp[MP];refine Zy Z6T Z1 ?_;cases h:YJ s p;simp[Ux,h];obtain⟨k,l,n,o⟩:=YE.1 h;have a:=ZY s Z0 Z0;have d:=ZY p Z0 Z0;have f:=ZY (65536*p) Z0 Z0;have g:=ZY (s+65536*p) Z0 Z0;have j:=ZY (2*(s+65536*p)) Z0 Z0;simp[Ux,h,a,d,f,g,j]
def ZR(w:Int):Int×Int×Int:=if w%2=0/\YJ (w / 2%65536) (w / 131072)=xk then(w / 2%65536,w / 131072,0)else(0,0,3)
def OY{w:Int}(l:ZB w):VC Sol.prog 69 xw [vu w]<|.an [JK (ZR w).1 (ZR w).2.1,vi (ZR w).2.2]:=by
 refine ZW Sol.func69 follows Z2 c69 rfl ?_;obtain⟨k,r⟩:=l;have p:w.fdiv (2 ^ min 1 IntKind.u64.bits)=w / 2:=by
  rw[show(2:Int) ^ min 1 IntKind.u64.bits=2 by decide];exact Zix _ Z0
 have q:w.fdiv (2 ^ min 17 IntKind.u64.bits)=w / 131072:=by
  rw[show(2:Int) ^ min 17 IntKind.u64.bits=131072 by decide];exact Zix _ Z0
 have n:=ZY (w / 2) Z0 Z0;have o:=ZY (w / 131072) Z0 Z0;have f:w.tmod 2=w%2:=Zgp k;have g:(w / 2).tmod 65536=w / 2%65536:=Zgp Z0;have h:=Zz (w / 2%65536) Z0 Z0;have j:=Zz (w / 131072) Z0 Z0;simp[MG,Xc,p,q,f,g,h,j,n,o];by_cases a:w%2=0;simp[a];refine Zy NK Z1 ?_;cases d:YJ (w / 2%65536)<|w / 131072;simp[ZR,a,d];simp[ZR,a,d];simp[a,ZR]
end Vm
end
section
namespace Vm
open Go
open Go.Proofs
def Mo:Fn:=⟨11,[0,1,2,3,4,5,6,12,7,8,28],pQ [pR [(2,pS 0 7),(3,pS 1 2),pV 4<|pU 0,pV 5<|pI 0],pC [pK 11 62 [.mm 2 0 7]] [pV 6<|.s 11],pi 7 (.un .not<|.s 6)<|px [pV 4<|pU 0,pV 5<|pI 1],pC [pK 12 63 [.mm 2 0 7,.m 3 0]] [pV 8<|.ext (.s 12) 0,pV 9<|.ext (.s 12) 1],pQ [.am ⟨[.lt 13 []<|pl (.m 3 1)<|pI 0],[([(13,xw)],pg (.m 3 1)<|.s 9)],[pV 10<|.ite (.s 13) pT<|pg (.m 3 1)<|.s 9]⟩]<|pw (.s 10)<|px [pV 4<|pU 0,pV 5<|pI 6]]<|px [pV 4<|pa (.s 8)<|.conv .u64<|.m 3 1,pV 5<|pI 0],[(4,.v),(5,.v)]⟩
def c31:ZL Sol.prog fresh sig [.fz,.fz] [] Try.f31=J Mo:=Z2
def MC:Fn:=⟨5,[0,1,2,35,53],pQ [pR [(1,pS 0 7),pV 2 pF],pQ [.am ⟨[.lt 5 []<|pl (.m 1 0)<|pU 1,.lt 6 []<|.ite (.s 5) pT<|pl (.m 1 1)<|pI 0,.lt 7 []<|.ite (.s 6) pT<|pj (.m 1 1)<|pI 4096,.lt 8 []<|.ite (.s 7) pT<|pj (.m 1 0)<|pb (pU 9223372036854775808)<|pm (pU 2)<|.conv .u64<|.m 1 1,.lt 9 []<|.ite (.s 8) pT<|pl (.m 1 2)<|pI 0],[([(5,xw)],pl (.m 1 1)<|pI 0),([(6,xw)],pj (.m 1 1)<|pI 4096),([(7,xw)],pj (.m 1 0)<|pb (pU 9223372036854775808)<|pm (pU 2)<|.conv .u64<|.m 1 1),([(8,xw)],pl (.m 1 2)<|pI 0),([(9,xw)],pj (.m 1 2)<|pI 1)],[pV 3<|.ite (.s 9) pT<|pj (.m 1 2)<|pI 1]⟩]<|pw (.s 3)<|px [pV 2 pF],pQ [.am ⟨[.lt 10 []<|pl (.m 1 3)<|pI 0,.lt 11 []<|.ite (.s 10) pT<|pl (.m 1 4)<|pI 0,.lt 12 []<|.ite (.s 11) pT<|pl (.m 1 5)<|pI 0],[([(10,xw)],pl (.m 1 4)<|pI 0),([(11,xw)],pl (.m 1 5)<|pI 0),([(12,xw)],pl (.m 1 6)<|pI 0)],[pV 4<|.ite (.s 12) pT<|pl (.m 1 6)<|pI 0]⟩]<|pw (.s 4)<|px [pV 2 pF],.am ⟨[.lt 13 []<|pL (.m 1 3)<|.m 1 1,.lt 14 []<|.ite (.s 13) (pL (.m 1 4)<|pb (.m 1 1)<|.m 1 3) pF,.lt 15 []<|.ite (.s 14) (pL (.m 1 5)<|.m 1 1) pF],[([(13,xk)],pL (.m 1 4)<|pb (.m 1 1)<|.m 1 3),([(14,xk)],pL (.m 1 5)<|.m 1 1),([(15,xk)],pL (.m 1 6)<|pb (.m 1 1)<|.m 1 5)],[pV 2<|.ite (.s 15) (pL (.m 1 6)<|pb (.m 1 1)<|.m 1 5) pF]⟩] .ret,[(2,.v)]⟩
def c62:ZL Sol.prog fresh sig [.fz] [] Try.f62=J MC:=Z2
def C5:Fn:=⟨12,[0,1,2,4,5,6,7,28,27,33,45,50],pQ [pR [(2,pS 0 7),pV 3<|pU 0,pV 4<|pI 0],pR [pV 5<|pa (.m 2 0)<|.conv .u64<|pm (.m 2 2)<|.m 2 1],pR [pV 6<|pa (.m 2 0)<|.conv .u64<|pm (pb (pI 1)<|.m 2 2)<|.m 2 1],pQ [pR [pV 8<|.s 1]]<|.block 0<|pu 7 (pe (.s 8)<|pI 1) (px [pV 3<|.s 5,pV 4<|.m 2 3])<|pu 9 (pe (.s 8)<|pI 2) (px [pV 3<|pa (.s 5)<|.conv .u64<|pb (.m 2 1)<|.m 2 4,pV 4<|.m 2 4])<|pu 10 (pe (.s 8)<|pI 3) (px [pV 3<|.s 6,pV 4<|.m 2 5])<|pi 11 (pe (.s 8)<|pI 4)<|px [pV 3<|pa (.s 6)<|.conv .u64<|pb (.m 2 1)<|.m 2 6,pV 4<|.m 2 6]]<|px [pV 3<|pU 0,pV 4<|pI 0],[(3,.v),(4,.v)]⟩
def F4:ZL Sol.prog fresh sig [.fz,.fz] [] Try.f63=J C5:=Z2
def ME:Fn:=⟨4,[0,1,2,25],pQ [pR [(1,pS 0 7),pV 2 pF],pQ [.am ⟨[.lt 4 []<|pl (.m 1 1)<|pI 0,.lt 5 []<|.ite (.s 4) pT<|pj (.m 1 1)<|pI 4096,.lt 6 []<|.ite (.s 5) pT<|pl (.m 1 0)<|pU 1],[([(4,xw)],pj (.m 1 1)<|pI 4096),([(5,xw)],pl (.m 1 0)<|pU 1),([(6,xw)],pj (.m 1 0)<|pb (pU 9223372036854775808)<|pm (pU 2)<|.conv .u64<|.m 1 1)],[pV 3<|.ite (.s 6) pT<|pj (.m 1 0)<|pb (pU 9223372036854775808)<|pm (pU 2)<|.conv .u64<|.m 1 1]⟩]<|pw (.s 3)<|px [pV 2 pF],.am ⟨[.lt 7 []<|pe (.m 1 2)<|pI 0,.lt 8 []<|.ite (.s 7) pT<|pe (.m 1 2)<|pI 1,.call 9 [(8,xk)] (.id 91) xw xw [.m 1 3,.m 1 4,.m 1 1],.lt 10 []<|.ite (.s 8) (.s 9) pF,.call 11 [(10,xk)] (.id 91) xw xw [.m 1 5,.m 1 6,.m 1 1]],[([(7,xw)],pe (.m 1 2)<|pI 1)],[pV 2<|.ite (.s 10) (.s 11) pF]⟩] .ret,[(2,.v)]⟩
def c65:ZL Sol.prog fresh sig [.fz] [] Try.f65=J ME:=Z2
def MF:Fn:=⟨12,[0,1,2,4,5,10,14,15,7,6,13,31],pQ [pR [(2,pS 0 7),(3,.m [pI 0,pI 0]),pV 4<|pI 0],pQ [pC [pK 12 65 [.mm 2 0 7]] [pV 5<|.un .not<|.s 12]]<|pw (.s 5)<|px [(3,pM (.ag [pI 0,pI 0]) 2),pV 4<|pI 1],pQ [pC [pK 10 93 [.mm 2 0 7]] [pV 6<|pI 0]]<|po [0,1,2,3,4,5,6,10] 7 (pl (.s 6)<|pI 4) (pQ [pR [(8,pM (.sz (.ai (.s 10) (.s 6) 4 2 xk) 2) 2),pV 9<|.s 6],.am ⟨[.lt 13 []<|pg (.s 1)<|.m 8 0],[([(13,xk)],pl (pb (.s 1)<|.m 8 0)<|.conv .u64<|.m 8 1)],[pV 11<|.ite (.s 13) (pl (pb (.s 1)<|.m 8 0)<|.conv .u64<|.m 8 1) pF]⟩]<|pw (.s 11)<|px [(3,pM (.ag [pa (.s 9)<|pI 1,.conv .i64<|pb (.s 1)<|.m 8 0]) 2),pV 4<|pI 0])<|pc 6]<|px [(3,pM (.ag [pI 0,pI 0]) 2),pV 4<|pI 6],[(3,(.ag 2)),(4,.v)]⟩
def c67:ZL Sol.prog fresh sig [.fz,.fz] [] Try.f67=J MF:=Z2
def MH:Fn:=⟨4,[0,1,2,5],pQ [pR [(1,pS 0 7),pV 2<|pI 0],pQ [pC [pK 4 65 [.mm 1 0 7]] [pV 3<|.un .not<|.s 4]]<|pw (.s 3)<|px [pV 2<|pI 0]]<|px [pV 2<|pb (pb (.m 1 1)<|.m 1 3)<|.m 1 4],[(2,.v)]⟩
def c70:ZL Sol.prog fresh sig [.fz] [] Try.f70=J MH:=Z2
def MI:Fn:=⟨10,[0,1,2,3,4,5,9,17,6,33],pQ [pR [(2,pS 0 7),(3,pS 1 2),pV 4<|pU 0,pV 5<|pI 0],pQ [pC [pK 10 65 [.mm 2 0 7]] [pV 6<|.un .not<|.s 10]]<|pw (.s 6)<|px [pV 4<|pU 0,pV 5<|pI 1],pQ [.am ⟨[.lt 11 []<|pl (.m 3 0)<|pI 1],[([(11,xw)],pj (.m 3 0)<|pI 4)],[pV 7<|.ite (.s 11) pT<|pj (.m 3 0)<|pI 4]⟩]<|pw (.s 7)<|px [pV 4<|pU 0,pV 5<|pI 6],pC [pK 12 93 [.mm 2 0 7]] [(8,pM (.sz (.ai (.s 12) (pb (.m 3 0)<|pI 1) 4 2 xk) 2) 2)],pQ [.am ⟨[.lt 13 []<|pl (.m 3 1)<|pI 0],[([(13,xw)],pg (.m 3 1)<|.m 8 1)],[pV 9<|.ite (.s 13) pT<|pg (.m 3 1)<|.m 8 1]⟩]<|pw (.s 9)<|px [pV 4<|pU 0,pV 5<|pI 6]]<|px [pV 4<|pa (.m 8 0)<|.conv .u64<|.m 3 1,pV 5<|pI 0],[(4,.v),(5,.v)]⟩
def c75:ZL Sol.prog fresh sig [.fz,.fz] [] Try.f75=J MI:=Z2
def ql:Fn:=⟨4,[0,1,2,6],pQ [pR [pV 3 pF],.am ⟨[.lt 4 []<|pg (.s 0)<|pI 0,.lt 5 []<|.ite (.s 4) (pg (.s 1)<|pI 0) pF,.lt 6 []<|.ite (.s 5) (pL (.s 0)<|.s 2) pF],[([(4,xk)],pg (.s 1)<|pI 0),([(5,xk)],pL (.s 0)<|.s 2),([(6,xk)],pL (.s 1)<|pb (.s 2)<|.s 0)],[pV 3<|.ite (.s 6) (pL (.s 1)<|pb (.s 2)<|.s 0) pF]⟩] .ret,[(3,.v)]⟩
def c91:ZL Sol.prog fresh sig [.fz,.fz,.fz] [] Try.f91=J ql:=Z2
def MM:Fn:=⟨3,[0,1,2],pQ [pR [(1,pS 0 7),(2,.m [pU 0,pI 0,pU 0,pI 0,pU 0,pI 0,pU 0,pI 0])],pC [pK 3 113 [.mm 1 0 7,pI 1],pK 4 113 [.mm 1 0 7,pI 2],pK 5 113 [.mm 1 0 7,pI 3],pK 6 113 [.mm 1 0 7,pI 4]] [(2,pM (.ag [.ae (.ag [.one<|.s 3,.m 1 3]) 0,.ae (.ag [.one<|.s 3,.m 1 3]) 1,.ae (.ag [.one<|.s 4,.m 1 4]) 0,.ae (.ag [.one<|.s 4,.m 1 4]) 1,.ae (.ag [.one<|.s 5,.m 1 5]) 0,.ae (.ag [.one<|.s 5,.m 1 5]) 1,.ae (.ag [.one<|.s 6,.m 1 6]) 0,.ae (.ag [.one<|.s 6,.m 1 6]) 1]) 8)]] .ret,[(2,(.ag 8))]⟩
def c93:ZL Sol.prog fresh sig [.fz] [] Try.f93=J MM:=Z2
def Ld:Fn:=⟨10,[0,1,2,4,5,9,8,11,13,15],pQ [pR [(2,pS 0 7),pV 3<|pU 0],pR [pV 4<|.m 2 0],pQ [pR [pV 6<|.s 1]]<|.block 0<|pQ [.block 4<|pQ [.block 3<|pQ [.block 2<|pQ [.block 1<|pQ [pQ [pi 5 (pe (.s 6)<|pI 2)<|.exit 1,pi 7 (pe (.s 6)<|pI 1)<|.exit 2,pi 8 (pe (.s 6)<|pI 4)<|.exit 3]<|pi 9 (pe (.s 6)<|pI 3)<|.exit 4]<|.exit 0]<|pR [pV 4<|pa (.s 4)<|.conv .u64<|pb (.m 2 1)<|.m 2 4],pR [pV 4<|pa (.s 4)<|.conv .u64<|pm (.m 2 2)<|.m 2 1]]<|.exit 0]<|pR [pV 4<|pa (.s 4)<|.conv .u64<|pb (.m 2 1)<|.m 2 6],pR [pV 4<|pa (.s 4)<|.conv .u64<|pm (pb (pI 1)<|.m 2 2)<|.m 2 1]]<|.exit 0]<|px [pV 3<|.s 4],[(3,.v)]⟩
def Z0Q:ZL Sol.prog fresh sig [.fz,.fz] [] Try.f113=J Ld:=Z2
end Vm
end
section
namespace Vm
open Go Go.Proofs
structure Ly where
 base:Int
 cap:Int
 to:Int
 H:Int
 ac:Int
 ah:Int
 aj:Int
 deriving DecidableEq,Inhabited
def Xn(l:Ly):V:=.agg [vu l.base,vi l.cap,vi l.to,vi l.H,vi l.ac,vi l.ah,vi l.aj]
@[simp]theorem Zdz l:Vz (Xn l) 7=J (Xn l):=rfl
@[simp]theorem Zci l:(Xn l).cells=[vu l.base,vi l.cap,vi l.to,vi l.H,vi l.ac,vi l.ah,vi l.aj]:=rfl
@[simp]theorem Zbn l:Y0 (Xn l) 0=J (vu l.base):=rfl
@[simp]theorem Zbo l:Y0 (Xn l) 1=J (vi l.cap):=rfl
@[simp]theorem Zbp l:Y0 (Xn l) 2=J (vi l.to):=rfl
@[simp]theorem Zbq l:Y0 (Xn l) 3=J (vi l.H):=rfl
@[simp]theorem Zbr l:Y0 (Xn l) 4=J (vi l.ac):=rfl
@[simp]theorem Zbs l:Y0 (Xn l) 5=J (vi l.ah):=rfl
@[simp]theorem Zbt l:Y0 (Xn l) 6=J (vi l.aj):=rfl
def Ly.aw(l:Ly):Prop:=ZB l.base/\Yr l.cap/\Yr l.to/\Yr l.H/\Yr l.ac/\Yr l.ah/\Yr l.aj
def TM(a b words:Int):Bool:=decide (0<=a)&&decide (0<=b)&&decide (a<=words)&&decide (b<=words-a)
def ZI(l:Ly):Bool:=decide (0<=l.cap)&&decide (l.cap<=4096)&&decide (1<=l.base)&&decide (l.base<=9223372036854775808-2*l.cap)&&(decide (l.to=0)||decide (l.to=1))&&TM l.H l.ac l.cap&&TM l.ah l.aj l.cap
theorem Ww{l}:ZI l=xk↔0<=l.cap/\l.cap<=4096/\1<=l.base/\l.base<=9223372036854775808-2*l.cap/\(l.to=0\/l.to=1)/\(0<=l.H/\0<=l.ac/\l.H<=l.cap/\l.ac<=l.cap-l.H)/\(0<=l.ah/\0<=l.aj/\l.ah<=l.cap/\l.aj<=l.cap-l.ah):=by
 simp[ZI,TM,and_assoc]
theorem Vi{l}:ZI l=xw↔ ¬(0<=l.cap/\l.cap<=4096/\1<=l.base/\l.base<=9223372036854775808-2*l.cap/\(l.to=0\/l.to=1)/\(0<=l.H/\0<=l.ac/\l.H<=l.cap/\l.ac<=l.cap-l.H)/\(0<=l.ah/\0<=l.aj/\l.ah<=l.cap/\l.aj<=l.cap-l.ah)):=by
 grind [Ww]
def Pe{a b w}(h:Yr a)(n:Yr b)(j:Yr w):VC Sol.prog 91 xw [vi a,vi b,vi w]<|.bool<|TM a b w:=by
 refine ZW Sol.func91 follows Z2 c91 rfl ?_;let⟨k,l⟩:=h;let⟨w1,w2⟩:=j;by_cases d:0<=a;by_cases f:a<=w;have e:=Zz (w-a) Z0 Z0;simp_all[ql,TM];by_cases g:0<=b<;>simp[ql,TM,d,f,g];simp[ql,TM,d]
def LB{l}(y:l.aw):VC Sol.prog 65 xw [Xn l]<|.bool<|ZI l:=by
 refine ZW Sol.func65 follows Z2 c65 rfl ?_;let⟨⟨u,w⟩,x,A,p,q,r,t⟩:=y;let⟨d,c2⟩:=x;simp[ME];by_cases g1:l.cap<0;grind [ZI,Vi];by_cases g2:4096<l.cap;grind [ZI,Vi];by_cases k:l.base<1;grind [ZI,Vi];have f:=ZY l.cap Z0 Z0;have g:=ZY (2*l.cap) Z0 Z0;have j:=ZY (9223372036854775808-2*l.cap) Z0 Z0;by_cases n:9223372036854775808-2*l.cap<l.base;grind [ZI,Vi];by_cases a:l.to=0\/l.to=1
 .have k1:=Pe p q ⟨d,c2⟩;have z:ZI l=(TM l.H l.ac l.cap&&TM l.ah l.aj l.cap):=by
   obtain h|h:=a<;>simp[ZI,show 0<=l.cap by omega,show l.cap<=4096 by omega,show 1<=l.base by omega,show l.base<=9223372036854775808-2*l.cap by omega,h]
  rw[z];obtain a|a:=a;all_goals
   cases o:TM l.H l.ac l.cap;rw[o]at k1;simp[g1,g2,k,f,g,j,n,a];refine Zy k1 Z1 ?_;simp;rw[o]at k1;simp[g1,g2,k,f,g,j,n,a];refine Zy k1 Z1 ?_;simp;refine Zy (Pe r t ⟨d,c2⟩) Z1 ?_;simp
 simp_all[ZI,Vi]
def Z6U{l}(j:l.aw):VC Sol.prog 62 xw [Xn l]<|.bool<|ZI l:=by
 refine ZW Sol.func62 follows Z2 c62 rfl ?_;let⟨⟨f,g⟩,h,y,a,w,d,x⟩:=j;let⟨k,c2⟩:=h;simp[MC];by_cases q:l.base<1;grind [ZI,Vi];by_cases g1:l.cap<0;grind [ZI,Vi];by_cases g2:4096<l.cap;grind [ZI,Vi];have n:=ZY l.cap Z0 Z0;have o:=ZY (2*l.cap) Z0 Z0;have p:=ZY (9223372036854775808-2*l.cap) Z0 Z0;by_cases r:9223372036854775808-2*l.cap<l.base;grind [ZI,Vi];by_cases t:l.to<0;grind [ZI,Vi];by_cases u:1<l.to;grind [ZI,Vi];by_cases D:l.H<0;grind [ZI,Vi];by_cases F:l.ac<0;grind [ZI,Vi];by_cases G:l.ah<0;grind [ZI,Vi];by_cases H:l.aj<0;grind [ZI,Vi];let⟨z,A⟩:=a;let⟨B,C⟩:=d;have w1:=Zz (l.cap-l.H) Z0 Z0;have w2:=Zz (l.cap-l.ah) Z0 Z0;grind [ZI,Ww,Vi]
def XQ(l:Ly):Int:=if ZI l then l.cap-l.H-l.ac else 0
def Z7d{l}(a:l.aw):VC Sol.prog 70 xw [Xn l]<|vi<|XQ l:=by
 refine ZW Sol.func70 follows Z2 c70 rfl ?_;simp[MH];refine Zy (LB a) Z1 ?_;cases h:ZI l;simp[XQ,h];have g:=Ww.1 h;have d:=Zz (l.cap-l.H) Z0 Z0;have f:=Zz (l.cap-l.H-l.ac) Z0 Z0;simp_all[XQ]
def fstL(l:Ly)(part:Int):Int:=
 if part=1 then l.base+l.to*l.cap else if part=2 then l.base+l.to*l.cap+(l.cap-l.ac)else if part=3 then l.base+(1-l.to)*l.cap else l.base+(1-l.to)*l.cap+(l.cap-l.aj)
def YP(l:Ly)(part:Int):Int:=if part=1 then l.H else if part=2 then l.ac else if part=3 then l.ah else l.aj
def jn{l}(a:ZI l=xk):(l.to*l.cap=0/\(1-l.to)*l.cap=l.cap)\/(l.to*l.cap=l.cap/\(1-l.to)*l.cap=0):=by
 grind [Ww]
def WQ{l}(a:ZI l=xk)k:1<=fstL l k/\fstL l k+YP l k<=9223372036854775808/\0<=YP l k/\YP l k<=4096:=by
 have h:=Ww.1 a;have d:=jn a;unfold fstL YP;omega
def zP{l}(d:ZI l=xk){k}(t:1<=k/\k<=4):VC Sol.prog 113 xw [Xn l,vi k]<|vu<|fstL l k:=by
 refine ZW Sol.func113 follows Z2 Z0Q rfl ?_;have h:=Ww.1 d;have u:=jn d;have w1:=Zz (l.to*l.cap) Z0 Z0;have w2:=Zz (1-l.to) Z0 Z0;have w3:=Zz ((1-l.to)*l.cap) Z0 Z0;have w4:=Zz (l.cap-l.ac) Z0 Z0;have r:=Zz (l.cap-l.aj) Z0 Z0;have f:=ZY (l.to*l.cap) Z0 Z0;have g:=ZY ((1-l.to)*l.cap) Z0 Z0;have j:=ZY (l.cap-l.ac) Z0 Z0;have n:=ZY (l.cap-l.aj) Z0 Z0;have v1:=ZY (l.base+l.to*l.cap) Z0 Z0;have o:=ZY (l.base+(l.cap-l.ac)) Z0 Z0;have p:=ZY (l.base+(l.cap-l.ac)+l.to*l.cap) Z0 Z0;have v4:=ZY (l.base+(1-l.to)*l.cap) Z0 Z0;have q:=ZY (l.base+(l.cap-l.aj)) Z0 Z0;have v6:=ZY (l.base+(l.cap-l.aj)+(1-l.to)*l.cap) Z0 Z0;have a:k=1\/k=2\/k=3\/k=4:=Z0;obtain rfl|rfl|rfl|rfl:=a;simp[Ld,JU,fstL,w1,f,v1];simp[Ld,JU,fstL,w1,f,w4,j,o,p];omega;simp[Ld,JU,fstL,w2,w3,g,v4];simp[Ld,JU,fstL,w2,w3,g,r,n,q,v6];omega
def WY(l:Ly):V:=.agg [vu<|fstL l 1,vi l.H,vu<|fstL l 2,vi l.ac,vu<|fstL l 3,vi l.ah,vu<|fstL l 4,vi l.aj]
def Ow{l}(a:ZI l=xk):VC Sol.prog 93 xw [Xn l]<|WY l:=by
 refine ZW Sol.func93 follows Z2 c93 rfl ?_;simp[MM];refine Zy (zP a (k:=1) Z0) Z1 ?_;refine Zy (zP a (k:=2) Z0) Z1 ?_;refine Zy (zP a (k:=3) Z0) Z1 ?_;refine Zy (zP a (k:=4) Z0) Z1 ?_;simp[WY]
@[simp]theorem LI l:YP l 1=l.H:=rfl
@[simp]theorem LJ l:YP l 2=l.ac:=rfl
@[simp]theorem LK l:YP l 3=l.ah:=rfl
@[simp]theorem LM l:YP l 4=l.aj:=rfl
def Y5(l:Ly)(part at_:Int):Int×Int:=
 if ZI l=xw then(0,1)else if part<1\/4<part then(0,6)else if at_<0\/YP l part<=at_ then(0,6)else(fstL l part+at_,0)
def Eu{l}(p:l.aw){part at_}:VC Sol.prog 75 xw [Xn l,.agg [vi part,vi at_]]<|.an [vu (Y5 l part at_).1,vi (Y5 l part at_).2]:=by
 refine ZW Sol.func75 follows Z2 c75 rfl ?_;simp[MI];refine Zy (LB p) Z1 ?_;cases d:ZI l;simp[Y5,d];simp;by_cases k:part<1;grind [Y5];by_cases n:4<part;simp_all[Y5];have o:part=1\/part=2\/part=3\/part=4:=Z0;simp[k,n];refine Zy (Ow d) Z1 ?_;obtain rfl|rfl|rfl|rfl:=o;have a:=WQ d 1;simp[LI]at a;simp[WY,Y9,Zz];by_cases f:at_<0;grind [Y5];by_cases g:l.H<=at_;simp_all[Y5];have h:=ZY at_ Z0 Z0;have j:=ZY (fstL l 1+at_) Z0 Z0;simp_all[Y5];have a:=WQ d 2;simp[LJ]at a;simp[WY,Y9,Zz];by_cases f:at_<0;grind [Y5];by_cases g:l.ac<=at_;simp_all[Y5];have h:=ZY at_ Z0 Z0;have j:=ZY (fstL l 2+at_) Z0 Z0;simp_all[Y5];have a:=WQ d 3;simp[LK]at a;simp[WY,Y9,Zz];by_cases f:at_<0;grind [Y5];by_cases g:l.ah<=at_;simp_all[Y5];have h:=ZY at_ Z0 Z0;have j:=ZY (fstL l 3+at_) Z0 Z0;simp_all[Y5];have a:=WQ d 4;simp[LM]at a;simp[WY,Y9,Zz];by_cases f:at_<0;grind [Y5];by_cases g:l.aj<=at_;simp_all[Y5];have h:=ZY at_ Z0 Z0;have j:=ZY (fstL l 4+at_) Z0 Z0;simp_all[Y5]
def qG{l}(d:ZI l=xk){k}(r:1<=k/\k<=4):VC Sol.prog 63 xw [Xn l,vi k]<|.an [vu<|fstL l k,vi<|YP l k]:=by
 refine ZW Sol.func63 follows Z2 F4 rfl ?_;have h:=Ww.1 d;have t:=jn d;have w2:=Zz (1-l.to) Z0 Z0;have w3:=Zz ((1-l.to)*l.cap) Z0 Z0;have w4:=Zz (l.cap-l.ac) Z0 Z0;have q:=Zz (l.cap-l.aj) Z0 Z0;have f:=ZY (l.to*l.cap) Z0 Z0;have g:=ZY ((1-l.to)*l.cap) Z0 Z0;have j:=ZY (l.cap-l.ac) Z0 Z0;have n:=ZY (l.cap-l.aj) Z0 Z0;have v1:=ZY (l.base+l.to*l.cap) Z0 Z0;have o:=ZY (l.base+l.to*l.cap+(l.cap-l.ac)) Z0 Z0;have v4:=ZY (l.base+(1-l.to)*l.cap) Z0 Z0;have p:=ZY (l.base+(1-l.to)*l.cap+(l.cap-l.aj)) Z0 Z0;have a:k=1\/k=2\/k=3\/k=4:=Z0;obtain rfl|rfl|rfl|rfl:=a;all_goals simp[C5,JU,fstL,Zz (l.to*l.cap) Z0 Z0,f,w2,w3,g,w4,j,q,n,v1,o,v4,p]
def Z6N{l}(d:ZI l=xk){k}(a:k<1\/4<k):VC Sol.prog 63 xw [Xn l,vi k]<|.an [vu 0,vi 0]:=by
 refine ZW Sol.func63 follows Z2 F4 rfl ?_;simp[C5,JU,show k≠1 by omega,show k≠2 by omega,show k≠3 by omega,show k≠4 by omega]
def Z6M{l}(o:l.aw){part at_}:VC Sol.prog 31 xw [Xn l,.agg [vi part,vi at_]]<|.an [vu (Y5 l part at_).1,vi (Y5 l part at_).2]:=by
 refine ZW Sol.func31 follows Z2 c31 rfl ?_;simp[Mo];refine Zy (Z6U o) Z1 ?_;cases a:ZI l;simp[Y5,a];simp;by_cases j:part<1\/4<part;refine Zy (Z6N a j) Z1 ?_;by_cases d:at_<0;simp[Y5,a,j,d];simp[Y5,a,j,d,show 0<=at_ by omega];have n:part=1\/part=2\/part=3\/part=4:=Z0;obtain rfl|rfl|rfl|rfl:=n;have g:=WQ a 1;simp[LI]at g;refine Zy (qG a (k:=1) Z0) Z1 ?_;by_cases d:at_<0;simp[Y5,a,d];by_cases f:l.H<=at_;simp[Y5,a,d,f];have h:=ZY at_ Z0 Z0;simp[Y5,a,d,f,h,ZY (fstL l 1+at_) Z0 Z0];have g:=WQ a 2;simp[LJ]at g;refine Zy (qG a (k:=2) Z0) Z1 ?_;by_cases d:at_<0;simp[Y5,a,d];by_cases f:l.ac<=at_;simp[Y5,a,d,f];have h:=ZY at_ Z0 Z0;simp[Y5,a,d,f,h,ZY (fstL l 2+at_) Z0 Z0];have g:=WQ a 3;simp[LK]at g;refine Zy (qG a (k:=3) Z0) Z1 ?_;by_cases d:at_<0;simp[Y5,a,d];by_cases f:l.ah<=at_;simp[Y5,a,d,f];have h:=ZY at_ Z0 Z0;simp[Y5,a,d,f,h,ZY (fstL l 3+at_) Z0 Z0];have g:=WQ a 4;simp[LM]at g;refine Zy (qG a (k:=4) Z0) Z1 ?_;by_cases d:at_<0;simp[Y5,a,d];by_cases f:l.aj<=at_;simp[Y5,a,d,f];have h:=ZY at_ Z0 Z0;simp[Y5,a,d,f,h,ZY (fstL l 4+at_) Z0 Z0]
def X2(l:Ly)(a k:Int):Bool:=decide (fstL l k<=a)&&decide (a<fstL l k+YP l k)
theorem S5{l a k}:X2 l a k=xk↔fstL l k<=a/\a<fstL l k+YP l k:=by simp[X2]
def yr{l a k}:X2 l a k=xw↔ ¬(fstL l k<=a/\a<fstL l k+YP l k):=by grind [S5]
def Yg(l:Ly)(a:Int):Int×Int×Int:=
 if ZI l=xw then(0,0,1)else if X2 l a 1 then(1,a-fstL l 1,0)else if X2 l a 2 then(2,a-fstL l 2,0)else if X2 l a 3 then(3,a-fstL l 3,0)else if X2 l a 4 then(4,a-fstL l 4,0)else(0,0,6)
def Z1P{l}(x:l.aw){a}(w:ZB a):VC Sol.prog 67 xw [Xn l,vu a]<|.an [.agg [vi (Yg l a).1,vi (Yg l a).2.1],vi (Yg l a).2.2]:=by
 refine ZW Sol.func67 follows Z2 c67 rfl ?_;simp[MF];refine Zy (LB x) Z1 ?_;cases o:ZI l;simp[Yg,o];obtain⟨z,A⟩:=w;simp;refine Zy (Ow o) (by simp[Xn]) ?_;simp;have r:∀k,1<=fstL l k/\fstL l k+YP l k<=9223372036854775808/\0<=YP l k/\YP l k<=4096:=λk=>WQ o k;have w1:=r 1;have w2:=r 2;have w3:=r 3;have w4:=r 4;simp only[LI,LJ,LK,LM]at w1 w2 w3 w4;refine z5 6 4 (λi=>(0<i->X2 l a 1=xw)/\(1<i->X2 l a 2=xw)/\(2<i->X2 l a 3=xw)/\(3<i->X2 l a 4=xw)) Z1 Z1 Z1 ?_;rintro i B ⟨n,p,t,y⟩;have u:i=0\/i=1\/i=2\/i=3\/i=4:=Z0;obtain rfl|rfl|rfl|rfl|rfl:=u;have h:=ZY l.H Z0 Z0;by_cases f:fstL l 1<=a;have j:=ZY (a-fstL l 1) Z0 Z0;by_cases g:a-fstL l 1<l.H;have q:=Zz (a-fstL l 1) Z0 Z0;have d:X2 l a 1=xk:=S5.2 ⟨f,by rw[LI];omega⟩;simp[WY,Y9,Zz,f,h,j,g,q,Yg,o,d];have d:X2 l a 1=xw:=yr.2 (by rw[LI];omega);simp[WY,Y9,Zz,f,h,j,g,d];have d:X2 l a 1=xw:=by simp[X2,f]
 simp[WY,Y9,Zz,f,d];have h:=ZY l.ac Z0 Z0;by_cases f:fstL l 2<=a;have j:=ZY (a-fstL l 2) Z0 Z0;by_cases g:a-fstL l 2<l.ac;have q:=Zz (a-fstL l 2) Z0 Z0;have d:X2 l a 2=xk:=S5.2 ⟨f,by rw[LJ];omega⟩;simp[WY,Y9,Zz,f,h,j,g,q,Yg,o,d,n Z0];have d:X2 l a 2=xw:=yr.2 (by rw[LJ];omega);simp[WY,Y9,Zz,f,h,j,g,d,n Z0];have d:X2 l a 2=xw:=by simp[X2,f]
 simp[WY,Y9,Zz,f,d,n Z0];have h:=ZY l.ah Z0 Z0;by_cases f:fstL l 3<=a;have j:=ZY (a-fstL l 3) Z0 Z0;by_cases g:a-fstL l 3<l.ah;have q:=Zz (a-fstL l 3) Z0 Z0;have d:X2 l a 3=xk:=S5.2 ⟨f,by rw[LK];omega⟩;simp[WY,Y9,Zz,f,h,j,g,q,Yg,o,d,n Z0,p Z0];have d:X2 l a 3=xw:=yr.2 (by rw[LK];omega);simp[WY,Y9,Zz,f,h,j,g,d,n Z0,p Z0];have d:X2 l a 3=xw:=by simp[X2,f]
 simp[WY,Y9,Zz,f,d,n Z0,p Z0];have h:=ZY l.aj Z0 Z0;by_cases f:fstL l 4<=a;have j:=ZY (a-fstL l 4) Z0 Z0;by_cases g:a-fstL l 4<l.aj;have q:=Zz (a-fstL l 4) Z0 Z0;have d:X2 l a 4=xk:=S5.2 ⟨f,by rw[LM];omega⟩;simp[WY,Y9,Zz,f,h,j,g,q,Yg,o,d,n Z0,p Z0,t Z0];have d:X2 l a 4=xw:=yr.2 (by rw[LM];omega);simp[WY,Y9,Zz,f,h,j,g,d,n Z0,p Z0,t Z0];have d:X2 l a 4=xw:=by simp[X2,f]
 simp[WY,Y9,Zz,f,d,n Z0,p Z0,t Z0];simp[Yg,o,n Z0,p Z0,t Z0,y Z0]
end Vm
end
section
namespace Vm
open Go
open Go.Proofs
def qj:Fn:=⟨8,[0,1,2,4,6,5,10,14],pQ [pR [(2,pS 0 10),pV 3 pN],pQ [pR [pV 5<|.s 1]]<|.block 0<|pu 4 (pe (.s 5)<|pI 1) (px [pV 3<|.m 2 5])<|pu 6 (pe (.s 5)<|pI 2) (px [pV 3<|.m 2 6])<|pi 7 (pe (.s 5)<|pI 3)<|px [pV 3<|.m 2 7]]<|px [pV 3<|.m 2 8],[(3,.v)]⟩
def c28:ZL Sol.prog fresh sig [.fz,.fz] [] Try.f28=J qj:=Z2
def qk:Fn:=⟨9,[0,1,2,3,6,10,7,14,18],pQ [pR [(3,pS 0 10),(4,pZ)],pQ [pR [pV 6<|.s 1]]<|.block 0<|pu 5 (pe (.s 6)<|pI 1) (pR [(3,.m [.m 3 0,.m 3 1,.m 3 2,.m 3 3,.m 3 4,.one<|.s 2,.m 3 6,.m 3 7,.m 3 8,.m 3 9])])<|pu 7 (pe (.s 6)<|pI 2) (pR [(3,.m [.m 3 0,.m 3 1,.m 3 2,.m 3 3,.m 3 4,.m 3 5,.one<|.s 2,.m 3 7,.m 3 8,.m 3 9])])<|pu 8 (pe (.s 6)<|pI 3) (pR [(3,.m [.m 3 0,.m 3 1,.m 3 2,.m 3 3,.m 3 4,.m 3 5,.m 3 6,.one<|.s 2,.m 3 8,.m 3 9])])<|pR [(3,.m [.m 3 0,.m 3 1,.m 3 2,.m 3 3,.m 3 4,.m 3 5,.m 3 6,.m 3 7,.one<|.s 2,.m 3 9])]]<|px [(4,pM (.mm 3 0 10) 10)],[(4,(.ag 10))]⟩
def c29:ZL Sol.prog fresh sig [.fz,.fz,.fz] [] Try.f29=J qk:=Z2
def Mp:Fn:=⟨3,[0,1,2],pQ [pR [(1,pS 0 10),(2,.m [pU 0,pI 0,pI 0,pI 0,pI 0,pI 0,pI 0])]]<|px [(2,pM (.ag [.m 1 0,.m 1 1,.m 1 2,.len<|.m 1 5,.len<|.m 1 6,.len<|.m 1 7,.len<|.m 1 8]) 7)],[(2,(.ag 7))]⟩
def c32:ZL Sol.prog fresh sig [.fz] [] Try.f32=J Mp:=Z2
def Mt:Fn:=⟨10,[0,1,2,3,4,39,5,41,6,52],pQ [pR [(2,pS 0 10),(3,pS 1 10),pV 4 pF],pQ [.am ⟨[.lt 10 []<|pn (.m 2 0)<|.m 3 0,.lt 11 []<|.ite (.s 10) pT<|pn (.m 2 1)<|.m 3 1,.lt 12 []<|.ite (.s 11) pT<|pn (.m 2 2)<|.m 3 2,.lt 13 []<|.ite (.s 12) pT<|.dy xk (.m 2 3)<|.m 3 3],[([(10,xw)],pn (.m 2 1)<|.m 3 1),([(11,xw)],pn (.m 2 2)<|.m 3 2),([(12,xw)],.dy xk (.m 2 3)<|.m 3 3),([(13,xw)],pn (.m 2 4)<|.m 3 4)],[pV 5<|.ite (.s 13) pT<|pn (.m 2 4)<|.m 3 4]⟩]<|pw (.s 5)<|px [pV 4 pF],pQ [pR [pV 6<|pI 1]]<|.block 0<|.loop [0,1,2,3,4,5,6]<|pQ [pu 7 (pL (.s 6)<|pI 4) .skip<|.exit 0,.block 1<|pQ [pC [pK 14 28 [.mm 2 0 10,.s 6],pK 15 28 [.mm 3 0 10,.s 6],pK 16 49 [.s 14,.s 15]] [pV 8<|.s 16]]<|pi 9 (.un .not<|.s 8)<|px [pV 4 pF]]<|pc 6,pC [pK 17 49 [.m 2 9,.m 3 9]] [pV 4<|.s 17]] .ret,[(4,.v)]⟩
def c40:ZL Sol.prog fresh sig [.fz,.fz] [] Try.f40=J Mt:=Z2
def C3:Fn:=⟨7,[0,1,4,10,5,14,25],pQ [pR [pV 2 pF],pi 3 (pn (.len<|.s 0)<|.len<|.s 1)<|px [pV 2 pF],pQ [pR [pV 4<|pI 0]]<|.block 0<|.loop [0,1,2,3,4]<|pQ [pu 5 (pl (.s 4)<|.len<|.s 0) .skip<|.exit 0,.block 1<|pi 6 (pn (.ae (.ao (.s 0) (.s 4) 1) 0)<|.ae (.ao (.s 1) (.s 4) 1) 0)<|px [pV 2 pF]]<|pc 4]<|px [pV 2 pT],[(2,.v)]⟩
def c49:ZL Sol.prog fresh sig [.fz,.fz] [] Try.f49=J C3:=Z2
def C4:Fn:=⟨4,[0,1,4,6],pQ [pR [pV 2<|pI 0],pi 3 (pl (.s 0)<|pI 0)<|pR [pV 0<|.un .neg<|pa (.s 0)<|pI 1]]<|px [pV 2<|.bo .rem (.s 0)<|.s 1],[(2,.v)]⟩
def c53:ZL Sol.prog fresh sig [.fz,.fz] [] Try.f53=J C4:=Z2
def MD:Fn:=⟨3,[0,1,2],pQ [pR [(1,pS 0 10),(2,.m [pU 0,pI 0,pI 0,pI 0,pI 0,pI 0,pI 0])]]<|px [(2,pM (.ag [.m 1 0,.m 1 1,.m 1 2,.len<|.m 1 5,.len<|.m 1 6,.len<|.m 1 7,.len<|.m 1 8]) 7)],[(2,(.ag 7))]⟩
def c64:ZL Sol.prog fresh sig [.fz] [] Try.f64=J MD:=Z2
def C7:Fn:=⟨4,[0,1,4,6],pQ [pR [pV 2<|pI 0],pi 3 (pl (.s 0)<|pI 0)<|pR [pV 0<|.un .neg<|pa (.s 0)<|pI 1]]<|px [pV 2<|.bo .rem (.s 0)<|.s 1],[(2,.v)]⟩
def c77:ZL Sol.prog fresh sig [.fz,.fz] [] Try.f77=J C7:=Z2
end Vm
end
section
namespace Vm
open Go Go.Proofs
structure Hp where
 base:Int
 cap:Int
 to:Int
 Z:Bool
 aa:Int
 H:List Int
 ac:List Int
 ah:List Int
 aj:List Int
 E:List Int
 deriving DecidableEq,Inhabited
def ZK(h:Hp):V:=.agg [vu h.base,vi h.cap,vi h.to,.bool h.Z,vi h.aa,.sl<|h.H.map vu,.sl<|h.ac.map vu,.sl<|h.ah.map vu,.sl<|h.aj.map vu,.sl<|h.E.map vu]
@[simp]theorem Zdy(h:Hp):Vz (ZK h) 10=J (ZK h):=rfl
@[simp]theorem Zc1(h:Hp):(ZK h).cells=[vu h.base,vi h.cap,vi h.to,.bool h.Z,vi h.aa,.sl<|h.H.map vu,.sl<|h.ac.map vu,.sl<|h.ah.map vu,.sl<|h.aj.map vu,.sl<|h.E.map vu]:=rfl
@[simp]theorem Zbc(h:Hp):Y0 (ZK h) 0=J (vu h.base):=rfl
@[simp]theorem Zbd(h:Hp):Y0 (ZK h) 1=J (vi h.cap):=rfl
@[simp]theorem Zbe(h:Hp):Y0 (ZK h) 2=J (vi h.to):=rfl
@[simp]theorem Zbf(h:Hp):Y0 (ZK h) 3=J (.bool h.Z):=rfl
@[simp]theorem Zbg(h:Hp):Y0 (ZK h) 4=J (vi h.aa):=rfl
@[simp]theorem Zbh(h:Hp):Y0 (ZK h) 5=J (.sl<|h.H.map vu):=rfl
@[simp]theorem Zbi(h:Hp):Y0 (ZK h) 6=J (.sl<|h.ac.map vu):=rfl
@[simp]theorem Zbj(h:Hp):Y0 (ZK h) 7=J (.sl<|h.ah.map vu):=rfl
@[simp]theorem Zbk(h:Hp):Y0 (ZK h) 8=J (.sl<|h.aj.map vu):=rfl
@[simp]theorem Zbl(h:Hp):Y0 (ZK h) 9=J (.sl<|h.E.map vu):=rfl
def Zu(h:Hp):Ly:=⟨h.base,h.cap,h.to,I h.H,I h.ac,I h.ah,I h.aj⟩
structure Hp.ok (h:Hp):Prop where
 base:ZB h.base
 cap:Yr h.cap
 to:Yr h.to
 aa:Yr h.aa
 H:I h.H<=1000000
 ac:I h.ac<=1000000
 ah:I h.ah<=1000000
 aj:I h.aj<=1000000
 E:I h.E<=1000000
 gh:∀w∈h.H,ZB w
 gu:∀w∈h.ac,ZB w
 ma:∀w∈h.ah,ZB w
 lj:∀w∈h.aj,ZB w
 dq:∀w∈h.E,ZB w
def zQ{α:Type}{l:List α}(h:I l<=1000000):Yr (I l:Int):=⟨Z0,Z0⟩
def Hp.ok.bf{h:Hp}(a:h.ok):(Zu h).aw:=⟨a.base,a.cap,a.to,zQ a.H,zQ a.ac,zQ a.ah,zQ a.aj⟩
def E9{h:Hp}:VC Sol.prog 64 xw [ZK h]<|Xn<|Zu h:=by
 refine ZW Sol.func64 follows Z2 c64 rfl ?_;simp[MD,Xn,Zu]
def Z6O{h:Hp}:VC Sol.prog 32 xw [ZK h]<|Xn<|Zu h:=by
 refine ZW Sol.func32 follows Z2 c32 rfl ?_;simp[Mp,Xn,Zu]
def Zx(h:Hp)(n:Int):List Int:=if n=1 then h.H else if n=2 then h.ac else if n=3 then h.ah else h.aj
@[simp]theorem Vg(h:Hp):Zx h 1=h.H:=rfl
@[simp]theorem qp(h:Hp):Zx h 2=h.ac:=rfl
@[simp]theorem Cb(h:Hp):Zx h 3=h.ah:=rfl
@[simp]theorem Li(h:Hp):Zx h 4=h.aj:=rfl
def Ti{h:Hp}{n:Int}:VC Sol.prog 28 xw [ZK h,vi n]<|.sl<|(Zx h n).map vu:=by
 refine ZW Sol.func28 follows Z2 c28 rfl ?_;by_cases a:n=1;simp[qj,Zx,a];by_cases d:n=2;simp[qj,Zx,d];by_cases f:n=3<;>simp[qj,Zx,a,d,f]
def Xj(h:Hp)(n:Int)(l:Z8):Hp:=if n=1 then {h with H:=l}else if n=2 then {h with ac:=l}else if n=3 then {h with ah:=l}else {h with aj:=l}
@[simp]theorem ZdJ(h:Hp)(l:Z8):Xj h 1 l= {h with H:=l}:=rfl
@[simp]theorem ZdK(h:Hp)(l:Z8):Xj h 2 l= {h with ac:=l}:=rfl
@[simp]theorem ZdL(h:Hp)(l:Z8):Xj h 3 l= {h with ah:=l}:=rfl
@[simp]theorem ZdM(h:Hp)(l:Z8):Xj h 4 l= {h with aj:=l}:=rfl
def Es{h:Hp}{n:Int}{l:Z8}:VC Sol.prog 29 xw [ZK h,vi n,.sl<|l.map vu]<|ZK<|Xj h n l:=by
 refine ZW Sol.func29 follows Z2 c29 rfl ?_;by_cases a:n=1;simp[qk,Xj,a,ZK];by_cases d:n=2;simp[qk,Xj,d,ZK];by_cases f:n=3<;>simp[qk,Xj,a,d,f,ZK]
theorem Dv{α:Type}{a b:List α}{i:Nat}(h:a.take i=b.take i)(hx:a[i]?=b[i]?):a.take (i+1)=b.take (i+1):=by
 simp_all[ZfZ]
def Zcr{α:Type}{a b:List α}{i:Nat}(h:a[i]? ≠b[i]?):a≠b:=λe=>h (by rw[e])
def Jm{a b:Z8}(k:I a<=1000000):VC Sol.prog 49 xw [.sl<|a.map vu,.sl<|b.map vu]<|.bool<|decide (a=b):=by
 refine ZW Sol.func49 follows Z2 c49 rfl ?_;by_cases g:I a=I b;simp[C3,g];refine z5 4 (I b) (λi=>a.take i=b.take i) Z1 Z1 Z1 ?_;intro i l heq;have j:=Zz ((i:Int)+1) Z0 Z0;by_cases h:i<I b;have d:i<I a:=Z0;by_cases f:a[i]=b[i];simp[h,d,f,j];grind [Dv];simp[h,d,f];grind;simp_all[ZgD,Zg5];simp[C3,show ¬((I a:Int)=(I b:Int))by omega];grind
def O0{a b:Hp}(f:a.ok):VC Sol.prog 40 xw [ZK a,ZK b]<|.bool<|decide (a=b):=by
 refine ZW Sol.func40 follows Z2 c40 rfl ?_;simp[Mt];have g:∀k,I (Zx a k)<=1000000:=λk=>by
  unfold Zx;split;exact f.H;split;exact f.ac;split;exact f.ah;exact f.aj
 by_cases g1:a.base=b.base;case neg=>
  grind
 by_cases g2:a.cap=b.cap;case neg=>
  grind
 by_cases j:a.to=b.to;case neg=>
  grind
 by_cases l:a.Z=b.Z;case neg=>
  grind
 by_cases o:a.aa=b.aa;case neg=>
  grind
 simp[g1,g2,j,l,o];refine SE (λ(i:Nat)=>[(6,.v<|vi ((i+1:Nat):Int))]) (λi=>i<=4/\(0<i->a.H=b.H)/\(1<i->a.ac=b.ac)/\(2<i->a.ah=b.ah)/\(3<i->a.aj=b.aj)) (Xe 6 5) 0 Z1 Z1 ?_;rintro i ⟨A,w,x,y,z⟩;have p:i=0\/i=1\/i=2\/i=3\/i=4:=Z0;obtain rfl|rfl|rfl|rfl|rfl:=p;simp;refine Zy (Ti (h:=⟨b.base,b.cap,b.to,b.Z,b.aa,a.H,a.ac,a.ah,a.aj,a.E⟩) (n:=1)) (by simp[ZK]) ?_;simp;refine Zy (Ti (h:=b) (n:=1)) (by simp[ZK]) ?_;simp;refine Zy (Jm (b:=b.H)<|g 1) Z1 ?_;by_cases d:a.H=b.H;simp[d,Zz];exact⟨1,by simp[d],Z1,ZeY⟩;have:a≠b:=λe=>d (by rw[e]);simp_all;simp;refine Zy (Ti (h:=⟨b.base,b.cap,b.to,b.Z,b.aa,a.H,a.ac,a.ah,a.aj,a.E⟩) (n:=2)) (by simp[ZK]) ?_;simp;refine Zy (Ti (h:=b) (n:=2)) (by simp[ZK]) ?_;simp;refine Zy (Jm (b:=b.ac)<|g 2) Z1 ?_;by_cases d:a.ac=b.ac;simp[d,Zz];exact⟨2,Ze8,Z1,ZeY⟩;have:a≠b:=λe=>d (by rw[e]);simp_all;simp;refine Zy (Ti (h:=⟨b.base,b.cap,b.to,b.Z,b.aa,a.H,a.ac,a.ah,a.aj,a.E⟩) (n:=3)) (by simp[ZK]) ?_;simp;refine Zy (Ti (h:=b) (n:=3)) (by simp[ZK]) ?_;simp;refine Zy (Jm (b:=b.ah)<|g 3) Z1 ?_;by_cases d:a.ah=b.ah;simp[d,Zz];exact⟨3,Ze8,Z1,ZeY⟩;have:a≠b:=λe=>d (by rw[e]);simp_all;simp;refine Zy (Ti (h:=⟨b.base,b.cap,b.to,b.Z,b.aa,a.H,a.ac,a.ah,a.aj,a.E⟩) (n:=4)) (by simp[ZK]) ?_;simp;refine Zy (Ti (h:=b) (n:=4)) (by simp[ZK]) ?_;simp;refine Zy (Jm (b:=b.aj)<|g 4) Z1 ?_;by_cases d:a.aj=b.aj;simp[d,Zz];exact⟨4,Ze8,Z1,ZeY⟩;have:a≠b:=λe=>d (by rw[e]);simp_all;simp;refine Zy (Jm (b:=b.E) f.E) Z1 ?_;by_cases d:a.E=b.E;have:a=b:=by
  have q:=w Z0;have r:=x Z0;have t:=y Z0;have u:=z Z0;obtain⟨_,_,_,_,_,_,_,_,_,_⟩:=a;obtain⟨_,_,_,_,_,_,_,_,_,_⟩:=b;simp only at g1 g2 j l o q r t u d;subst g1 g2 j l o q r t u d;rfl
 simp_all;have:a≠b:=λe=>d (by rw[e]);simp_all
def pick(c n:Int):Int:=(if c<0 then-(c+1)else c) %n
def TC{c n:Int}(a:0<n):0<=pick c n/\pick c n<n:=⟨Zj2 _ Z0,ZiB _ a⟩
def Lk{c n:Int}(hc:Yr c)(f:0<n):VC Sol.prog 77 xw [vi c,vi n]<|vi<|pick c n:=by
 refine ZW Sol.func77 follows Z2 c77 rfl ?_;obtain⟨a,d⟩:=hc;by_cases h:c<0;simp[C7,h];simp(disch:=omega) only[Zz];refine⟨Z0,?_⟩;unfold pick;grind;simp[C7,h];refine⟨Z0,?_⟩;simp_all[pick,if_neg,Zgp]
def MW{c n:Int}(hc:Yr c)(f:0<n):VC Sol.prog 53 xw [vi c,vi n]<|vi<|pick c n:=by
 refine ZW Sol.func53 follows Z2 c53 rfl ?_;obtain⟨a,d⟩:=hc;by_cases h:c<0;simp[C4,h];simp(disch:=omega) only[Zz];refine⟨Z0,?_⟩;unfold pick;grind;simp[C4,h];refine⟨Z0,?_⟩;simp_all[pick,if_neg,Zgp]
end Vm
end
section
namespace Vm
open Go
open Go.Proofs
def Ml:Fn:=⟨13,[0,1,4,5,6,7,16,8,9,30,10,78,97],pQ [pR [(2,.m [pN,pN])],pR [pV 3<|.mn (.len<|.s 0)<|pI 10],pR [(4,.m [pN,pN])],pQ [pR [pV 5<|pI 0]]<|.block 0<|.loop [0,1,2,3,4,5]<|pQ [pu 6 (pl (.s 5)<|.s 3) .skip<|.exit 0,.block 1<|pQ [pR [(7,.m [pN,pN])],pQ [pR [pV 8<|pI 0]]<|.block 2<|.loop [0,1,2,3,4,5,6,7,8]<|pQ [pQ [.am ⟨[.lt 13 []<|pl (.s 8)<|.len<|.ae (.ao (.s 0) (.s 5) 2) 0],[([(13,xk)],pl (.s 8)<|pI 4)],[pV 9<|.ite (.s 13) (pl (.s 8)<|pI 4) pF]⟩]<|.cond (.s 9) .skip<|.exit 2,.block 3<|pC [pK 14 53 [.ae (.ao (.ae (.ao (.s 0) (.s 5) 2) 0) (.s 8) 1) 0,pa (.s 3)<|pI 1]] [(7,.m [.app (.m 7 0) (.lit [pb (.s 14)<|pI 1]) 1,.m 7 1])]]<|pc 8,pR [(7,.m [.m 7 0,.app pN (.gz (.ae (.ao (.s 0) (.s 5) 2) 1) (pI 0) (.mn (.len<|.ae (.ao (.s 0) (.s 5) 2) 1)<|pI 4) 1) 1])]]<|pR [(4,.m [.app (.m 4 0) (.lit [.mm 7 0 2]) 2,.m 4 1])]]<|pc 5,pQ [pR [pV 10<|pI 0]]<|.block 4<|.loop [0,1,2,3,4,5,6,10]<|pQ [pQ [.am ⟨[.lt 15 []<|pl (.s 10)<|.len<|.s 1],[([(15,xk)],pl (.s 10)<|pI 5)],[pV 11<|.ite (.s 15) (pl (.s 10)<|pI 5) pF]⟩]<|.cond (.s 11) .skip<|.exit 4,.block 5<|pC [pK 16 53 [.ae (.ao (.s 1) (.s 10) 1) 0,pa (.s 3)<|pI 1]] [(4,.m [.m 4 0,.app (.m 4 1) (.lit [pb (.s 16)<|pI 1]) 1])]]<|pc 10,pi 12 (pe (.len<|.m 4 1)<|pI 0)<|pR [(4,.m [.m 4 0,.app (.m 4 1) (.lit [pb (.s 3)<|pI 1]) 1])]]<|px [(2,pM (.mm 4 0 2) 2)],[(2,(.ag 2))]⟩
def c23:ZL Sol.prog fresh sig [.fz,.fz] [] Try.f23=J Ml:=Z2
def C6:Fn:=⟨10,[0,1,2,3,6,7,8,14,9,31],pQ [pR [(3,pS 0 7),pV 4<|pI 0,pV 5 pF],pR [pV 6<|.s 1],pi 7 (pj (.len<|.m 3 2)<|pI 0)<|pR [pV 6<|.ae (.ao (.m 3 2) (.bo .rem (.s 1)<|.len<|.m 3 2) 1) 0],pC [pK 10 77 [.s 6,pI 3]] [pV 8<|.s 10],pQ [.am ⟨[.lt 11 []<|pe (.s 8)<|pI 2],[([(11,xk)],.un .not<|.s 2)],[pV 9<|.ite (.s 11) (.un .not<|.s 2) pF]⟩]<|pw (.s 9)<|pR [pV 8<|pI 1],pC [pK 12 77 [.bo .quo (.s 6)<|pI 3,pI 2]] [pV 4<|.s 8,pV 5<|pe (.s 12)<|pI 1]] .ret,[(4,.v),(5,.v)]⟩
def c76:ZL Sol.prog fresh sig [.fz,.fz,.fz] [] Try.f76=J C6:=Z2
def MJ:Fn:=⟨15,[0,1,2,3,4,5,6,8,9,10,11,12,44,13,76],pQ [pR [(4,pS 0 14),(5,pS 1 2),(6,pS 2 2),(7,.m [pU 0,pI 0,pI 0,pF,pI 0,pN,pN,pN,pN,pN,pN,pN,pN,pN])],pC [pK 15 28 [.mm 4 0 10,.m 5 0]] [pV 8<|.app pN (.s 15) 1],pC [pK 16 99 [.ag [pa (.len<|.m 6 0)<|.len<|.m 6 1,.len<|.m 6 0]]] [pV 9<|.ext (.s 16) 0,pV 10<|.ext (.s 16) 1],.am ⟨[],[([],.ao (.s 8) (.m 5 1) 1)],[pV 8<|.upd (.s 8) (.m 5 1) 0<|.one<|.s 9]⟩,pQ [pR [pV 11<|pI 0]]<|.block 0<|.loop [0,1,2,3,4,5,6,7,8,9,10,11]<|pQ [pu 12 (pl (.s 11)<|.len<|.m 6 0) .skip<|.exit 0,.block 1<|.am ⟨[pK 17 100 [.mm 4 0 14,.ag [.m 5 0,pa (pa (.m 5 1)<|pI 1)<|.s 11],.ae (.ao (.m 6 0) (.s 11) 1) 0,pa (.s 3)<|.s 11]],[([],.ao (.s 8) (pa (pa (.m 5 1)<|pI 1)<|.s 11) 1)],[pV 8<|.upd (.s 8) (pa (pa (.m 5 1)<|pI 1)<|.s 11) 0<|.one<|.s 17]⟩]<|pc 11,pQ [pR [pV 13<|pI 0]]<|.block 2<|.loop [0,1,2,3,4,5,6,7,8,9,10,11,12,13]<|pQ [pu 14 (pl (.s 13)<|.len<|.m 6 1) .skip<|.exit 2,.block 3<|.am ⟨[],[([],.ao (.s 8) (pa (pa (pa (.m 5 1)<|pI 1)<|.len<|.m 6 0)<|.s 13) 1)],[pV 8<|.upd (.s 8) (pa (pa (pa (.m 5 1)<|pI 1)<|.len<|.m 6 0)<|.s 13) 0<|.ae (.ao (.m 6 1) (.s 13) 1) 0]⟩]<|pc 13,pC [pK 18 29 [.mm 4 0 10,.m 5 0,.s 8]] [(4,.m [.ae (.sz (.s 18) 10) 0,.ae (.sz (.s 18) 10) 1,.ae (.sz (.s 18) 10) 2,.ae (.sz (.s 18) 10) 3,.ae (.sz (.s 18) 10) 4,.ae (.sz (.s 18) 10) 5,.ae (.sz (.s 18) 10) 6,.ae (.sz (.s 18) 10) 7,.ae (.sz (.s 18) 10) 8,.ae (.sz (.s 18) 10) 9,.m 4 10,.m 4 11,.m 4 12,.m 4 13])]]<|px [(7,pM (.mm 4 0 14) 14)],[(7,(.ag 14))]⟩
def c78:ZL Sol.prog fresh sig [.fz,.fz,.fz,.fz] [] Try.f78=J MJ:=Z2
def C8:Fn:=⟨10,[0,1,2,3,4,11,5,6,7,8],pQ [pR [(2,pS 0 14),(3,pS 1 2),pV 4<|pU 0],pi 5 (pe (.m 3 0)<|pI 0)<|px [pV 4<|pU 0],pC [pK 10 32 [.mm 2 0 10],pK 11 31 [.s 10,.mm 3 0 2]] [pV 6<|.ext (.s 11) 0,pV 7<|.ext (.s 11) 1],pC [pK 12 101 [.s 6]] [pV 8<|.ext (.s 12) 0,pV 9<|.ext (.s 12) 1]]<|px [pV 4<|.s 8],[(4,.v)]⟩
def c79:ZL Sol.prog fresh sig [.fz,.fz] [] Try.f79=J C8:=Z2
def Sh:Fn:=⟨10,[0,1,2,3,4,5,8,10,13,54],pQ [pR [(4,pS 0 14),(5,pS 1 2),pV 6<|pU 0],pi 7 (pl (.s 2)<|pI 0)<|px [pV 6<|pU 0],pi 8 (pj (.m 5 0)<|pI 2)<|pQ [pC [pK 10 79 [.mm 4 0 14,.bb (.ao (.m 4 13) (.s 2) 2) 0 2]] [pV 6<|.s 10]] .ret,pQ [.am ⟨[.lt 11 []<|pe (.m 5 0)<|pI 1,.lt 12 []<|.ite (.s 11) (pg (.m 5 1)<|.m 4 4) pF,.lt 13 [(12,xk)]<|pe (.ae (.ao (.m 4 12) (.s 2) 2) 0)<|pI 0,.lt 14 [(12,xk),(13,xw)]<|pj (.ae (.ao (.m 4 13) (.s 2) 2) 0)<|pI 0],[([(11,xk)],pg (.m 5 1)<|.m 4 4),([(12,xk),(13,xw),(14,xk)],pe (.bo .rem (.s 3)<|pI 2)<|pI 0),([(12,xk),(13,xw)],.ite (.s 14) (pe (.bo .rem (.s 3)<|pI 2)<|pI 0) pF),([(12,xk)],.ite (.s 13) pT<|.ite (.s 14) (pe (.bo .rem (.s 3)<|pI 2)<|pI 0) pF)],[pV 9<|.ite (.s 12) (.ite (.s 13) pT<|.ite (.s 14) (pe (.bo .rem (.s 3)<|pI 2)<|pI 0) pF) pF]⟩]<|pw (.s 9)<|pQ [pC [pK 15 79 [.mm 4 0 14,.bb (.ao (.m 4 13) (.s 2) 2) 0 2]] [pV 6<|.s 15]] .ret,pC [pK 16 79 [.mm 4 0 14,.bb (.ao (.m 4 12) (.s 2) 2) 0 2]] [pV 6<|.s 16]] .ret,[(6,.v)]⟩
def Z0F:ZL Sol.prog fresh sig [.fz,.fz,.fz,.fz] [] Try.f100=J Sh:=Z2
end Vm
end
section
namespace Vm
open Go Go.Proofs
structure Nd where
 M:List Int
 data:List Int
 deriving DecidableEq,Inhabited
structure Gr where
 nodes:List Nd
 E:List Int
 deriving DecidableEq,Inhabited
def Yf(n:Nd):V:=.agg [.sl<|n.M.map vi,.sl<|n.data.map vu]
def Yh(g:Gr):V:=.agg [.sl<|g.nodes.map Yf,.sl<|g.E.map vi]
@[simp]theorem Zcq(n:Nd):(Yf n).cells=[.sl<|n.M.map vi,.sl<|n.data.map vu]:=rfl
@[simp]theorem Zdl(l:List Nd):Xq 2 (l.map Yf)=xk:=JL λ_=>rfl
@[simp]theorem ZbR(n:Nd):Um (Yf n) 0 2=J (Yf n):=rfl
@[simp]theorem Zbu(n:Nd):Y0 (Yf n) 0=J (.sl<|n.M.map vi):=rfl
@[simp]theorem Zbv(n:Nd):Y0 (Yf n) 1=J (.sl<|n.data.map vu):=rfl
@[simp]theorem ZdA(n:Nd):Vz (Yf n) 2=J (Yf n):=rfl
@[simp]theorem ZbQ(g:Gr):Um (Yh g) 0 2=J (Yh g):=rfl
@[simp]theorem Zba(g:Gr):Y0 (Yh g) 0=J (.sl<|g.nodes.map Yf):=rfl
@[simp]theorem Zbb(g:Gr):Y0 (Yh g) 1=J (.sl<|g.E.map vi):=rfl
@[simp]theorem Zdx(g:Gr):Vz (Yh g) 2=J (Yh g):=rfl
@[simp]theorem ZbZ(g:Gr):(Yh g).cells=[.sl<|g.nodes.map Yf,.sl<|g.E.map vi]:=rfl
@[simp]theorem Zdq{k:IntKind}{l:Zr}(j n:Nat):Rq n (.sl l) (.int k 0) (.int k (j:Int))=if j<=I l/\Xq n l=xk then J (.sl<|l.take j)else U:=by
 have:=Z8d (k:=k) (l:=l) 0 j n;simpa using this
def rp(n:Nat)(p:Int):Int:=pick p (n+1) -1
def T4(n:Nat)(x:Nd):Nd:=⟨(x.M.take 4).map<|rp n,x.data.take 4⟩
def Vu(l:List Nd):Nat:=min (I l) 10
def ZU(l:List Nd)(a:Z8):Gr:=⟨(l.take<|Vu l).map<|T4<|Vu l,if a.take 5=[]then [(Vu l:Int) -1]else(a.take 5).map (rp<|Vu l)⟩
def PW{l:List Nd}{a:Z8}(hl:∀x∈l,∀p∈x.M,Yr p)(hr:∀p∈a,Yr p):VC Sol.prog 23 xw [.sl<|l.map Yf,.sl<|a.map vi]<|Yh<|ZU l a:=by
 refine ZW Sol.func23 follows Z2 c23 rfl ?_;have S:Vu l<=10:=by grind [Vu]
 have a1:Vu l<=I l:=by grind [Vu]
 have z:(if(10:Int)< (I l:Int)then(10:Int)else(I l:Int))=(Vu l:Int):=by
  unfold Vu;split<;>omega
 simp[Ml,z];generalize hn:Vu l=n at*;have C:=Zz ((n:Int)+1) Z0 Z0;refine UG (λt=>∃i:Nat,i<=n/\t=[.v<|.sl<|l.map Yf,.v<|.sl<|a.map vi,.m [.sl [],.sl []],.v<|vi n,.m [.sl<|((l.take i).map<|T4 n).map Yf,.sl []],.v<|vi i]) (λt=>match get t 5 with|.v (.int _ i)=>n-i.toNat|_=>0) ?_ ?_;exact⟨0,Z1,Z1⟩
 .rintro t ⟨i,hi,rfl⟩;have hw:=Zz ((i:Int)+1) Z0 Z0;by_cases h:i<n
  .have r:i<I l:=Z0;have P:l[i]?=J l[i]:=Zf4 r;simp[h];generalize A:l[i]=x at P;have Q:∀p∈x.M,Yr p:=hl x<|Zfc P;have F:(if(4:Int)< (I x.data:Int)then(4:Int)else(I x.data:Int))=((min (I x.data) 4:Nat):Int):=by split<;>omega
   refine UG (λt=>∃k:Nat,k<=I x.M/\k<=4/\t=[.v<|.sl<|l.map Yf,.v<|.sl<|a.map vi,.m [.sl [],.sl []],.v<|vi n,.m [.sl<|((l.take i).map<|T4 n).map Yf,.sl []],.v<|vi i,.v<|.bool xk,.m [.sl<|((x.M.take k).map<|rp n).map vi,.sl []],.v<|vi k]) (λt=>match get t 8 with|.v (.int _ i)=>4-i.toNat|_=>0) ?_ ?_;exact⟨0,Z1,Z1,Z1⟩
   .rintro t ⟨k,G,Z,rfl⟩;have w:=Zz ((k:Int)+1) Z0 Z0;by_cases W:k<I x.M/\k<4;obtain⟨f,Y⟩:=W;have M:x.M[k]?=J x.M[k]:=Zf4 f;have g:(k:Int)<4:=Z0;simp[r,A,f,g,C];refine Zy (MW (Q _<|Zfq f) Z0) Z1 ?_;have N:=TC (c:=x.M[k]) (n:=(n:Int)+1) Z0;have y:=Zz (pick x.M[k] ((n:Int)+1) -1) Z0 Z0;simp[w,y];refine⟨by grind [Y8],⟨k+1,Z0,Z0,?_,Z1⟩,Z0⟩;rw[ZfZ,Zfl,M];rfl
    .have d:(x.M.take k)=x.M.take 4:=by
      by_cases f:k<I x.M;grind;grind
     have o:(l.take<|i+1).map (Yf∘T4 n)=(l.take i).map (Yf∘T4 n)++[V.agg [.sl<|(x.M.take k).map<|vi∘rp n,.sl<|(x.data.take<|min (I x.data) 4).map vu]]:=by
      rw[ZfZ,P,Zgg,d];have L:x.data.take (min (I x.data) 4)=x.data.take 4:=by
       by_cases hd:I x.data<=4;grind;grind
      rw[L];simp[Yf,T4]
     have B:Xq 1 ((x.data.take<|min (I x.data) 4).map vu)=xk:=jg _;have u:min (I x.data) 4<=Y8:=by grind [Y8]
     have H:min i (I l)+1<=Y8:=by grind [Y8]
     have K:min (I x.data) 4<=I x.data:=Z0;simp only[List.map_take]at o B;have g:k<I x.M->¬(k:Int)<4:=Z0;by_cases f:k<I x.M
     all_goals (
      simp[r,A,f,g,F,u,H,B,hw,K];exact⟨⟨i+1,Z0,o.symm,Z1⟩,Z0⟩)
  .have:i=n:=Z0;subst this;simp;have D:=Zz ((i:Int) -1) Z0 Z0;refine UG (λt=>∃k:Nat,k<=I a/\k<=5/\t=[.v<|.sl<|l.map Yf,.v<|.sl<|a.map vi,.m [.sl [],.sl []],.v<|vi i,.m [.sl<|(l.take i).map<|Yf∘T4 i,.sl<|(a.take k).map<|vi∘rp i],.v<|vi i,.v<|.bool xw,.no,.no,.no,.v<|vi k]) (λt=>match get t 10 with|.v (.int _ i)=>5-i.toNat|_=>0) ?_ ?_;exact⟨0,Z1,Z1,Z1⟩
   .rintro t ⟨k,G,a0,rfl⟩;have w:=Zz ((k:Int)+1) Z0 Z0;by_cases X:k<I a/\k<5;obtain⟨f,Y⟩:=X;have M:a[k]?=J a[k]:=Zf4 f;have g:(k:Int)<5:=Z0;simp[f,g,C];refine Zy (MW (hr _<|Zfq f) Z0) Z1 ?_;have N:=TC (c:=a[k]) (n:=(i:Int)+1) Z0;have y:=Zz (pick a[k] ((i:Int)+1) -1) Z0 Z0;simp[w,y];refine⟨by grind [Y8],⟨k+1,Z0,Z0,?_,Z1⟩,Z0⟩;rw[ZfZ,Zfl,M];rfl
    .have d:(a.take k)=a.take 5:=by
      by_cases f:k<I a;grind;grind
     have g:k<I a->¬(k:Int)<5:=Z0;have R:ZU l a=⟨(l.take i).map<|T4 i,if a.take 5=[]then [(i:Int) -1]else(a.take 5).map (rp i)⟩:=by
      unfold ZU;rw[hn]
     have q:I (a.take k)=k:=by rw[Zg0];omega
     by_cases T:k=0;subst T;have j:a.take 5=[]:=by rw[<-d];rfl
     rw[R,if_pos j];have f:¬0<I a:=Z0;have u:1<=Y8:=by simp[Y8]
     simp[f,Yh,D,u]
     .have j:a.take 5≠[]:=by
       rw[<-d];intro h;rw[h]at q;simp at q;omega
      rw[R,if_neg j,<-d];have O:¬a=[]:=by intro h;rw[h]at G;simp at G;omega
      by_cases f:k<I a;all_goals simp[f,g,Yh,T,O]
def NO{n:Nat}{p:Int}: -1<=rp n p/\rp n p<n:=by
 have:=TC (c:=p) (n:=(n:Int)+1) Z0;grind [rp]
def yJ(l:List Nd)(a:Z8):(ZU l a).nodes.length=Vu l:=by
 simp[ZU,Vu]
def Bu(l:List Nd)(a:Z8):Vu l<=10/\(ZU l a).E.length<=5/\∀x∈(ZU l a).nodes,I x.M<=4/\I x.data<=4:=by
 refine⟨by grind [Vu],?_,λx d=> ?_⟩;grind [ZU];simp only[ZU,Zfj]at d;obtain⟨y,_,rfl⟩:=d;grind [T4,List.length_map,List.length_take]
end Vm
end
section
namespace Vm
open Go
open Go.Proofs
def Mq:Fn:=⟨3,[0,1,2],pQ [pR [(1,pS 0 7),(2,pZ)],pC [pK 3 45 [.mm 1 0 7,pF],pK 4 46 [.s 3,.mm 1 0 7]] [(2,pS 4 10)]] .ret,[(2,(.ag 10))]⟩
def c35:ZL Sol.prog fresh sig [.fz] [] Try.f35=J Mq:=Z2
def Mv:Fn:=⟨19,[0,1,2,4,5,6,7,8,26,9,10,11,12,13,57,81,14,82,165],pQ [pR [(2,pS 0 7),(3,.m [pU 0,pI 0,pI 0,pF,pI 0,pN,pN,pN,pN,pN,pN,pN,pN,pN])],.am ⟨[pK 19 23 [.m 2 0,.m 2 1]],[([],.ag [pU 0,pI 0,pI 0,pF,pI 0,pN,pN,pN,pN,pN,.ae (.sz (.s 19) 2) 0,.ae (.sz (.s 19) 2) 1,pN,pN])],[(4,.m [pU 0,pI 0,pI 0,pF,pI 0,pN,pN,pN,pN,pN,.ae (.sz (.s 19) 2) 0,.ae (.sz (.s 19) 2) 1,pN,pN])]⟩,pR [(5,.m [pI 0,pI 0,pI 0,pI 0,pI 0])],pR [pV 6<|pI 0],pQ [pR [pV 7<|pI 0]]<|.block 0<|.loop [0,1,2,3,4,5,6,7]<|pQ [pu 8 (pl (.s 7)<|.len<|.m 4 10) .skip<|.exit 0,.block 1<|pQ [pC [pK 20 76 [.mm 2 0 7,.s 7,.s 1]] [pV 9<|.ext (.s 20) 0,pV 10<|.ext (.s 20) 1],pR [pV 11<|pa (pa (pI 1)<|.len<|.ae (.ao (.m 4 10) (.s 7) 2) 0)<|.len<|.ae (.ao (.m 4 10) (.s 7) 2) 1],pR [(12,pM (.ag [pI 0,pI 0]) 2)],pR [(13,pM (.ag [pI 0,pI 0]) 2)],pu 14 (pl (.s 9)<|pI 2) (pQ [.am ⟨[],[([],.ai (.c<|.agg [(.bool xk),(.bool xk),(.bool xk),(.bool xk),(.bool xk)]) (pb (pI 2)<|.s 9) 5 1 xw)],[(12,pM (.ag [pb (pI 2)<|.s 9,.one<|.ai (.mm 5 0 5) (pb (pI 2)<|.s 9) 5 1 xw]) 2)]⟩]<|.am ⟨[],[([],.ai (.c<|.agg [(.bool xk),(.bool xk),(.bool xk),(.bool xk),(.bool xk)]) (pb (pI 2)<|.s 9) 5 1 xw)],[(5,pM (.de (.mm 5 0 5) (pb (pI 2)<|.s 9) 5 1<|pa (.ai (.mm 5 0 5) (pb (pI 2)<|.s 9) 5 1 xw)<|.s 11) 5)]⟩)<|pR [pV 6<|pa (.s 6)<|.s 11],pQ [pC [.lt 21 []<|pj (.s 9)<|pI 0] [pV 15<|.ite (.s 21) (.s 1) pF]]<|pw (.s 15)<|pQ [pR [pV 16<|pI 3],pi 17 (.s 10)<|pR [pV 16<|pI 4],.am ⟨[],[([],.ai (.c<|.agg [(.bool xk),(.bool xk),(.bool xk),(.bool xk),(.bool xk)]) (.s 16) 5 1 xw)],[(13,pM (.ag [.one<|.s 16,.one<|.ai (.mm 5 0 5) (.s 16) 5 1 xw]) 2)]⟩]<|.am ⟨[],[([],.ai (.c<|.agg [(.bool xk),(.bool xk),(.bool xk),(.bool xk),(.bool xk)]) (.s 16) 5 1 xw)],[(5,pM (.de (.mm 5 0 5) (.s 16) 5 1<|pa (.ai (.mm 5 0 5) (.s 16) 5 1 xw)<|.s 11) 5)]⟩,pR [(4,.m [.m 4 0,.m 4 1,.m 4 2,.m 4 3,.m 4 4,.m 4 5,.m 4 6,.m 4 7,.m 4 8,.m 4 9,.m 4 10,.m 4 11,.app (.m 4 12) (.lit [.mm 12 0 2]) 2,.m 4 13])]]<|pR [(4,.m [.m 4 0,.m 4 1,.m 4 2,.m 4 3,.m 4 4,.m 4 5,.m 4 6,.m 4 7,.m 4 8,.m 4 9,.m 4 10,.m 4 11,.m 4 12,.app (.m 4 13) (.lit [.mm 13 0 2]) 2])]]<|pc 7,.am ⟨[pK 22 77 [.m 2 6,pI 2]],[([],.ai (.c<|.agg [(.bool xk),(.bool xk),(.bool xk),(.bool xk),(.bool xk)]) (pI 1) 5 1 xw),([],.ai (.c<|.agg [(.bool xk),(.bool xk),(.bool xk),(.bool xk),(.bool xk)]) (pI 2) 5 1 xw),([],.ai (.c<|.agg [(.bool xk),(.bool xk),(.bool xk),(.bool xk),(.bool xk)]) (pI 3) 5 1 xw),([],.ai (.c<|.agg [(.bool xk),(.bool xk),(.bool xk),(.bool xk),(.bool xk)]) (pI 4) 5 1 xw),([],.ag [pU 0,pI 0,.one<|.s 22,.one<|.s 1,pI 0,.mk (.int .u64 0)<|.ai (.mm 5 0 5) (pI 1) 5 1 xw,.mk (.int .u64 0)<|.ai (.mm 5 0 5) (pI 2) 5 1 xw,.mk (.int .u64 0)<|.ai (.mm 5 0 5) (pI 3) 5 1 xw,.mk (.int .u64 0)<|.ai (.mm 5 0 5) (pI 4) 5 1 xw,pN])],[(4,.m [pU 0,pI 0,.one<|.s 22,.one<|.s 1,pI 0,.mk (.int .u64 0)<|.ai (.mm 5 0 5) (pI 1) 5 1 xw,.mk (.int .u64 0)<|.ai (.mm 5 0 5) (pI 2) 5 1 xw,.mk (.int .u64 0)<|.ai (.mm 5 0 5) (pI 3) 5 1 xw,.mk (.int .u64 0)<|.ai (.mm 5 0 5) (pI 4) 5 1 xw,pN,.m 4 10,.m 4 11,.m 4 12,.m 4 13])]⟩,.am ⟨[pK 23 77 [.m 2 4,pI 12]],[([],.ai (.c<|.agg [(.bool xk),(.bool xk),(.bool xk),(.bool xk),(.bool xk)]) (pI 1) 5 1 xw),([],.ai (.c<|.agg [(.bool xk),(.bool xk),(.bool xk),(.bool xk),(.bool xk)]) (pI 2) 5 1 xw),([],.ai (.c<|.agg [(.bool xk),(.bool xk),(.bool xk),(.bool xk),(.bool xk)]) (pI 3) 5 1 xw),([],.ai (.c<|.agg [(.bool xk),(.bool xk),(.bool xk),(.bool xk),(.bool xk)]) (pI 4) 5 1 xw)],[(4,.m [.m 4 0,pa (.mx (pa (pa (.ai (.mm 5 0 5) (pI 1) 5 1 xw)<|.ai (.mm 5 0 5) (pI 2) 5 1 xw)<|.s 6)<|pa (.ai (.mm 5 0 5) (pI 3) 5 1 xw)<|.ai (.mm 5 0 5) (pI 4) 5 1 xw)<|.s 23,.m 4 2,.m 4 3,.m 4 4,.m 4 5,.m 4 6,.m 4 7,.m 4 8,.m 4 9,.m 4 10,.m 4 11,.m 4 12,.m 4 13])]⟩,pR [(4,.m [pa (pU 1)<|.bo .rem (.m 2 3)<|pb (pU 9223372036854775808)<|pm (pU 2)<|.conv .u64<|.m 4 1,.m 4 1,.m 4 2,.m 4 3,.m 4 4,.m 4 5,.m 4 6,.m 4 7,.m 4 8,.m 4 9,.m 4 10,.m 4 11,.m 4 12,.m 4 13])],.am ⟨[],[([],.ai (.c<|.agg [(.bool xk),(.bool xk),(.bool xk),(.bool xk),(.bool xk)]) (pI 1) 5 1 xw)],[(4,.m [.m 4 0,.m 4 1,.m 4 2,.m 4 3,.one<|.ai (.mm 5 0 5) (pI 1) 5 1 xw,.m 4 5,.m 4 6,.m 4 7,.m 4 8,.m 4 9,.m 4 10,.m 4 11,.m 4 12,.m 4 13])]⟩,pQ [.am ⟨[.lt 24 []<|.s 1],[([(24,xk)],.ai (.c<|.agg [(.bool xk),(.bool xk),(.bool xk),(.bool xk),(.bool xk)]) (pI 1) 5 1 xw),([(24,xk)],pj (.ai (.mm 5 0 5) (pI 1) 5 1 xw)<|pI 0)],[pV 18<|.ite (.s 24) (pj (.ai (.mm 5 0 5) (pI 1) 5 1 xw)<|pI 0) pF]⟩]<|pw (.s 18)<|.am ⟨[pK 25 77 [.m 2 5,.ai (.mm 5 0 5) (pI 1) 5 1 xw]],[([],.ai (.c<|.agg [(.bool xk),(.bool xk),(.bool xk),(.bool xk),(.bool xk)]) (pI 1) 5 1 xw)],[(4,.m [.m 4 0,.m 4 1,.m 4 2,.m 4 3,.one<|.s 25,.m 4 5,.m 4 6,.m 4 7,.m 4 8,.m 4 9,.m 4 10,.m 4 11,.m 4 12,.m 4 13])]⟩]<|px [(3,pM (.mm 4 0 14) 14)],[(3,(.ag 14))]⟩
def c45:ZL Sol.prog fresh sig [.fz,.fz] [] Try.f45=J Mv:=Z2
def Mw:Fn:=⟨17,[0,1,2,3,4,5,16,6,31,59,83,7,8,9,125,10,134],pQ [pR [(2,pS 0 14),(3,pS 1 7),(4,pZ)],pQ [pR [pV 5<|pI 0]]<|.block 0<|.loop [0,1,2,3,4,5]<|pQ [pu 6 (pl (.s 5)<|.len<|.m 2 10) .skip<|.exit 0,.block 1<|pQ [pR [(7,pM (.bb (.ao (.m 2 10) (.s 5) 2) 0 2) 2)],pi 8 (pj (.ae (.ao (.m 2 12) (.s 5) 2) 0)<|pI 0)<|pC [pK 17 78 [.mm 2 0 14,.bb (.ao (.m 2 12) (.s 5) 2) 0 2,.mm 7 0 2,pa (.m 3 4)<|.s 5]] [(2,pS 17 14)],pQ [.am ⟨[.lt 18 []<|pj (.ae (.ao (.m 2 13) (.s 5) 2) 0)<|pI 0],[([(18,xk)],pe (.ae (.ao (.m 2 12) (.s 5) 2) 0)<|pI 0)],[pV 9<|.ite (.s 18) (pe (.ae (.ao (.m 2 12) (.s 5) 2) 0)<|pI 0) pF]⟩]<|pw (.s 9)<|pC [pK 19 78 [.mm 2 0 14,.bb (.ao (.m 2 13) (.s 5) 2) 0 2,.mm 7 0 2,pI 0]] [(2,pS 19 14)],.am ⟨[.lt 20 []<|pj (.ae (.ao (.m 2 13) (.s 5) 2) 0)<|pI 0],[([(20,xk)],pj (.ae (.ao (.m 2 12) (.s 5) 2) 0)<|pI 0)],[pV 10<|.ite (.s 20) (pj (.ae (.ao (.m 2 12) (.s 5) 2) 0)<|pI 0) pF]⟩]<|pw (.s 10)<|pQ [pC [pK 21 28 [.mm 2 0 10,.ae (.ao (.m 2 13) (.s 5) 2) 0]] [pV 11<|.app pN (.s 21) 1],.am ⟨[pK 22 79 [.mm 2 0 14,.bb (.ao (.m 2 12) (.s 5) 2) 0 2]],[([],.ao (.s 11) (.ae (.ao (.m 2 13) (.s 5) 2) 1) 1)],[pV 11<|.upd (.s 11) (.ae (.ao (.m 2 13) (.s 5) 2) 1) 0<|.one<|.s 22]⟩]<|pC [pK 23 29 [.mm 2 0 10,.ae (.ao (.m 2 13) (.s 5) 2) 0,.s 11]] [(2,.m [.ae (.sz (.s 23) 10) 0,.ae (.sz (.s 23) 10) 1,.ae (.sz (.s 23) 10) 2,.ae (.sz (.s 23) 10) 3,.ae (.sz (.s 23) 10) 4,.ae (.sz (.s 23) 10) 5,.ae (.sz (.s 23) 10) 6,.ae (.sz (.s 23) 10) 7,.ae (.sz (.s 23) 10) 8,.ae (.sz (.s 23) 10) 9,.m 2 10,.m 2 11,.m 2 12,.m 2 13])]]<|pc 5,pR [pV 12 pN],pQ [pR [pV 13<|pI 0]]<|.block 2<|.loop [0,1,2,3,4,5,6,12,13]<|pQ [pu 14 (pl (.s 13)<|.len<|.m 2 11) .skip<|.exit 2,.block 3<|pQ [pR [pV 15<|pU 0],pi 16 (pg (.ae (.ao (.m 2 11) (.s 13) 1) 0)<|pI 0)<|pC [pK 24 79 [.mm 2 0 14,.bb (.ao (.m 2 12) (.ae (.ao (.m 2 11) (.s 13) 1) 0) 2) 0 2]] [pV 15<|.s 24]]<|pR [pV 12<|.app (.s 12) (.lit [.one<|.s 15]) 1]]<|pc 13,pR [(2,.m [.m 2 0,.m 2 1,.m 2 2,.m 2 3,.m 2 4,.m 2 5,.m 2 6,.m 2 7,.m 2 8,.one<|.s 12,.m 2 10,.m 2 11,.m 2 12,.m 2 13])]]<|px [(4,pM (.mm 2 0 10) 10)],[(4,(.ag 10))]⟩
def c46:ZL Sol.prog fresh sig [.fz,.fz] [] Try.f46=J Mw:=Z2
end Vm
end
section
namespace Vm
open Go Go.Proofs
structure Pl where
 part:Int
 Y:Int
 deriving DecidableEq,Inhabited
def XV(p:Pl):V:=.agg [vi p.part,vi p.Y]
@[simp]theorem Zd2 p:(XV p).cells=[vi p.part,vi p.Y]:=rfl
@[simp]theorem ZbU p:Um (XV p) 0 2=J (XV p):=rfl
@[simp]theorem ZbB p:Y0 (XV p) 0=J (vi p.part):=rfl
@[simp]theorem ZbC p:Y0 (XV p) 1=J (vi p.Y):=rfl
@[simp]theorem ZdC p:Vz (XV p) 2=J (XV p):=rfl
@[simp]theorem Zdo(l:List Pl):Xq 2 (l.map XV)=xk:=JL λ_=>rfl
structure Rw where
 nodes:List Nd
 E:List Int
 dc:List Int
 base:Int
 bc:Int
 aa:Int
 to:Int
 deriving Inhabited
def WO(x:Rw):V:=.agg [.sl<|x.nodes.map Yf,.sl<|x.E.map vi,.sl<|x.dc.map vi,vu x.base,vi x.bc,vi x.aa,vi x.to]
@[simp]theorem ZdD x:Vz (WO x) 7=J (WO x):=rfl
@[simp]theorem Zdh x:(WO x).cells=[.sl<|x.nodes.map Yf,.sl<|x.E.map vi,.sl<|x.dc.map vi,vu x.base,vi x.bc,vi x.aa,vi x.to]:=rfl
@[simp]theorem ZbD x:Y0 (WO x) 0=J (.sl<|x.nodes.map Yf):=rfl
@[simp]theorem ZbE x:Y0 (WO x) 1=J (.sl<|x.E.map vi):=rfl
@[simp]theorem ZbF x:Y0 (WO x) 2=J (.sl<|x.dc.map vi):=rfl
@[simp]theorem ZbG x:Y0 (WO x) 3=J (vu x.base):=rfl
@[simp]theorem ZbH x:Y0 (WO x) 4=J (vi x.bc):=rfl
@[simp]theorem ZbI x:Y0 (WO x) 5=J (vi x.aa):=rfl
@[simp]theorem ZbJ x:Y0 (WO x) 6=J (vi x.to):=rfl
structure Rw.ok (x:Rw):Prop where
 M:∀n∈x.nodes,∀p∈n.M,Yr p
 data:∀n∈x.nodes,∀p∈n.data,ZB p
 E:∀p∈x.E,Yr p
 dc:∀p∈x.dc,Yr p
 base:ZB x.base
 bc:Yr x.bc
 aa:Yr x.aa
 to:Yr x.to
def U9(x:Rw)(i:Nat):Int:=if I x.dc=0 then i else(x.dc[i%I x.dc]?).getD 0
def V1(x:Rw)(i:Nat)(cycle:Bool):Int:=if pick (U9 x i) 3=2/\cycle=xw then 1 else pick (U9 x i) 3
def Wz(x:Rw)(i:Nat):Bool:=decide (pick ((U9 x i).tdiv 3) 2=1)
def SQ x i cycle:V1 x i cycle=0\/V1 x i cycle=1\/(V1 x i cycle=2/\cycle=xk):=by
 have:=TC (c:=U9 x i) (n:=3) Z0;unfold V1;grind
def Z1p{x}(hx:x.ok){i:Nat}(C:i<=1000){cycle}:VC Sol.prog 76 xw [WO x,vi i,.bool cycle]<|.an [vi<|V1 x i cycle,.bool<|Wz x i]:=by
 refine ZW Sol.func76 follows Z2 c76 rfl ?_;have t:Yr<|U9 x i:=by
  unfold U9;split;exact⟨Z0,Z0⟩;rename_i h;have:i%I x.dc<I x.dc:=Zin _ Z0;rw[Zf4 this];exact hx.dc _ Z1
 have g:=Lk (c:=U9 x i) (n:=3) t Z0;have o:Yr<|(U9 x i).tdiv 3:=by
  let⟨B,f⟩:=t;unfold Yr;rw[Int.tdiv_eq_ediv];have:Int.sign 3=1:=rfl;split<;>omega
 have d:=Zz _ o.1 o.2;have a:=Lk (c:=(U9 x i).tdiv 3) (n:=2) o Z0;have fin:∀b,(decide _=b)->Wz x i=b:=λb h=>h;by_cases p:I x.dc=0;have k:U9 x i=i:=by simp[U9,p]
 rw[k]at g a d;rw[Ziy Z0]at a d;simp[C6,p];refine Zy g Z1 ?_;by_cases f:pick i 3=2;cases cycle;simp[f,d];refine Zy a Z1 ?_;simp[V1,Wz,k,f];simp[f,d];refine Zy a Z1 ?_;simp[V1,Wz,k,f];simp[f,d];refine Zy a Z1 ?_;simp[V1,Wz,k,f];have q:i%I x.dc<I x.dc:=Zin _ Z0;have w:x.dc[i%I x.dc]?=J x.dc[i%I x.dc]:=Z1;have k:U9 x i=x.dc[i%I x.dc]:=by simp[U9,p,w]
 have z:(i:Int).tmod (I x.dc:Int)=((i%I x.dc:Nat):Int):=by
  rw[Zgp Z0];rfl
 rw[k]at g a d;have u:0<I x.dc:=Z0;have r:x.dc≠[]:=Ze8;have A:(i% (I x.dc:Int))=((i%I x.dc:Nat):Int):=rfl;generalize l:x.dc[i%I x.dc]=c at*;generalize y:i%I x.dc=j at*;simp[C6,u,r,z,q,l];refine Zy g Z1 ?_;by_cases f:pick c 3=2;cases cycle;simp[f,d];refine Zy a Z1 ?_;simp[V1,Wz,k,f];simp[f,d];refine Zy a Z1 ?_;simp[V1,Wz,k,f];simp[f,d];refine Zy a Z1 ?_;simp[V1,Wz,k,f]
def ZJ(n:Nd):Nat:=1+I n.M+I n.data
structure St8 where
 n1:Nat
 n2:Nat
 n3:Nat
 n4:Nat
 wt:Nat
 ax:List Pl
 ah:List Pl
def X5(x:Rw)(cycle:Bool)(sz:Nat)(i:Nat)(s:St8):St8:=
 let k:=V1 x i cycle;let a:=Wz x i;let o:Bool:=decide (0<k)&&cycle
 {n1:=if k=1 then s.n1+sz else s.n1
  n2:=if k=0 then s.n2+sz else s.n2
  n3:=if o&& !a then s.n3+sz else s.n3
  n4:=if o&&a then s.n4+sz else s.n4
  wt:=if k=2 then s.wt+sz else s.wt
  ax:=s.ax++[if k=0 then⟨2,s.n2⟩else if k=1 then⟨1,s.n1⟩else⟨0,0⟩]
  ah:=s.ah++[if o then(if a then⟨4,s.n4⟩else⟨3,s.n3⟩)else⟨0,0⟩]}
def Y4(x:Rw)(cycle:Bool)(g:Gr):Nat->St8
 |0=>⟨0,0,0,0,0,[],[]⟩
 |i+1=>X5 x cycle (ZJ<|(g.nodes[i]?).getD default) i<|Y4 x cycle g i
def Z8t{x cycle sz i}(h:sz<=9)s(d:s.n1+s.n2+s.wt<=9*i)(h2:s.n3+s.n4<=9*i)(f:I s.ax=i)(g:I s.ah=i):
  (X5 x cycle sz i s).n1+(X5 x cycle sz i s).n2+(X5 x cycle sz i s).wt<=9*(i+1)/\(X5 x cycle sz i s).n3+(X5 x cycle sz i s).n4<=9*(i+1)/\(X5 x cycle sz i s).ax.length=i+1/\(X5 x cycle sz i s).ah.length=i+1:=by
 obtain a|a|⟨a,rfl⟩:=SQ x i cycle;grind [X5];grind [Wz,X5];grind [Wz,X5]
def LQ{x cycle g}(a:∀n∈g.nodes,ZJ n<=9):∀i,i<=I g.nodes->(Y4 x cycle g i).n1+(Y4 x cycle g i).n2+(Y4 x cycle g i).wt<=9*i/\(Y4 x cycle g i).n3+(Y4 x cycle g i).n4<=9*i/\(Y4 x cycle g i).ax.length=i/\(Y4 x cycle g i).ah.length=i
 |0,_=>by simp[Y4]
 |i+1,k=>by
  let⟨d,f,h,j⟩:=LQ (x:=x) (cycle:=cycle) a i Z0;simp[Y4,Zf4 (Z0:i<I g.nodes)];simp_all[Z8t]
structure Bt where
 h:Hp
 g:Gr
 ax:List Pl
 ah:List Pl
def XK(b:Bt):List V:=[vu b.h.base,vi b.h.cap,vi b.h.to,.bool b.h.Z,vi b.h.aa,.sl<|b.h.H.map vu,.sl<|b.h.ac.map vu,.sl<|b.h.ah.map vu,.sl<|b.h.aj.map vu,.sl<|b.h.E.map vu,.sl<|b.g.nodes.map Yf,.sl<|b.g.E.map vi,.sl<|b.ax.map XV,.sl<|b.ah.map XV]
def Wp(b:Bt):V:=.agg [vu b.h.base,vi b.h.cap,vi b.h.to,.bool b.h.Z,vi b.h.aa,.sl<|b.h.H.map vu,.sl<|b.h.ac.map vu,.sl<|b.h.ah.map vu,.sl<|b.h.aj.map vu,.sl<|b.h.E.map vu,.sl<|b.g.nodes.map Yf,.sl<|b.g.E.map vi,.sl<|b.ax.map XV,.sl<|b.ah.map XV]
def YQ(x:Rw)(cycle:Bool):Bt:=
 let g:=ZU x.nodes x.E;let s:=Y4 x cycle g<|I g.nodes;let cap:Int:=max ((s.n1:Int)+s.n2+s.wt) ((s.n3:Int)+s.n4)+pick x.bc 12
 ⟨⟨1+x.base% (9223372036854775808-2*cap),cap,pick x.to 2,cycle,if cycle=xk/\0<s.n1 then pick x.aa s.n1 else s.n1,List.replicate s.n1 0,List.replicate s.n2 0,List.replicate s.n3 0,List.replicate s.n4 0,[]⟩,g,s.ax,s.ah⟩
def Z8v{x}(hx:x.ok){cycle}:VC Sol.prog 45 xw [WO x,.bool cycle]<|Wp<|YQ x cycle:=by
 refine ZW Sol.func45 follows Z2 c45 rfl ?_;simp[Mv];refine Zy (PW hx.M hx.E) Z1 ?_;obtain⟨L,M,y⟩:=Bu x.nodes x.E;have N:=yJ x.nodes x.E;unfold YQ;generalize ZU x.nodes x.E=g at*;have l:∀n∈g.nodes,ZJ n<=9:=λn a=>by have:=y n a;unfold ZJ;omega
 simp
 refine VV 7 (I g.nodes) (λi=>[(4,.m [.int .u64 0,.int .i64 0,.int .i64 0,.bool xw,.int .i64 0,.sl [],.sl [],.sl [],.sl [],.sl [],.sl<|g.nodes.map Yf,.sl<|g.E.map vi,.sl<|(Y4 x cycle g i).ax.map XV,.sl<|(Y4 x cycle g i).ah.map XV]),
  (5,.m [vi 0,vi (Y4 x cycle g i).n1,vi (Y4 x cycle g i).n2,vi (Y4 x cycle g i).n3,vi (Y4 x cycle g i).n4]),(6,.v<|vi (Y4 x cycle g i).wt),(7,.v<|vi i)]) (λ_=>True) (by simp[Y4]) (λi=>Z1) trivial ?_
 rintro i Q-;have o:=Zz ((i:Int)+1) Z0 Z0;obtain⟨s1,s2,s3,s4⟩:=LQ (x:=x) (cycle:=cycle) l i Q;by_cases h:i<I g.nodes;have a:g.nodes[i]?=J g.nodes[i]:=Zf4 h;have p:=l _<|Zfq h;simp only[Y4,a,Zfw];generalize Y4 x cycle g i=s at*;generalize g.nodes[i]=n at*;have O:=Z1p hx (i:=i) Z0 (cycle:=cycle);have z:=SQ x i cycle;have w1:=Zz (1+(I n.M:Int)) (by unfold ZJ at p;omega) (by unfold ZJ at p;omega);have w2:=Zz (1+(I n.M:Int)+I n.data) (by unfold ZJ at p;omega) (by unfold ZJ at p;omega);have d:(1+(I n.M:Int)+I n.data)=(ZJ n:Nat):=by unfold ZJ;omega
 rw[d]at w2;simp[h];refine Zy O Z1 ?_;generalize G:ZJ n=sz at*;unfold X5;generalize Wz x i=D at*;generalize V1 x i cycle=k at*;have H:=Zz ((s.n1:Int)+sz) Z0 Z0;have u2:=Zz ((s.n2:Int)+sz) Z0 Z0;have t:=Zz ((s.n3:Int)+sz) Z0 Z0;have u:=Zz ((s.n4:Int)+sz) Z0 Z0;have w:=Zz ((s.wt:Int)+sz) Z0 Z0;have q:I s.ax+1<=Y8:=ZeA;have r:I s.ah+1<=Y8:=ZeA;obtain rfl|rfl|⟨rfl,rfl⟩:=z;cases cycle<;>simp[a,w1,d,w2,Y9,UM,setCells,Zz,u2,t,u,w,q,r,XV,o];cases cycle;simp[a,w1,d,w2,Y9,UM,setCells,Zz,H,t,u,w,q,r,XV,o];cases D<;>simp[a,w1,d,w2,Y9,UM,setCells,Zz,H,t,u,w,q,r,XV,o];cases D<;>simp[a,w1,d,w2,Y9,UM,setCells,Zz,t,u,w,q,r,XV,o];have:i=I g.nodes:=Z0;subst this;generalize S:Y4 x cycle g (I g.nodes)=s at*;have C:=Lk (c:=x.to) (n:=2) hx.to Z0;have B:=Lk (c:=x.bc) (n:=12) hx.bc Z0;have T:=TC (c:=x.bc) (n:=12) Z0;simp;refine Zy C Z1 ?_;have W:s.n1<=Y8:=ZeA;have X:s.n2<=Y8:=ZeA;have Y:s.n3<=Y8:=ZeA;have Z:s.n4<=Y8:=ZeA;simp[Y9,W,X,Y,Z];refine Zy B Z1 ?_;have w1:=Zz ((s.n1:Int)+s.n2) Z0 Z0;have w2:=Zz ((s.n1:Int)+s.n2+s.wt) Z0 Z0;have w3:=Zz ((s.n3:Int)+s.n4) Z0 Z0;have j:(if(s.n1:Int)+s.n2+s.wt< (s.n3:Int)+s.n4 then(s.n3:Int)+s.n4 else(s.n1:Int)+s.n2+s.wt)=max ((s.n1:Int)+s.n2+s.wt) ((s.n3:Int)+s.n4):=by split<;>omega
 obtain⟨cap,f⟩:∃cap:Int,max ((s.n1:Int)+s.n2+s.wt) ((s.n3:Int)+s.n4)+pick x.bc 12=cap:=⟨_,rfl⟩;have P:0<=cap/\cap<=200:=Z0;have w4:=Zz cap Z0 Z0;have w5:=ZY cap Z0 Z0;have w6:=ZY (2*cap) Z0 Z0;have w7:=ZY (9223372036854775808-2*cap) Z0 Z0;obtain⟨K,b2⟩:=hx.base;have w8:x.base.tmod (9223372036854775808-2*cap)=x.base% (9223372036854775808-2*cap):=Zgp K;have h1:=Zj2 x.base (Z0:(9223372036854775808-2*cap)≠0);have h2:=ZiB x.base (Z0:0< (9223372036854775808-2*cap));have w9:=ZY (1+x.base% (9223372036854775808-2*cap)) Z0 Z0;have A:¬((9223372036854775808-2*cap)=0):=Z0;simp[Y9,w1,w2,w3,j,f,w4,w5,w6,w7,w8,w9,A];cases cycle;simp[Wp];by_cases F:0<s.n1;have R:=Lk (c:=x.aa) (n:=(s.n1:Int)) hx.aa Z0;simp[F];refine Zy R Z1 ?_;simp[Wp,Y9];simp[Wp,F]
end Vm
namespace Vm
open Go Go.Proofs
@[simp]theorem Zdv b:Vz (Wp b) 14=J (Wp b):=rfl
@[simp]theorem Zaa b:(Wp b).cells=XK b:=rfl
@[simp]theorem Zb2 b i:Y0 (Wp b) i=(XK b)[i]?.bind YZ:=rfl
def Z5E s p:0<=(Ux s p).1/\(Ux s p).1<100000000:=by
 grind [Ux,YE]
def u9 l(g:l.aw)p a:0<=(Y5 l p a).1/\(Y5 l p a).1<=9223372036854775807:=by
 unfold Y5;split;simp;rename_i f;have d:ZI l=xk:=Zeq;split;simp;split;simp;have:=WQ d p;omega
def Z6i{a}:0<=(XH a).1/\(XH a).1<18446744073709551616:=by
 unfold XH;split;simp;omega
def YC(h:Hp)(p:Pl):Int:=if p.part=0 then 0 else(XH (Y5 (Zu h) p.part p.Y).1).1
theorem CO h p:ZB<|YC h p:=by
 unfold YC;split;exact⟨Z0,Z0⟩;exact Z6i
def Lv{b}(f:(Zu b.h).aw){p}:VC Sol.prog 79 xw [Wp b,XV p]<|vu<|YC b.h p:=by
 refine ZW Sol.func79 follows Z2 c79 rfl ?_;by_cases d:p.part=0;simp[C8,XK,YC,d];have g:=u9 _ f p.part p.Y;simp[C8,XK,d];refine Zy (Z6O (h:=b.h)) Z1 ?_;refine Zy (Z6M f (part:=p.part) (at_:=p.Y)) Z1 ?_;simp;refine Zy (Z6Q (a:=(Y5 _ p.part p.Y).1) ⟨g.1,Z0⟩) Z1 ?_;simp[YC,d]
def Vj(b:Bt)(p:Pl)(to tw:Int):Int:=
 if to<0 then 0 else if 2<p.part then YC b.h<|(b.ah[to.toNat]?).getD ⟨0,0⟩
 else if p.part=1/\b.h.aa<=p.Y/\(((b.ax[to.toNat]?).getD ⟨0,0⟩).part=0\/0< ((b.ah[to.toNat]?).getD ⟨0,0⟩).part/\tw%2=0)then YC b.h ((b.ah[to.toNat]?).getD ⟨0,0⟩)
 else YC b.h<|(b.ax[to.toNat]?).getD ⟨0,0⟩
theorem Z8h b p to tw:ZB<|Vj b p to tw:=by
 unfold Vj;split;exact⟨Z0,Z0⟩;grind [CO]
def OL(t:Int):t.tmod 2=0↔t%2=0:=by
 grind
def Z8i{b}(k:(Zu b.h).aw){p}{to tw:Int}(r:to<I b.ax)(h2:to<I b.ah):VC Sol.prog 100 xw [Wp b,XV p,vi to,vi tw]<|vu<|Vj b p to tw:=by
 refine ZW Sol.func100 follows Z2 Z0F rfl ?_;by_cases q:to<0;simp[Sh,XK,Vj,q];obtain⟨t,rfl⟩:=Zfi (Z0:0<=to);have g1:b.ax[t]?=J (b.ax[t]'Z0):=Z1;have g2:b.ah[t]?=J (b.ah[t]'Z0):=Z1;generalize b.ax[t]'Z0=x at*;generalize b.ah[t]'Z0=y at*;unfold Vj;simp[Zfh,g1,g2,Zfw];by_cases o:2<p.part;simp[Sh,XK,o,g2];refine Zy (Lv k (p:=y)) Z1 ?_;simp;have k1:=Lv k (p:=x);have n:=Lv k (p:=y);by_cases d:p.part=1;by_cases f:b.h.aa<=p.Y;by_cases g:x.part=0;simp[Sh,XK,d,f,g,g1,g2];refine Zy n Z1 ?_;simp;by_cases l:0<y.part;by_cases j:tw%2=0;have a:=(OL tw).2 j;simp[Sh,XK,d,f,g,l,j,a,g1,g2];refine Zy n Z1 ?_;simp;have a:=mt (OL tw).1 j;simp[Sh,XK,d,f,g,l,j,a,g1,g2];refine Zy k1 Z1 ?_;simp;simp[Sh,XK,d,f,g,l,g1,g2];refine Zy k1 Z1 ?_;simp;simp[Sh,XK,d,f,g1,g2];refine Zy k1 Z1 ?_;simp;simp[Sh,XK,o,d,g1,g2];refine Zy k1 Z1 ?_;simp
@[simp]theorem Zd7 x y:V.put (vu x) 0 [vu y]=vu y:=rfl
def D7{l pre:List Int}{m}(h:I pre=m)(a:m<I l)z:(pre++l.drop m).set m z=pre++[z]++l.drop (m+1):=by
 subst h;rw[Zj7 _ _ Z0,Zh1,Zg7 a,ZfM];rfl
def XI(b:Bt)(p:Pl)(a:Nat)(d:List Int)(tw:Int):List Int:=(List.range<|I d).map λi=>Vj b ⟨p.part,((a+1+i:Nat):Int)⟩ ((d[i]?).getD 0)<|IntKind.i64.wrap<|tw+i
def S6(b:Bt)(p:Pl)(a:Nat)(n:Nd)(tw:Int):List Int:=
 let l:=Zx b.h p.part
 l.take a++[(Ux ((I n.M:Int)+I n.data)<|I n.M).1]++XI b p a n.M tw++n.data++l.drop (a+ZJ n)
def Wd(b:Bt)(p:Pl)(n:Nd)(tw:Int):Bt:= {b with h:=Xj b.h p.part (S6 b p p.Y.toNat n tw)}
def Hj{b}(hb:(Zu b.h).aw){p:Pl}{n tw}{a:Nat}(ha:p.Y=a)(a2:I (Zx b.h p.part)<=1000000)(d:a+ZJ n<=I (Zx b.h p.part))
  (h1:∀q∈n.M,q<I b.ax/\q<I b.ah):VC Sol.prog 78 xw [Wp b,XV p,Yf n,vi tw]<|Wp<|Wd b p n tw:=by
 refine ZW Sol.func78 follows Z2 c78 rfl ?_;have N:I (Zx b.h p.part)<=Y8:=ZeA;have w1:=Zz ((I n.M:Int)+I n.data) ZeC ZeC;unfold Wd;rw[show p.Y.toNat=a by omega];simp[MJ,XK];refine Zy (Ti (h:=b.h) (n:=p.part)) Z1 ?_;simp[N,w1];refine Zy (Z6P (s:=(I n.M:Int)+I n.data) (p:=I n.M)) Z1 ?_;have P:a< I (Zx b.h p.part):=ZeC;simp[ha,P];generalize Y:Zx b.h p.part=l at*;generalize X:(Ux ((I n.M:Int)+I n.data)<|I n.M).1=A at*;have D:(l.map vu).set a (vu A)=((l.take a++[A])++l.drop (a+1)).map vu:=by
  rw[<-ZhN];congr 1;have:=D7 (l:=l) (pre:=l.take a) (m:=a) Ze9 P A;rw[Zhe]at this;exact this
 simp only[D];have H:=Zz (a+1) Z0 Z0;have a3:I n.M<=I l:=ZeC;have Q:I (XI b p a n.M tw)=I n.M:=by simp[XI]
 refine VV 11 (I n.M) (λk=>[(8,.v<|.sl<|((l.take a++[A]++(XI b p a n.M tw).take k)++l.drop (a+1+k)).map vu),(11,.v<|vi k)]) (λ_=>True) Z1 Z1 trivial ?_;rintro k hk-;have L:=Zz (k+1) Z0 Z0;have a4:=Zz (a+1+k) Z0 Z0;by_cases r:k<I n.M;have T:n.M[k]?=J n.M[k]:=Z1;let⟨q1,q2⟩:=h1 _<|Zfq r;have t:=Z8i hb (p:=⟨p.part,((a+1+k:Nat):Int)⟩) (to:=n.M[k]) (tw:=IntKind.i64.wrap<|tw+k) q1 q2;have Z:(XI b p a n.M tw)[k]?=J (Vj b ⟨p.part,((a+1+k:Nat):Int)⟩ n.M[k]<|IntKind.i64.wrap<|tw+k):=by
  simp[XI,r]
 generalize n.M[k]=q at*;generalize Vj b ⟨p.part,((a+1+k:Nat):Int)⟩ q (IntKind.i64.wrap<|tw+k)=z at*;have G:(XI b p a n.M tw).take (k+1)=(XI b p a n.M tw).take k++[z]:=by rw[ZfZ,Z];rfl
 have o:I (l.take a++[A]++(XI b p a n.M tw).take k)=a+1+k:=by simp[Q];omega
 have O:a+1+k<I l:=ZeC;have F:=D7 (l:=l) o O z;generalize C:l.take a++[A]++(XI b p a n.M tw).take k=pre at*;have g:∃x,((pre++l.drop (a+1+k)).map vu)[a+1+k]?=J (vu x):=by
  refine⟨l[a+1+k],?_⟩;rw[Zfl,Zfs Z0,o,Zh1,Zg7 O];rfl
 have f:((pre++l.drop (a+1+k)).map vu).set (a+1+k) (vu z)=(pre++[z]++l.drop (a+1+(k+1))).map vu:=by
  rw[<-ZhN,F];rfl
 obtain⟨m,B⟩:∃m,a+1+k=m:=⟨_,rfl⟩;have u:(a:Int)+1+k=m:=Z0;have w:=Zz m Z0 Z0;rw[show a+1+(k+1)=a+1+k+1 by omega]at f⊢;rw[B]at g f t⊢;generalize W:(pre++l.drop m).map vu=LL at g f⊢;rw[G];let⟨y,hy⟩:=g;simp[r,Wm T,H,u,w];refine Zy t Z1 ?_;simp[hy,f,L,H,u,w];rw[<-C];simp;have:k=I n.M:=Z0;subst this;rw[show(XI b p a n.M tw).take (I n.M)=XI b p a n.M tw from Zg5 Z0];have a0:=Zz (a+1+I n.M) Z0 Z0;have a1:∀j,j<=1000+I n.data->IntKind.i64.wrap (a+1+I n.M+j)=a+1+I n.M+j:=λj hj=>Zz _ Z0 ZeC;generalize R:l.take a++[A]++XI b p a n.M tw=sp at*;have S:I sp=a+1+I n.M:=by rw[<-R];simp[Q];omega
 simp;refine VV 13 (I n.data) (λk=>[(8,.v<|.sl<|((sp++n.data.take k)++l.drop (a+1+I n.M+k)).map vu),(13,.v<|vi k)]) (λ_=>True) Z1 Z1 trivial ?_;rintro k hk-;have L:=Zz (k+1) Z0 ZeC;by_cases r:k<I n.data;have T:n.data[k]?=J n.data[k]:=Z1;generalize n.data[k]=z at*;have G:n.data.take (k+1)=n.data.take k++[z]:=by rw[ZfZ,T];rfl
 have o:I (sp++n.data.take k)=a+1+I n.M+k:=by simp[S];omega
 have O:a+1+I n.M+k<I l:=ZeC;have F:=D7 (l:=l) o O z;generalize C:sp++n.data.take k=pre at*;have g:∃x,((pre++l.drop (a+1+I n.M+k)).map vu)[a+1+I n.M+k]?=J (vu x):=by
  refine⟨l[a+1+I n.M+k],?_⟩;rw[Zfl,Zfs Z0,o,Zh1,Zg7 O];rfl
 have f:((pre++l.drop (a+1+I n.M+k)).map vu).set (a+1+I n.M+k) (vu z)=(pre++[z]++l.drop (a+1+I n.M+k+1)).map vu:=by
  rw[<-ZhN,F]
 rw[show a+1+I n.M+(k+1)=a+1+I n.M+k+1 by omega];have a5:=a1 k Z0;obtain⟨m,B⟩:∃m,a+1+I n.M+k=m:=⟨_,rfl⟩;have u:(a:Int)+1+I n.M+k=m:=Z0;have w:=Zz m Z0 Z0;rw[B]at g f⊢;generalize W:(pre++l.drop m).map vu=LL at g f⊢;rw[G];let⟨y,hy⟩:=g;simp[r,Wm T,H,a0,u,w,hy,f,L];rw[<-C];simp;have:k=I n.data:=Z0;subst this;rw[show n.data.take (I n.data)=n.data from ZgD];have K:=Es (h:=b.h) (n:=p.part) (l:=sp++n.data++l.drop (a+1+I n.M+I n.data));have M:S6 b p a n tw=sp++n.data++l.drop (a+1+I n.M+I n.data):=by
  unfold S6;rw[Y,X];dsimp only;rw[R,show a+ZJ n=a+1+I n.M+(I n.data) by unfold ZJ;omega]
 rw[M];generalize sp++n.data++l.drop (a+1+I n.M+I n.data)=fin at*;simp;refine Zy K (by simp[ZK]) ?_;simp[Wp]
end Vm
namespace Vm
open Go Go.Proofs
def Qy(h:Hp):Prop:=(∀k,∀w∈Zx h k,ZB w)/\∀w∈h.E,ZB w
structure BOk (b:Bt):Prop where
 bf:(Zu b.h).aw
 hl:I b.ax=I b.g.nodes
 ol:I b.ah=I b.g.nodes
 nn:I b.g.nodes<=10
 ptr:∀n∈b.g.nodes,∀q∈n.M,q< (I b.g.nodes:Int)
 ug:∀n∈b.g.nodes,∀q∈n.data,ZB q
 ux:∀q∈b.g.E,q< (I b.g.nodes:Int)
 rl:I b.g.E<=5
 ax:∀(i:Nat) (p:Pl) (n:Nd),b.ax[i]?=J p->b.g.nodes[i]?=J n->p=⟨0,0⟩\/∃a:Nat,p.Y=a/\(p.part=1\/p.part=2)/\a+ZJ n<=I (Zx b.h p.part)
 ah:∀(i:Nat) (p:Pl) (n:Nd),b.ah[i]?=J p->b.g.nodes[i]?=J n->p=⟨0,0⟩\/∃a:Nat,p.Y=a/\(p.part=3\/p.part=4)/\a+ZJ n<=I (Zx b.h p.part)
 len:∀k,I (Zx b.h k)<=1000
 words:Qy b.h
theorem qq{h h'}(a:Zu h'=Zu h)k:I (Zx h' k)=I (Zx h k):=by
 grind [Zu,Zx]
def BOk.keep{b}(hb:BOk b){h'}(hl:Zu h'=Zu b.h)(hw:Qy h'):BOk {b with h:=h'} where
 bf:=by show(Zu h').aw;rw[hl];exact hb.bf
 hl:=hb.hl
 ol:=hb.ol
 nn:=hb.nn
 ptr:=hb.ptr
 ug:=hb.ug
 ux:=hb.ux
 rl:=hb.rl
 ax:=λi p n hp hn=>by
  obtain h|⟨a,h1,h2,h3⟩:=hb.ax i p n hp hn;grind;grind [qq]
 ah:=λi p n hp hn=>by
  obtain h|⟨a,h1,h2,h3⟩:=hb.ah i p n hp hn;grind;grind [qq]
 len:=λk=>by show I (Zx h' k)<=1000;rw[qq hl];exact hb.len k
 words:=hw
def DM{h p l}(d:I l=I (Zx h p)):Zu (Xj h p l)=Zu h:=by
 unfold Xj Zx at*;split;simp_all[Zu];split;simp_all[Zu];rename_i a;split;simp_all[Zu];simp_all[Zu]
def Z9i{h p l}(a:Qy h)(k:∀w∈l,ZB w):Qy<|Xj h p l:=by
 have d:=a.1 1;have f:=a.1 2;have g:=a.1 3;have j:=a.1 4;grind [Qy,Zx,Xj]
def Z3R{b p a n tw}(d:a+ZJ n<=I (Zx b.h p.part)):I (S6 b p a n tw)=I (Zx b.h p.part):=by
 grind [S6,ZJ,XI]
def Z3S{b p a n tw}(f:Qy b.h)(g:∀q∈n.data,ZB q):∀w∈S6 b p a n tw,ZB w:=by
 intro w d;unfold S6 at d;simp only[Zfy,Zg2]at d;obtain(((d|d)|d)|d)|d:=d;exact f.1 _ w<|Zgf d;subst d;have:=Z5E ((I n.M:Int)+I n.data)<|I n.M;exact⟨this.1,Z0⟩;simp[XI]at d;grind [Z8h];grind;exact f.1 _ w<|Zhl d
def Ui(x:Rw)(b:Bt)(i:Nat)(n:Nd)(p:Pl):Bt:=if 0<p.part then Wd b p n (IntKind.i64.wrap<|x.bc+i)else b
def Uk(b:Bt)(n:Nd)(p o:Pl):Bt:=if 0<o.part/\p.part=0 then Wd b o n 0 else b
def U0(b:Bt)(p o:Pl):Bt:=if 0<o.part/\0<p.part then {b with h:=Xj b.h o.part ((Zx b.h o.part).set o.Y.toNat<|YC b.h p)}else b
def QV(x:Rw)(b:Bt)(i:Nat):Bt:=
 let n:=(b.g.nodes[i]?).getD default;let p:=(b.ax[i]?).getD ⟨0,0⟩;let o:=(b.ah[i]?).getD ⟨0,0⟩
 U0 (Uk (Ui x b i n p) n p o) p o
structure Like (b b':Bt):Prop where
 g:b'.g=b.g
 ax:b'.ax=b.ax
 ah:b'.ah=b.ah
 bf:Zu b'.h=Zu b.h
 words:Qy b'.h
 aa:b'.h.aa=b.h.aa
 Z:b'.h.Z=b.h.Z
def Like.ok{b a}(o:Like b a)(n:BOk b):BOk a:=by
 let⟨q,p,d,f⟩:=a;obtain⟨g,h,j,k,l,_⟩:=o;subst g h j;exact n.keep k l
theorem Like.trans{a b c}(h:Like a b)(k:Like b c):Like a c:=⟨k.g.trans h.g,k.ax.trans h.ax,k.ah.trans h.ah,k.bf.trans h.bf,k.words,k.aa.trans h.aa,k.Z.trans h.Z⟩
def Pd h p l:(Xj h p l).aa=h.aa/\(Xj h p l).Z=h.Z:=by
 unfold Xj;grind
def Hu{b}(a:BOk b){p l}(d:I l=I (Zx b.h p))(f:∀w∈l,ZB w):Like b {b with h:=Xj b.h p l}:=
 ⟨rfl,rfl,rfl,DM d,Z9i a.words f,(Pd _ _ _).1,(Pd _ _ _).2⟩
def yB{b}(a:BOk b):Like b b:=⟨rfl,rfl,rfl,rfl,a.words,rfl,rfl⟩
def Ht{b}(d:BOk b){p:Pl}{n tw}{a:Nat}(f:p.Y=a)(g:a+ZJ n<=I (Zx b.h p.part))(j:∀q∈n.data,ZB q):Like b<|Wd b p n tw:=by
 unfold Wd;rw[f];exact Hu d (Z3R g)<|Z3S d.words j
def Bb{x b}(d:BOk b){i n p}(k:b.g.nodes[i]?=J n)(l:b.ax[i]?=J p):Like b<|Ui x b i n p:=by
 unfold Ui;split;rename_i f;obtain rfl|⟨a,h,o,j⟩:=d.ax i p n l k;simp at f;exact Ht d h j<|d.ug n Ze7;exact yB d
def Bc{b}(d:BOk b){i:Nat}{n p o}(k:b.g.nodes[i]?=J n)(l:b.ah[i]?=J o):Like b<|Uk b n p o:=by
 unfold Uk;split;rename_i f;obtain rfl|⟨a,h,q,j⟩:=d.ah i o n l k;simp at f;exact Ht d h j<|d.ug n Ze7;exact yB d
def Z3X{b}(a:BOk b){p o}:Like b<|U0 b p o:=by
 unfold U0;split;refine Hu a Z1 λw d=> ?_;obtain h|rfl:=ZgB d;exact a.words.1 _ w h;exact CO _ _;exact yB a
def Z3Y{x b}(a:BOk b){i}(f:i<I b.g.nodes):Like b<|QV x b i:=by
 have h:b.g.nodes[i]?=J b.g.nodes[i]:=Z1;have l:b.ax[i]?=J (b.ax[i]'(by rw[a.hl];exact f)):=Z1;have k:b.ah[i]?=J (b.ah[i]'(by rw[a.ol];exact f)):=Z1;unfold QV;simp[h,l,k];have d:=Bb (x:=x) a h l;have j:=Bc (p:=b.ax[i]'(by rw[a.hl];exact f)) (d.ok a) (by rw[d.g];exact h) (by rw[d.ah];exact k);exact(d.trans j).trans (Z3X<|j.ok<|d.ok a)
def Uj(x:Rw)(b:Bt):Nat->Bt
 |0=>b
 |i+1=>QV x (Uj x b i) i
def KS{x b}(a:BOk b):∀i,i<=I b.g.nodes->Like b (Uj x b i)
 |0,_=>yB a
 |i+1,d=>by
  have h:=KS (x:=x) a i Z0;exact h.trans<|Z3Y (h.ok a) (by rw[h.g];omega)
def YG(x:Rw)(b:Bt):Hp:=
 let a:=Uj x b<|I b.g.nodes
 {a.h with E:=b.g.E.map λr=>if 0<=r then YC a.h ((b.ax[r.toNat]?).getD ⟨0,0⟩)else 0}
def Z1M{x}(hx:x.ok){b}(F:BOk b):VC Sol.prog 46 xw [Wp b,WO x]<|ZK<|YG x b:=by
 refine ZW Sol.func46 follows Z2 c46 rfl ?_;simp[Mw,XK];refine VV 5 (I b.g.nodes) (λi=>[(2,.m<|XK<|Uj x b i),(5,.v<|vi i)]) (λ_=>True) (by simp[Uj,XK]) Z1 trivial ?_;rintro i hi-;have B:=KS (x:=x) F i hi;have K:=Zz ((i:Int)+1) (by have:=F.nn;omega) (by have:=F.nn;omega);by_cases h:i<I b.g.nodes;have f:=B.ok F;simp only[Uj];have H:i< (Uj x b i).g.nodes.length:=by rw[B.g];exact h
 generalize a4:Uj x b i=c at*;have y:c.g.nodes[i]?=J c.g.nodes[i]:=Z1;have C:c.ax[i]?=J (c.ax[i]'(by rw[f.hl];exact H)):=Z1;have A:c.ah[i]?=J (c.ah[i]'(by rw[f.ol];exact H)):=Z1;unfold QV;simp only[y,C,A,Zfw];generalize c.g.nodes[i]=n at*;generalize c.ax[i]'(by rw[f.hl];exact H)=p at*;generalize c.ah[i]'(by rw[f.ol];exact H)=o at*;have T:∀q∈n.M,q< (I c.ax:Int)/\q< (I c.ah:Int):=λq Z=>by
  have:=f.ptr n Ze7 q Z;rw[f.hl,f.ol];exact⟨this,this⟩
 have kA:=Bb (x:=x) f y C;have bA:=kA.ok f;have kO:=Bc (p:=p) bA (by rw[kA.g];exact y) (by rw[kA.ah];exact A);have bO:=kO.ok bA;have G:I c.g.nodes=I b.g.nodes:=by rw[B.g]
 have a6:=B.g;have R:0<p.part->VC Sol.prog 78 xw [Wp c,XV p,Yf n,vi<|IntKind.i64.wrap<|x.bc+i] (Wp<|Wd c p n<|IntKind.i64.wrap<|x.bc+i):=λP=>by
  obtain rfl|⟨a,L,Y,M⟩:=f.ax i p n C y;simp at P;exact Hj f.bf L (by have:=f.len p.part;omega) M T
 have O:0<o.part->VC Sol.prog 78 xw [Wp c,XV o,Yf n,vi 0] (Wp<|Wd c o n 0):=λP=>by
  obtain rfl|⟨a,L,Y,M⟩:=f.ah i o n A y;simp at P;exact Hj f.bf L (by have:=f.len o.part;omega) M T
 have a2:p.part=0\/0<p.part:=by
  obtain rfl|⟨a,L,Y,M⟩:=f.ax i p n C y;exact .inl rfl;exact .inr Z0
 have S:o.part=0\/0<o.part:=by
  obtain rfl|⟨a,L,Y,M⟩:=f.ah i o n A y;exact .inl rfl;exact .inr Z0
 obtain t|t:=a2;obtain j|j:=S;simp[XK,h,G,C,A,Wm y,Ui,Uk,U0,t,j,K];have a7:¬0<p.part:=Z0;have u:Like c<|Wd c o n 0:=by
  have:=Bc (p:=p) f y A;unfold Uk at this;rwa[if_pos ⟨j,t⟩]at this
 have a1:=O j;simp[XK,h,G,C,A,Wm y,Ui,Uk,U0,t,j,K];generalize Wd c o n 0=d at*;let⟨d1,d2,d3,d4,d5,_,_⟩:=u;refine Zy a1 (by simp[Wp]) ?_;simp[XK,d1,d2,d3,C,A,t,j,K];have z:¬p.part=0:=Z0;have u:Like c<|Wd c p n<|IntKind.i64.wrap<|x.bc+i:=by
  have:=Bb (x:=x) f y C;unfold Ui at this;rwa[if_pos t]at this
 have Q:=R t;have X:=u.ok f;obtain j|j:=S;simp[XK,h,G,C,A,Wm y,Ui,Uk,U0,t,j,z,K];generalize Wd c p n (IntKind.i64.wrap<|x.bc+i)=d at*;let⟨d1,d2,d3,d4,d5,_,_⟩:=u;refine Zy Q (by simp[Wp]) ?_;simp[XK,d1,d2,d3,C,A,t,j,z,K];simp[XK,h,G,C,A,Wm y,Ui,Uk,U0,t,j,z,K];generalize Wd c p n (IntKind.i64.wrap<|x.bc+i)=d at*;let⟨d1,d2,d3,d4,d5,_,_⟩:=u;refine Zy Q (by simp[Wp]) ?_;simp[XK,d1,d2,d3,C,A,t,j,z,K];obtain rfl|⟨a,L,Y,M⟩:=f.ah i o n A y;simp at j;have a5:=X.len o.part;have w:I (Zx d.h o.part)<=Y8:=ZeA;have a0:a< I (Zx d.h o.part):=by
  have:=qq d4 o.part;unfold ZJ at M;omega
 refine Zy (Ti (h:=d.h) (n:=o.part)) Z1 ?_;simp[w,C];refine Zy (Lv (b:=⟨d.h,c.g,c.ax,c.ah⟩) X.bf (p:=p)) Z1 ?_;simp[L,a0,A];have D:=Es (h:=d.h) (n:=o.part) (l:=(Zx d.h o.part).set a<|YC d.h p);rw[ZhN]at D;refine Zy D (by simp[ZK]) ?_;simp[K];have:i=I b.g.nodes:=Z0;subst this;have X:=B.ok F;unfold YG;generalize Uj x b (I b.g.nodes)=d at*;let⟨d1,d2,d3,d4,d5,_,_⟩:=B;simp[XK,d1,d2,d3];refine VV 13 (I b.g.E) (λk=>[(12,.v<|.sl ((b.g.E.take k).map λr=>vu (if 0<=r then YC d.h ((b.ax[r.toNat]?).getD ⟨0,0⟩)else 0))),(13,.v<|vi k)]) (λ_=>True) Z1 Z1 trivial ?_;rintro k hk-;have a8:=F.rl;have W:=Zz ((k:Int)+1) Z0 Z0;by_cases N:k<I b.g.E;have hr:b.g.E[k]?=J b.g.E[k]:=Z1;have a9:=F.ux _<|Zfq N;generalize b.g.E[k]=r at*;have a3:b.g.E.take (k+1)=b.g.E.take k++[r]:=by rw[ZfZ,hr];rfl
 have w:min k (I b.g.E)+1<=Y8:=ZeA;by_cases P:0<=r;obtain⟨q,rfl⟩:=Zfi P;have Z:b.ax[q]?=J (b.ax[q]'(by rw[F.hl];omega)):=Z1;generalize b.ax[q]'(by rw[F.hl];omega)=p at*;simp[N,Wm hr,Z];refine Zy (Lv (b:=⟨d.h,b.g,b.ax,b.ah⟩) X.bf (p:=p)) Z1 ?_;simp[W,w];rw[ZfZ,Zfl,hr];simp[Z];simp[Wm hr,P,W,w,a3,N];have:k=I b.g.E:=Z0;subst this;simp[ZK]
end Vm
namespace Vm
open Go Go.Proofs
def PIn(s:St8)(p:Pl)(sz:Nat):Prop:=p=⟨0,0⟩\/∃a:Nat,p.Y=a/\((p.part=1/\a+sz<=s.n1)\/(p.part=2/\a+sz<=s.n2))
def POl(s:St8)(p:Pl)(sz:Nat):Prop:=p=⟨0,0⟩\/∃a:Nat,p.Y=a/\((p.part=3/\a+sz<=s.n3)\/(p.part=4/\a+sz<=s.n4))
def Z8u{x cycle sz i s}:s.n1<=(X5 x cycle sz i s).n1/\s.n2<=(X5 x cycle sz i s).n2/\s.n3<=(X5 x cycle sz i s).n3/\s.n4<=(X5 x cycle sz i s).n4:=by
 grind [X5]
def PIn.mono{s t p sz}(h:PIn s p sz)(g:s.n1<=t.n1)(h2:s.n2<=t.n2):PIn t p sz:=by
 obtain h|⟨a,d,⟨f,h⟩|⟨f,h⟩⟩:=h;exact .inl h;exact .inr ⟨a,d,Z0⟩;exact .inr ⟨a,d,Z0⟩
def POl.mono{s t p sz}(h:POl s p sz)(g:s.n3<=t.n3)(h2:s.n4<=t.n4):POl t p sz:=by
 obtain h|⟨a,d,⟨f,h⟩|⟨f,h⟩⟩:=h;exact .inl h;exact .inr ⟨a,d,Z0⟩;exact .inr ⟨a,d,Z0⟩
def Ox{x cycle g}(h:∀n∈g.nodes,ZJ n<=9):∀i,i<=I g.nodes->∀(j:Nat) n,g.nodes[j]?=J n->
  (∀p,(Y4 x cycle g i).ax[j]?=J p->PIn (Y4 x cycle g i) p (ZJ n))/\(∀p,(Y4 x cycle g i).ah[j]?=J p->POl (Y4 x cycle g i) p (ZJ n))
 |0,_,j,n,l=>⟨λp a=>by simp[Y4]at a,λp a=>by simp[Y4]at a⟩
 |i+1,C,j,n,l=>by
  let⟨o,q⟩:=Ox (x:=x) (cycle:=cycle) h i Z0 j n l;let⟨_,_,u,w⟩:=LQ (x:=x) (cycle:=cycle) h i Z0;have f:g.nodes[i]?=J g.nodes[i]:=Z1;simp[Y4,f,Zfw];generalize Y4 x cycle g i=s at*;let⟨y,z,A,B⟩:=Z8u (x:=x) (cycle:=cycle) (sz:=ZJ g.nodes[i]) (i:=i) (s:=s);have t:j<I g.nodes:=Ze7;constructor;intro p a;by_cases r:j<i;have:s.ax[j]?=J p:=by
   simp[X5]at a;rwa[Zfx Z0]at a
  exact(o p this).mono y z;by_cases d:j=i;subst d;simp[X5]at a;rw[Zfs Z0,u,Zh1]at a;simp[Zf2]at a;unfold PIn;obtain k|k|⟨k,rfl⟩:=SQ x j cycle;grind [X5];grind [X5];simp_all;grind [X5,List.getElem?_eq_some_iff];intro p a;by_cases r:j<i;have:s.ah[j]?=J p:=by
   simp[X5]at a;rwa[Zfx Z0]at a
  exact(q p this).mono A B;by_cases d:j=i;subst d;simp[X5]at a;rw[Zfs Z0,w,Zh1]at a;grind [List.getElem?_cons_zero,Option.some.injEq,POl,decide,V1,Wz,X5];grind [X5,List.getElem?_eq_some_iff]
def Ic l a:∀n∈(ZU l a).nodes,∀q∈n.M,-1<=q/\q< ((ZU l a).nodes.length:Int):=by
 intro n d q f;rw[yJ];simp only[ZU,Zfj]at d;obtain⟨y,_,rfl⟩:=d;simp only[T4,Zfj]at f;obtain⟨p,_,rfl⟩:=f;exact NO
def Z4u l a:∀q∈(ZU l a).E,-1<=q/\q< ((ZU l a).nodes.length:Int):=by
 intro q d;rw[yJ];simp only[ZU]at d;split at d;grind;simp only[Zfj]at d;obtain⟨p,_,rfl⟩:=d;exact NO
def Z4s l a(f:∀n∈l,∀q∈n.data,ZB q):∀n∈(ZU l a).nodes,∀q∈n.data,ZB q:=by
 intro n d q g;simp only[ZU]at d;grind [T4,List.mem_of_mem_take]
def Rx{x}(hx:x.ok)cycle:BOk (YQ x cycle)/\Yr (YQ x cycle).h.aa/\ZI (Zu (YQ x cycle).h)=xk:=by
 let⟨w,u,y⟩:=Bu x.nodes x.E;have z:=yJ x.nodes x.E;have L:=Ic x.nodes x.E;have M:=Z4u x.nodes x.E;have A:=Z4s x.nodes x.E hx.data;unfold YQ;generalize ZU x.nodes x.E=g at*;have t:∀n∈g.nodes,ZJ n<=9:=λn K=>by grind [ZJ]
 let⟨N,O,D,F⟩:=LQ (x:=x) (cycle:=cycle) t (I g.nodes) Z0;have r:=Ox (x:=x) (cycle:=cycle) t (I g.nodes) Z0;dsimp only;generalize Y4 x cycle g (I g.nodes)=s at*;have B:=TC (c:=x.bc) (n:=12) Z0;have C:=TC (c:=x.to) (n:=2) Z0;obtain⟨cap,q⟩:∃cap,max ((s.n1:Int)+s.n2+s.wt) ((s.n3:Int)+s.n4)+pick x.bc 12=cap:=⟨_,rfl⟩;rw[q];have G:=Zj2 x.base (Z0:(9223372036854775808-2*cap)≠0);have H:=ZiB x.base (Z0:0< (9223372036854775808-2*cap));generalize x.base% (9223372036854775808-2*cap)=base at*;have l:Yr (if cycle=xk/\0<s.n1 then pick x.aa s.n1 else s.n1):=by
  split;rename_i h;have:=TC (c:=x.aa) (n:=s.n1) Z0;exact⟨Z0,Z0⟩;exact⟨Z0,Z0⟩
 refine⟨⟨?_,?_,?_,?_,?_,?_,?_,?_,?_,?_,?_,?_⟩,l,?_⟩;refine⟨⟨?_,?_⟩,⟨?_,?_⟩,⟨?_,?_⟩,⟨?_,?_⟩,⟨?_,?_⟩,⟨?_,?_⟩,⟨?_,?_⟩⟩<;>simp[Zu]<;>omega;exact D;exact F;simp_all;grind;exact A;simp_all;exact u;intro i p n j f;rcases(r i n f).1 p j with h|⟨a,o,⟨d,h⟩|⟨d,h⟩⟩;grind;exact .inr ⟨a,o,.inl d,Ze8⟩;exact .inr ⟨a,o,.inr d,Ze8⟩;intro i p n j f;rcases(r i n f).2 p j with h|⟨a,o,⟨d,h⟩|⟨d,h⟩⟩;grind;exact .inr ⟨a,o,.inl d,Ze8⟩;exact .inr ⟨a,o,.inr d,Ze8⟩;grind [Zx];refine⟨λk=> ?_,Z1⟩;grind [List.replicate,ZB,Zx];refine Ww.2 ?_;simp[Zu,Zj6];omega
def Ry(x:Rw):Hp:=YG x<|YQ x xw
def t5{x}(hx:x.ok):VC Sol.prog 35 xw [WO x]<|ZK<|Ry x:=by
 refine ZW Sol.func35 follows Z2 c35 rfl ?_;simp[Mq];refine Zy (Z8v hx (cycle:=xw)) Z1 ?_;refine Zy (Z1M hx (Rx hx xw).1) Z1 ?_;simp;rfl
def Ab{x b}(k:BOk b)(q:Yr b.h.aa):(YG x b).ok/\Zu (YG x b)=Zu b.h/\(YG x b).aa=b.h.aa/\(YG x b).Z=b.h.Z:=by
 have f:=KS (x:=x) k (I b.g.nodes) Z0;have n:=f.ok k;unfold YG;let⟨j,A,B,C,D,F,G,H,K,o,a,d⟩:=n;have t:=a 1;have u:=a 2;have y:=a 3;have z:=a 4;have w1:=d.1 1;have w2:=d.1 2;have w3:=d.1 3;have w4:=d.1 4;simp[Vg,qp,Cb,Li]at t u y z w1 w2 w3 w4;have p:=k.rl;refine⟨⟨j.1,j.2.1,j.2.2.1,by rw[f.aa];exact q,?_,?_,?_,?_,?_,w1,w2,w3,w4,?_⟩,f.bf,f.aa,f.Z⟩;grind;grind;grind;grind;simp;omega;intro w l;simp[Zfj]at l;obtain⟨r,_,rfl⟩:=l;split;exact CO _ _;exact⟨Z0,Z0⟩
end Vm
end
section

end
section
namespace Vm
open Go Go.Proofs
structure Ob where
 Y:Int
 size:Int
 M:Int
 gone:Bool
 target:Int
 deriving DecidableEq,Inhabited
def ZQ(o:Ob):V:=.agg [vi o.Y,vi o.size,vi o.M,.bool o.gone,vu o.target]
@[simp]theorem ZdB(o:Ob):Vz (ZQ o) 5=J (ZQ o):=rfl
@[simp]theorem ZbS(o:Ob):Um (ZQ o) 0 5=J (ZQ o):=rfl
@[simp]theorem Zcu(o:Ob):(ZQ o).cells=[vi o.Y,vi o.size,vi o.M,.bool o.gone,vu o.target]:=rfl
@[simp]theorem Zbw(o:Ob):Y0 (ZQ o) 0=J (vi o.Y):=rfl
@[simp]theorem Zbx(o:Ob):Y0 (ZQ o) 1=J (vi o.size):=rfl
@[simp]theorem Zby(o:Ob):Y0 (ZQ o) 2=J (vi o.M):=rfl
@[simp]theorem Zbz(o:Ob):Y0 (ZQ o) 3=J (.bool o.gone):=rfl
@[simp]theorem ZbA(o:Ob):Y0 (ZQ o) 4=J (vu o.target):=rfl
@[simp]theorem ZbT(o:Ob):Um (ZQ o) 1 2=J (JK o.size o.M):=rfl
abbrev Zh:=List Ob
@[simp]theorem Zdn(l:Zh):Xq 5 (l.map ZQ)=xk:=JL λ_=>rfl
def Wj(s:Int×Int):V:=JK s.1 s.2
@[simp]theorem Zdi(s:Int×Int):(Wj s).cells=[vi s.1,vi s.2]:=rfl
@[simp]theorem ZdE(s:Int×Int):Vz (Wj s) 2=J (Wj s):=rfl
@[simp]theorem ZbV(s:Int×Int):Um (Wj s) 0 2=J (Wj s):=rfl
@[simp]theorem ZbK(s:Int×Int):Y0 (Wj s) 0=J (vi s.1):=rfl
@[simp]theorem ZbL(s:Int×Int):Y0 (Wj s) 1=J (vi s.2):=rfl
@[simp]theorem Zdp(l:List<|Int×Int):Xq 2 (l.map Wj)=xk:=JL λ_=>rfl
def VM(w:Int):Bool:=decide (w=0)||decide ((adr w).2=0)
def XJ(l:Z8)(gone:Bool)(ptrs:Int)(i:Nat):Bool:=
 match l with
 | []=>xk
 |w::l=>(!gone||decide (w=0))&&(!decide ((i:Int)<ptrs)||VM w)&&XJ l gone ptrs (i+1)
def Z8l{l:Z8}{gone:Bool}{ptrs:Int}{i:Nat}{w:Int}(h:l[i]?=J w):XJ (l.drop i) gone ptrs i=((!gone||decide (w=0))&&(!decide ((i:Int)<ptrs)||VM w)&&XJ (l.drop<|i+1) gone ptrs (i+1)):=by
 obtain⟨a,d⟩:=Zf3.1 h;rw[Zg7 a,d];rfl
def Wf(shs:List<|Int×Int)(old:Bool)(at_ a:Nat)(w:Int):Option<|Ob×Nat:=
 if old=xk/\(adr w).2=0 then
  match shs[a]? with
  |none=>U
  |some s=>if YJ s.1 s.2 then J (⟨at_,s.1,s.2,xk,(adr w).1⟩,a+1)else U
 else if(ZR w).2.2=0 then J (⟨at_,(ZR w).1,(ZR w).2.1,xw,0⟩,a)else U
def DB{w:Int}(h:(ZR w).2.2=0):YJ (ZR w).1 (ZR w).2.1=xk:=by
 unfold ZR at*;grind
def yX{shs:List (Int×Int)}{old:Bool}{at_ d:Nat}{w:Int}{o:Ob}{t:Nat}(h:Wf shs old at_ d w=J (o,t)):YJ o.size o.M=xk/\o.Y=at_:=by
 unfold Wf at h;split at h;grind;split at h;rename_i a;cases h;exact⟨DB a,rfl⟩;cases h
def Xl(ws:Z8)(shs:List<|Int×Int)(old:Bool):Nat->Nat->Nat->List Ob->List Ob×Int
 |0,_,_,_=>([],3)
 |f+1,at_,d,a=>
  match ws[at_]? with
  |none=>if d<(I shs) then([],3)else(a,0)
  |some w=>match Wf shs old at_ d w with
   |none=>([],3)
   |some (o,t)=>
    if(I ws:Int)<at_+1+o.size then([],2)
    else if XJ ((ws.drop<|at_+1).take o.size.toNat) o.gone o.M 0=xw then([],3)
    else Xl ws shs old f (at_+1+o.size.toNat) t<|a++[o]
def ZO(ws:Z8)(shs:List<|Int×Int)(old:Bool):List Ob×Int:=Xl ws shs old (I ws+1) 0 0 []
def QG(n:Nat)(o:Ob):Prop:=(∃a:Nat,o.Y=a/\(a:Int)+1+o.size<=n)/\YJ o.size o.M=xk
def Z50{shs:List (Int×Int)}{old:Bool}{at_ d:Nat}{w:Int}{o:Ob}{t:Nat}(a:ZB w)(h:Wf shs old at_ d w=J (o,t)):ZB o.target:=by
 unfold Wf at h;split at h;split at h;cases h;split at h;cases h;obtain⟨f,g⟩:=a;show 0<=(adr w).1/\(adr w).1<18446744073709551616;grind [adr];cases h;split at h;cases h;show(0:Int)<=0/\(0:Int)<18446744073709551616;omega;cases h
def P6{ws:Z8}{shs:List (Int×Int)}{old:Bool}(k:∀w∈ws,ZB w):∀(f at_ l:Nat) (d:Zh),(∀o∈d,QG (I ws) o/\ZB o.target)->∀o∈(Xl ws shs old f at_ l d).1,QG (I ws) o/\ZB o.target
 |0,_,_,_,_=>by simp[Xl]
 |f+1,at_,l,d,a=>by
  simp only[Xl];split;split;simp;exact a;rename_i w q;split;simp;rename_i o t j;split;simp;rename_i u;split;simp;refine P6 k f _ _ _ λr g=> ?_;obtain h|h:=Zfy.1 g;exact a r h;simp only[Zg2]at h;subst h;obtain⟨n,p⟩:=yX j;exact⟨⟨⟨at_,p,Z0⟩,n⟩,Z50 (k w<|Zfc q) j⟩
def JS{ws:Z8}{shs:List (Int×Int)}{old:Bool}(a:∀w∈ws,ZB w):∀o∈(ZO ws shs old).1,QG (I ws) o/\ZB o.target:=P6 a _ _ _ _ Z1
def P7{ws:Z8}{shs:List (Int×Int)}{old:Bool}:∀(f at_ g:Nat) (a:Zh),at_<=I ws->I a<=at_->(Xl ws shs old f at_ g a).1.length<=I ws
 |0,_,_,_,_,_=>by simp[Xl]
 |f+1,at_,g,a,k,d=>by
  simp only[Xl];split;split;simp;simp only;omega;split;simp;rename_i o t h;split;simp;rename_i l;split;simp;have j:=YE.1 (yX h).1;refine P7 f _ _ _ Z0 Ze9
def JT{ws:Z8}{shs:List (Int×Int)}{old:Bool}:(ZO ws shs old).1.length<=I ws:=P7 _ _ _ _ Z0 Z1
end Vm
end
section

end
section
namespace Vm
open Go Go.Proofs
def YW(h:Hp)(part at_:Int):Int:=(Y5 (Zu h) part at_).1
def Yz(h:Hp)(part:Int)(l:Zh)(a:Int):Option Ob:=l.find? λo=>YW h part o.Y==a
theorem EU{h:Hp}{part a:Int}{l:Zh}{o:Ob}(d:Yz h part l a=J o):o∈l:=ZhJ d
def V9(h:Hp)(ws:Z8)(low:Zh):Nat->Nat->List (Int×Int)->Option (List<|Int×Int)
 |0,_,_=>U
 |f+1,i,a=>
  match ws[i]? with
  |none=>J a
  |some w=>if(adr w).2=0 then(match Yz h 1 low (adr w).1 with|none=>U|some o=>V9 h ws low f (i+1+o.size.toNat)<|a++[(o.size,o.M)])
   else if(ZR w).2.2=0 then V9 h ws low f (i+1+(ZR w).1.toNat) a else U
def Vy(h:Hp)(ws:Z8)(low:Zh):Option<|List<|Int×Int:=V9 h ws low (I ws+1) 0 []
structure Pts where
 H:List Ob
 ac:List Ob
 ah:List Ob
 aj:List Ob
 deriving Inhabited
def Pts.at(p:Pts)(k:Int):List Ob:=if k=1 then p.H else if k=2 then p.ac else if k=3 then p.ah else p.aj
@[simp]theorem Pts.mq(p:Pts):p.at 1=p.H:=rfl
@[simp]theorem Pts.ue(p:Pts):p.at 2=p.ac:=rfl
@[simp]theorem Pts.kx(p:Pts):p.at 3=p.ah:=rfl
@[simp]theorem Pts.ky(p:Pts):p.at 4=p.aj:=rfl
structure Pts.ok (p:Pts) (h:Hp):Prop where
 ob:∀k,∀o∈p.at k,QG (I<|Zx h k) o/\ZB o.target
 len:∀k,I (p.at k)<=1000000
def Xp(h:Hp):Option Pts:=
 let low:=ZO h.H [] xw;let high:=ZO h.ac [] xw
 if low.2≠0\/high.2≠0 then U else
 let p:=Vy h h.ah low.1;let q:=Vy h h.aj low.1;let d:=ZO h.ah (p.getD []) xk;let a:=ZO h.aj (q.getD []) xk
 if p=U\/q=U\/d.2≠0\/a.2≠0 then U else J ⟨low.1,high.1,d.1,a.1⟩
def Z5K{h:Hp}(a:h.ok){p:Pts}(f:Xp h=J p):p.ok h:=by
 unfold Xp at f;dsimp only at f;split at f;cases f;split at f;cases f;cases f;refine⟨λk o d=> ?_,λk=> ?_⟩;unfold Pts.at at d;unfold Zx;split at d;rename_i e;rw[if_pos e];exact JS a.gh o d;rename_i g;rw[if_neg g];split at d;rename_i e;rw[if_pos e];exact JS a.gu o d;rename_i j;rw[if_neg j];split at d;rename_i e;rw[if_pos e];exact JS a.ma o d;rename_i e;rw[if_neg e];exact JS a.lj o d;unfold Pts.at;split;exact ZfB JT a.H;split;exact ZfB JT a.ac;split;exact ZfB JT a.ah;exact ZfB JT a.aj
def Xu(h:Hp)(p:Pts)(w one a:Int):Bool:=decide (w=0)||(decide ((adr w).2=0)&&((Yz h one (p.at one) (adr w).1).isSome||(Yz h a (p.at a) (adr w).1).isSome))
def XY(o:Ob):Nat:=if o.gone then 0 else 1+o.size.toNat
def Y1(l:Zh):Nat:=(l.map XY).sum
def Pu{l:Zh}{i:Nat}{o:Ob}(h:l[i]?=J o):Y1 (l.take<|i+1)=Y1 (l.take i)+XY o:=by
 simp_all[Y1,ZfZ,Zgg,Ziu]
def QB{l:Zh}(h:∀o∈l,YJ o.size o.M=xk):Y1 l<=256*I l:=by
 induction l with
 |nil=>simp[Y1]
 |cons o l a=>
  grind [YE,XY,Y1,List.length_cons]
def Xb(p:Pts):Nat:=Y1 p.ah+Y1 p.aj
def YX(l:Zh)(a:Int):Nat:=I (l.filter λo=>o.gone&&decide (o.target=a))
def UE(p:Pts)(a:Int):Nat:=YX p.ah a+YX p.aj a
def Ty(h:Hp):Bool:=
 ZI (Zu h)&&decide (I h.E<=16)&&decide (0<=h.aa)&&decide (h.aa<=I h.H)&&
  (if h.Z then decide (h.aa<I h.H)else decide (h.aa=I h.H)&&decide (I h.ah=0)&&decide (I h.aj=0))
def U8(h:Hp)(p:Pts)(part:Int)(k:Nat):Bool:=
 let w:=((Zx h part)[k]?).getD 0;let a:=Xu h p w 1 2;let from_:=Xu h p w 3 4
 if 2<part then from_ else if part=1/\h.aa<=k then a||from_ else a
def yW(h:Hp)(p:Pts)(part:Int)(o:Ob):Bool:=(List.range o.M.toNat).all λj=>U8 h p part<|o.Y.toNat+1+j
def WG(h:Hp)(p:Pts)(part:Int):Bool:=(p.at part).all<|yW h p part
def EA{α:Type}{q:α->Bool}{l:List α}{i:Nat}{x:α}(h:l[i]?=J x):(l.take<|i+1).all q=((l.take i).all q&&q x):=by
 rw[ZfZ,h,List.all_append];simp
def Z03{α:Type}{q:α->Bool}{l:List α}{i:Nat}{x:α}(h:l[i]?=J x)(a:q x=xw):l.all q=xw:=by
 grind
def Rz(h:Hp)(p:Pts)(o:Ob):Bool:=decide (UE p (YW h 1 o.Y)=1)
def So(h:Hp)(p:Pts):Bool:=
 (!h.Z||p.H.all (Rz h p))&&h.E.all (λw=>Xu h p w 1 2)&&WG h p 1&&WG h p 2&&WG h p 3&&WG h p 4&&decide ((I h.H:Int)+I h.ac+Xb p<=h.cap)
def YI(h:Hp):Bool:=Ty h&&match Xp h with
 |none=>xw
 |some p=>So h p
def XG{h:Hp}(a:h.ok)(k:Int):(∀w∈Zx h k,ZB w)/\I (Zx h k)<=1000000:=by
 unfold Zx;split;exact⟨a.gh,a.H⟩;split;exact⟨a.gu,a.ac⟩;split;exact⟨a.ma,a.ah⟩;exact⟨a.lj,a.aj⟩
def Z99{h:Hp}{p:Pts}(a:p.ok h):Xb p<=512*1000000:=by
 have f:=QB (l:=p.at 3) λo d=>(a.ob 3 o d).1.2;have g:=QB (l:=p.at 4) λo d=>(a.ob 4 o d).1.2;have j:=a.len 3;have k:=a.len 4;grind [Pts.kx,Pts.ky,Xb]
def Z7b{h:Hp}(a:YI h=xk):∃p,Xp h=J p/\So h p=xk/\Ty h=xk:=by
 unfold YI at a;grind
def Uw(h:Hp)(part:Int):List Ob×Int:=if YI h=xk/\1<=part/\part<=4 then(((Xp h).getD default).at part,0)else([],1)
end Vm
end
section

end
section
namespace Vm
open Go Go.Proofs
def Z01{w:Int}(a:ZB w):ZB (adr w).1:=by
 grind [ZB,adr]
def Z1O{l:Ly}{a:Int}(h:(Yg l a).2.2=0):ZI l=xk/\1<=(Yg l a).1/\(Yg l a).1<=4/\0<=(Yg l a).2.1/\(Yg l a).2.1<YP l (Yg l a).1/\a=fstL l (Yg l a).1+(Yg l a).2.1:=by
 unfold Yg at*;cases k:ZI l;grind;simp only[k]at h⊢;simp only[ZhR,Zg3]at h⊢;by_cases d:X2 l a 1=xk;rw[if_pos d];have:=S5.1 d;grind;rw[if_neg d]at h⊢;by_cases f:X2 l a 2=xk;rw[if_pos f];have:=S5.1 f;grind;rw[if_neg f]at h⊢;by_cases g:X2 l a 3=xk;rw[if_pos g];have:=S5.1 g;grind;rw[if_neg g]at h⊢;by_cases j:X2 l a 4=xk;rw[if_pos j];have:=S5.1 j;grind;simp_all
theorem Td{h:Hp}{k:Int}(a:1<=k/\k<=4):YP (Zu h) k=I (Zx h k):=by
 have:k=1\/k=2\/k=3\/k=4:=Z0;obtain rfl|rfl|rfl|rfl:=this<;>rfl
def Hp.zero:Hp:=⟨0,0,0,xw,0,[],[],[],[],[]⟩
def zr(ws:List Int)(a:Nat):Nat->List Int
 |0=>ws
 |i+1=>(zr ws a i).set (a+i) 0
@[simp]theorem ju(ws:List Int)(a n:Nat):I (zr ws a n)=I ws:=by
 induction n with
 |zero=>rfl
 |succ n d=>simp[zr,d]
def Xo(h:Hp)(part:Int)(a n:Nat):Hp:= {h with H:=h.H++((Zx h part).take<|a+n).drop a}
def R2(h:Hp)(part:Int)(a n:Nat):Int×Hp×Int:=
 if I (Zx h part)<a+n then(0,Hp.zero,2)
 else if XQ (Zu h)<n then(0,Hp.zero,7)
 else
  let d:=(XH (Y5 (Zu<|Xo h part a n) 1<|I h.H).1).1
  (d,Xj (Xo h part a n) part<|(zr (Zx h part) a n).set a d,0)
def Z00{l:Ly}{k a:Int}:ZB (Y5 l k a).1:=by
 unfold Y5;cases d:ZI l;simp[ZB];simp only[ZhR,Zg3];split;simp[ZB];split;simp[ZB];have:=WQ d k;grind [ZB]
def Nf{a:Int}:ZB (XH a).1:=by
 grind [XH,ZB]
def fwd(h:Hp)(w:Int):Int×Hp×Int:=
 if ZI (Zu h)=xw then(0,Hp.zero,1)
 else if w=0 then(0,h,0)
 else if(adr w).2≠0 then(0,Hp.zero,3)
 else if(Yg (Zu h) (adr w).1).2.2≠0 then(0,Hp.zero,6)
 else if(Yg (Zu h) (adr w).1).1<3 then(w,h,0)
 else if(adr<|(Zx h (Yg (Zu h) (adr w).1).1).getD (Yg (Zu h) (adr w).1).2.1.toNat 0).2=0 then((Zx h (Yg (Zu h) (adr w).1).1).getD (Yg (Zu h) (adr w).1).2.1.toNat 0,h,0)
 else if(ZR<|(Zx h (Yg (Zu h) (adr w).1).1).getD (Yg (Zu h) (adr w).1).2.1.toNat 0).2.2≠0 then(0,Hp.zero,3)
 else R2 h (Yg (Zu h) (adr w).1).1 (Yg (Zu h) (adr w).1).2.1.toNat<|(ZR<|(Zx h (Yg (Zu h) (adr w).1).1).getD (Yg (Zu h) (adr w).1).2.1.toNat 0).1.toNat+1
end Vm
namespace Vm
open Go Go.Proofs
@[simp]theorem Z9L(k:IntKind)(a b c d e f:Int):Y9 (.agg [.int k a,.int k b,.int k c,.int k d,.int k e,.int k f]) (.int .i64 0) 6 1 xw=J (.int k a):=rfl
@[simp]theorem Z9R(a b c d e f:Bool):Y9 (.agg [.bool a,.bool b,.bool c,.bool d,.bool e,.bool f]) (.int .i64 0) 6 1 xw=J (.bool a):=rfl
@[simp]theorem Z9M(k:IntKind)(a b c d e f:Int):Y9 (.agg [.int k a,.int k b,.int k c,.int k d,.int k e,.int k f]) (.int .i64 1) 6 1 xw=J (.int k b):=rfl
@[simp]theorem Z9S(a b c d e f:Bool):Y9 (.agg [.bool a,.bool b,.bool c,.bool d,.bool e,.bool f]) (.int .i64 1) 6 1 xw=J (.bool b):=rfl
@[simp]theorem Z9N(k:IntKind)(a b c d e f:Int):Y9 (.agg [.int k a,.int k b,.int k c,.int k d,.int k e,.int k f]) (.int .i64 2) 6 1 xw=J (.int k c):=rfl
@[simp]theorem Z9T(a b c d e f:Bool):Y9 (.agg [.bool a,.bool b,.bool c,.bool d,.bool e,.bool f]) (.int .i64 2) 6 1 xw=J (.bool c):=rfl
@[simp]theorem Z9O(k:IntKind)(a b c d e f:Int):Y9 (.agg [.int k a,.int k b,.int k c,.int k d,.int k e,.int k f]) (.int .i64 3) 6 1 xw=J (.int k d):=rfl
@[simp]theorem Z9U(a b c d e f:Bool):Y9 (.agg [.bool a,.bool b,.bool c,.bool d,.bool e,.bool f]) (.int .i64 3) 6 1 xw=J (.bool d):=rfl
@[simp]theorem Z9P(k:IntKind)(a b c d e f:Int):Y9 (.agg [.int k a,.int k b,.int k c,.int k d,.int k e,.int k f]) (.int .i64 4) 6 1 xw=J (.int k e):=rfl
@[simp]theorem Z9V(a b c d e f:Bool):Y9 (.agg [.bool a,.bool b,.bool c,.bool d,.bool e,.bool f]) (.int .i64 4) 6 1 xw=J (.bool e):=rfl
@[simp]theorem Z9Q(k:IntKind)(a b c d e f:Int):Y9 (.agg [.int k a,.int k b,.int k c,.int k d,.int k e,.int k f]) (.int .i64 5) 6 1 xw=J (.int k f):=rfl
@[simp]theorem Z9W(a b c d e f:Bool):Y9 (.agg [.bool a,.bool b,.bool c,.bool d,.bool e,.bool f]) (.int .i64 5) 6 1 xw=J (.bool f):=rfl
end Vm
namespace Vm
open Go Go.Proofs
def Z9h{h:Hp}(A:h.ok){k:Int}{l:List Int}(o:I l<=1000000)(h2:∀w∈l,ZB w):(Xj h k l).ok:=by
 obtain⟨a,d,f,g,p,q,r,t,j,u,x,y,z,n⟩:=A;unfold Xj;split;exact⟨a,d,f,g,o,q,r,t,j,h2,x,y,z,n⟩;split;exact⟨a,d,f,g,p,o,r,t,j,u,h2,y,z,n⟩;split;exact⟨a,d,f,g,p,q,o,t,j,u,x,h2,z,n⟩;exact⟨a,d,f,g,p,q,r,o,j,u,x,y,h2,n⟩
end Vm
end
section
namespace Vm
open Go Go.Proofs
def jp{n:Nat}{x:V}(h:Xi Try.prog (n+1) 3 x):∃m,x=vi m/\Yr m:=by
 obtain⟨m,rfl,a,d⟩:=OP Try.underlying3 h;exact⟨m,rfl,a,d⟩
def OU{n:Nat}{x:V}(h:Xi Try.prog (n+1) 24 x):∃m,x=vu m/\ZB m:=by
 obtain⟨m,rfl,a,d⟩:=OP Try.underlying24 h;exact⟨m,rfl,a,Int.lt_of_le_of_lt d Zeo⟩
def DA{n:Nat}{x:V}(h:Xi Try.prog (n+2) 23 x):∃l:Z8,x=.sl (l.map vi)/\I l<=maxLen/\∀p∈l,Yr p:=
 Dz Try.underlying23 h λy a=>jp a
def Z8X{n:Nat}{x:V}(h:Xi Try.prog (n+2) 35 x):∃l:Z8,x=.sl (l.map vu)/\I l<=maxLen/\∀p∈l,ZB p:=
 Dz Try.underlying35 h λy a=>OU a
def Nd.aw(x:Nd):Prop:=(I x.M<=maxLen/\∀p∈x.M,Yr p)/\I x.data<=maxLen/\∀p∈x.data,ZB p
def Z8U{n:Nat}{x:V}(h:Xi Try.prog (n+3) 105 x):∃a:Nd,x=Yf a/\a.aw:=by
 obtain⟨q,rfl,o,d⟩:=OQ Try.underlying105 h
 match q,o with
 | [a,b],_=>
   obtain⟨p,rfl,g,j⟩:=DA<|d 0 _ a rfl rfl;obtain⟨f,rfl,k,l⟩:=Z8X<|d 1 _ b rfl rfl;exact⟨⟨p,f⟩,rfl,⟨g,j⟩,k,l⟩
def Z8V{n:Nat}{x:V}(h:Xi Try.prog (n+4) 22 x):∃l:List Nd,x=.sl (l.map Yf)/\I l<=maxLen/\∀a∈l,a.aw:=
 Dz Try.underlying22 h λy d=>Z8U d
def Z8W{n:Nat}{x:V}(h:Xi Try.prog (n+5) 26 x):∃r:Rw,x=WO r/\r.ok:=by
 obtain⟨F,rfl,B,j⟩:=OQ Try.underlying26 h
 match F,B with
 | [a,b,c,d,e,f,g],_=>
   obtain⟨C,rfl,_,o⟩:=Z8V<|j 0 _ a rfl rfl;obtain⟨D,rfl,_,t⟩:=DA<|j 1 _ b rfl rfl;obtain⟨q,rfl,_,u⟩:=DA<|j 2 _ c rfl rfl;obtain⟨d,rfl,w⟩:=OU<|j 3 _ d rfl rfl;obtain⟨e,rfl,y⟩:=jp<|j 4 _ e rfl rfl;obtain⟨f,rfl,z⟩:=jp<|j 5 _ f rfl rfl;obtain⟨g,rfl,A⟩:=jp<|j 6 _ g rfl rfl;exact⟨⟨C,D,q,d,e,f,g⟩,rfl,λn k p l=>(o n k).1.2 p l,λn k p l=>(o n k).2.2 p l,t,u,w,y,z,A⟩
def own:ownKnob Try.prog.godebug=U:=Z2
def laidOut:laidOutB Try.prog=xk:=Z2
end Vm
end
section
namespace Vm
open Go Go.Proofs Go.RowKit
section
section
variable {P:Z5}{w:Z3}
def Z9s{o:Oper}{a:Act}{K:Zn}{Q:Ze}(s x:Operand)(t:Zi)
  (G:o.op=.call {callee:=.builtin .append,args:=#[s,x],argTypes:=#[t,t]}) {e:Zi} (M:P.underlying t=J (.slice e)) (p:Ug P e=xk)
  {B n:Nat} {v y:Zf} {xs:Zm} (L:a.eval s=v) (hx:a.eval x=y) (k:w.ownsRow B e (P.cellsOf e) v n xs) (D:B<=xz (xj w))
  {Gy:Z4} {l:Zr} (N:Rd w Gy (.sl l) y) (F:Xq (P.cellsOf e) l=xk) (j:n+I l<=Y8)
  (h:∀g f d,f.ownsRow B e (P.cellsOf e) g (n+I l) (xs++d)->w.grownBy f v.ownBlock->(g.ownBlock=v.ownBlock\/(w.grownBy f U/\f.ownsRow (xz<|xj w) e (P.cellsOf e) g (n+I l) (xs++d)))->
   (∀(i:Nat) (q:V),(flat l)[i]?=J q->∃u,d[i]?=J u/\Rd w Gy q u)->K (a.put o.dst g) f):o.wp P a w K Q:=by
 obtain⟨g,f,d,H,r,z,A,_,C⟩:=qQ (ty:=o.type) M p k D N F j;unfold Oper.wp execOp;simp only[G,resolve,invoke,builtin,ZfO,ZhD,ZfL,List.map_toArray,ZfA,Zgn,L,hx,H];exact h g f d r z A C
def Pn{ops:Zl}{rest:List Oper}{o:Oper}{a:Act}{Q:Ze}(q:o.guard=U)(s x:Operand)(t:Zi)
  (K:o.op=.call {callee:=.builtin .append,args:=#[s,x],argTypes:=#[t,t]}) {e:Zi} (M:P.underlying t=J (.slice e)) (p:Ug P e=xk)
  {B n:Nat} {v y:Zf} {xs:Zm} (L:a.eval s=v) (hx:a.eval x=y) (k:w.ownsRow B e (P.cellsOf e) v n xs) (F:B<=xz (xj w))
  {Gy:Z4} {l:Zr} (N:Rd w Gy (.sl l) y) (H:Xq (P.cellsOf e) l=xk) (j:n+I l<=Y8)
  (h:∀g f d,f.ownsRow B e (P.cellsOf e) g (n+I l) (xs++d)->w.grownBy f v.ownBlock->(g.ownBlock=v.ownBlock\/(w.grownBy f U/\f.ownsRow (xz<|xj w) e (P.cellsOf e) g (n+I l) (xs++d)))->
   (∀(i:Nat) (r:V),(flat l)[i]?=J r->∃u,d[i]?=J u/\Rd w Gy r u)->wpList P ops Q rest (a.put o.dst g) f):wpList P ops Q (o::rest) a w:=
 wpList_plain q λ_ G=>Z9s s x t K M p L hx k F N H j λg f d z A C D=>G _ _<|h g f d z A C D
end
def Yx(k:IntKind)(l:Z8):List Value:=l.map<|Value.int k
def BE{w:Z3}{G:Z4}{k:IntKind}{l:Z8}{d:Zm}(h:∀(i:Nat) (g:V),(flat<|l.map<|V.int k)[i]?=J g->∃u,d[i]?=J u/\Rd w G g u)(n:I d=I l):d=Yx k l:=by
 have f:flat (l.map<|V.int k)=l.map (V.int k):=by
  clear h n;induction l with
  |nil=>rfl
  |cons a l q=>rw[ZfA,RY,q];rfl
 apply Zgx;intro i;unfold Yx;by_cases j:i<I l;obtain⟨u,p,o⟩:=h i (.int k l[i]) (by rw[f,Zfl,Zf4 j];rfl);rw[p,Zfl,Zf4 j];cases o;rfl;rw[Zg4 Z0,Zg4 Ze9]
def V6{w:Z3}{B:Nat}{e:Zi}{z n:Nat}{v:Zf}{xs:Zm}(h:w.ownsRow B e z v n xs):∃a c,v=.slice a n c:=by
 obtain⟨rfl,rfl⟩|⟨g,cap,d,rfl,_⟩:=h.2;exact⟨_,_,rfl⟩;exact⟨_,_,rfl⟩
theorem WF{w w':Z3}{B:Nat}{e:Zi}{z n:Nat}{v:Zf}{xs:Zm}(h:w.ownsRow B e z v n xs)(l:∀b,v.ownBlock=J b->w'.heap[b]?=w.heap[b]?):w'.ownsRow B e z v n xs:=by
 refine⟨h.1,?_⟩;obtain⟨f,d⟩|⟨g,cap,a,rfl,d,j,k⟩:=h.2;exact .inl ⟨f,d⟩;exact .inr ⟨g,cap,a,rfl,d,by rw[l g rfl];exact j,k⟩
def Yw{w:Z3}{b o:Nat}{cs:Zd}{T:Zi}(h:w.heap[b]?=J (.cells cs T (0,0))):w.frozen? ⟨b,o,U⟩=xw:=by
 simp[World.frozen?,h]
def Ko:Ug Sol.prog 24=xk:=Z2
theorem RO:Sol.prog.cellsOf 24=1:=Z2
def Yv{w:Z3}{b:Nat}{o:Obj}(h:w.heap[b]?=J o):b<xz (xj w):=(Zf8.1 h).1
def qh{w:Z3}{B B':Nat}{e:Zi}{z n:Nat}{v:Zf}{xs:Zm}(h:w.ownsRow B e z v n xs)(j:B'<=B):w.ownsRow B' e z v n xs:=by
 refine⟨h.1,?_⟩;obtain d|⟨g,cap,a,l,k,f⟩:=h.2;exact .inl d;exact .inr ⟨g,cap,a,l,ZfB j k,f⟩
def yV(k:IntKind)(l:Z8)(i:Nat)(x:Int):Yx k (l.set i x)=(Yx k l).set i (.int k x):=by unfold Yx;rw[ZhN]
def Z3D:(Sol.prog.info? 24).map (λi=>(i.zero,i.size,i.bytes))=J (J<|.int .u64 0,1,8):=Z2
section
variable {w:Z3}{B:Nat}{G:Z4}
def zS{k:IntKind}(l:Z8):flat (l.map<|V.int k)=l.map (V.int k):=by
 induction l with
 |nil=>rfl
 |cons a l d=>rw[ZfA,RY,d];rfl
def Ju{k:IntKind}{e:Zi}{v:Zf}{l:Z8}(h:w.ownsRow B e 1 v (I l)<|Yx k l)(r:∀c,B<=c->c<xz (xj w)->G c):Rd w G (.sl<|l.map<|V.int k) v:=by
 obtain⟨rfl,q⟩|⟨g,cap,p,rfl,t,u,o,f,_⟩:=h.2;have:l=[]:=ZgY.1 q;subst this;exact .nil _ _ Zen
 have:=Rd.sl (w:=w) (G:=G) (l.map<|V.int k) g 0 cap 1 (λi=>(Yx k l).getD i undef) (by simpa using o) f (r g t<|Yv u) (λx y=>by
  obtain⟨n,_,rfl⟩:=Zfj.1 y
  exact⟨rfl,λc d=>by simp[V.cells]at d;subst d;rfl⟩) (λi j=>by
   have a:i<I l:=by simpa using j
   rw[ZfQ,h.cellAt i Z0];simp[Yx,a]) (λi c d=>by
   rw[zS]at d;obtain⟨j,rfl⟩:=Zf3.1 d;have a:i<I l:=by simpa using j
   simp[Yx,a];exact .int _ _)
 simpa using this
end
def Z5H(w:Z3)(b k:Nat)(a:k=1\/k=2\/k=3\/k=4):
  Calls Sol.prog 92 #[.pointer<|J ⟨b,0,U⟩,.int .i64 k] w λe d=>e=.returned (.pointer<|J ⟨b,4+k,U⟩)/\Below (xz<|xj w) w d:=by
 go_enter Sol.func92,Try.ntmps92;obtain rfl|rfl|rfl|rfl:=a;all_goals
  go_wp2;go_region;go_wp2;go_ret
  exact⟨rfl,((Zfr _ _).alloc (Zf9 _) _).drew⟩
def Ya:Array Value:=#[.int .u64 0,.int .i64 0,.int .i64 0,.bool xw,.int .i64 0,.slice U 0 0,.slice U 0 0,.slice U 0 0,.slice U 0 0,.slice U 0 0]
abbrev TE(w:Z3)(b:Nat)(v0 v1 v2 v3 v4 v5 v6 v7 v8 v9:Zf):World:=(((((((((w.setCell ⟨b,0,U⟩ v0).setCell ⟨b,1,U⟩ v1).setCell ⟨b,2,U⟩ v2).setCell ⟨b,3,U⟩ v3).setCell ⟨b,4,U⟩ v4).setCell ⟨b,5,U⟩ v5).setCell ⟨b,6,U⟩ v6).setCell ⟨b,7,U⟩ v7).setCell ⟨b,8,U⟩ v8).setCell ⟨b,9,U⟩ v9
def qx{w2:Z3}{b:Nat}{T:Zi}(a:w2.heap[b]?=J (.cells Ya T (0,0))){v0 v1 d f v4 g v6 h j k:Zf}:(TE w2 b v0 v1 d f v4 g v6 h j k).heap[b]?=J (.cells #[v0,v1,d,f,v4,g,v6,h,j,k] T (0,0)):=by
 unfold Ya at a;simp[World.setCell,ZfH,a]
def Jz{w2:Z3}{b:Nat}{T:Zi}(l:w2.heap[b]?=J (.cells Ya T (0,0)))(v0 v1 a d v4 f v6 g h k:Zf)(j:Nat):(TE w2 b v0 v1 a d v4 f v6 g h k).cell? ⟨b,j,U⟩=(#[v0,v1,a,d,v4,f,v6,g,h,k]:Array Value)[j]? :=
 Zfg _ _ _ _ _ _ (qx l)
def Uy{B:Nat}{w0 w2:Z3}{b:Nat}(h:Below B w0 w2)(a:B<=b){v0 v1 d f v4 g v6 j k l:Zf}:Below B w0<|TE w2 b v0 v1 d f v4 g v6 j k l:=
 (((((((((h.setCell a _).setCell a _).setCell a _).setCell a _).setCell a _).setCell a _).setCell a _).setCell a _).setCell a _).setCell a _
def Si{w2:Z3}{b c:Nat}(hc:c≠b){v0 v1 a d v4 f v6 g h j:Zf}:(TE w2 b v0 v1 a d v4 f v6 g h j).heap[c]?=w2.heap[c]? :=by
 have:¬b=c:=λe=>hc e.symm;simp[World.setCell,ZfH,this]
end
def Zv(h:Hp)(j:Nat):List Int:=if j=0 then h.H else if j=1 then h.ac else if j=2 then h.ah else if j=3 then h.aj else h.E
structure OwSt (w:World) (b:Nat) (el:Nat->Option Obj) (T:TypeId) (hd src:Nat->Value) (L:Nat->List Int) (k:Nat) (xs:Nat->Value) (wr:World):Prop where
 below:Below (xz<|xj w) w wr
 new:xz (xj w)<=b
 blk:wr.heap[b]?=J (.cells #[hd 0,hd 1,hd 2,hd 3,hd 4,xs 0,xs 1,xs 2,xs 3,src 4] T (0,0))
 oq:∀c,xz (xj w)<=c->c<b->wr.heap[c]?=el c
 rest:∀j,k<=j->xs j=src j
 own:∀j,j<k->wr.ownsRow (xz<|xj w) 24 1 (xs j) (I<|L j) (Yx .u64<|L j)
 oy:∀j,j<k->∀c,(xs j).ownBlock=J c->b<c
 apart:∀i j,i<j->j<k->∀c,(xs i).ownBlock=J c->(xs j).ownBlock≠J c
def OwSt.next{w wr w1 o b z T g l L k xs}(h:OwSt w b z T g l L k xs wr)(G:k<4)
  (p:Below (xz<|xj wr) wr w1) (r:w1.grownBy o U) {v} (H:o.ownsRow (xz<|xj w) 24 1 v (I<|L k)<|Yx .u64<|L k) (D:∀c,v.ownBlock=J c->xz (xj w1)<=c):
  OwSt w b z T g l L (k+1) (λj=>if j=k then v else xs j) (o.setCell ⟨b,5+k,U⟩ v):=by
 have q:=Yv h.blk;have F:=p.size;have y:=h.below.size;have f:∀c,c<xz (xj wr)->c≠b->(o.setCell ⟨b,5+k,U⟩ v).heap[c]?=wr.heap[c]? :=λc d x=>by
  rw[Zft _ _ _ _ x,r.block c Z0 Z1,p.block c d]
 have C:o.heap[b]?=J (.cells #[g 0,g 1,g 2,g 3,g 4,xs 0,xs 1,xs 2,xs 3,l 4] T (0,0)):=by
  rw[r.block b Z0 Z1,p.block b q,h.blk]
 refine⟨((h.below.trans<|p.mono y).grown r Z0 Z1).setCell h.new _,h.new,?_,?_,?_,?_,?_,?_⟩;have:k=0\/k=1\/k=2\/k=3:=Z0;obtain rfl|rfl|rfl|rfl:=this<;>simp[World.setCell,ZfH,C];intro c A B;rw[f c Z0 Z0];exact h.oq c A B;intro j u;rw[if_neg Z0];exact h.rest j Z0;intro j u;by_cases a:j=k;subst a;grind [WF,Below.heap_setCell];rw[if_neg a];have n:=h.own j Z0;exact WF n λc d=>f c (n.lt c d).2 (by have:=h.oy j Z0 c d;omega);intro j u c d;by_cases a:j=k;grind;rw[if_neg a]at d;exact h.oy j Z0 c d;intro i j t u c d;rw[if_neg Z0]at d;by_cases a:j=k;rw[if_pos a];intro e;have:=D c e;have:=((h.own i Z0).lt c d).2;omega;rw[if_neg a];exact h.apart i j t Z0 c d
structure HOwn (B:Nat) (w:World) (h:Hp) (x:Nat->Value):Prop where
 own:∀j,j<5->w.ownsRow B 24 1 (x j) (I<|Zv h j) (Yx .u64<|Zv h j)
 apart:∀i j,i<j->j<5->∀c,(x i).ownBlock=J c->(x j).ownBlock≠J c
abbrev Z6:=Nat->Value
def ZN(h:Hp)(x:Z6):Value:=.agg #[.int .u64 h.base,.int .i64 h.cap,.int .i64 h.to,.bool h.Z,.int .i64 h.aa,x 0,x 1,x 2,x 3,x 4]
abbrev RF(W:Z3)(b:Nat)(h:Hp)(x:Z6):World:=TE W b (.int .u64 h.base) (.int .i64 h.cap) (.int .i64 h.to) (.bool h.Z) (.int .i64 h.aa) (x 0) (x 1) (x 2) (x 3)<|x 4
def PX(w:Z3)(h:Hp)(e:Ending)(w':Z3):Prop:=∃x,e=.returned (ZN h x)/\Below (xz<|xj w) w w'/\HOwn (xz<|xj w) w' h x
def Jf{h}(a:h.ok)k:I (Zv h k)<=1000000:=by
 unfold Zv;split;exact a.H;split;exact a.ac;split;exact a.ah;split;exact a.aj;exact a.E
def Z5I w b k(d:k<4):
  Calls Sol.prog 92 #[.pointer<|J ⟨b,0,U⟩,.int .i64 ((k+1:Nat):Int)] w λe a=>e=.returned (.pointer<|J ⟨b,5+k,U⟩)/\Below (xz<|xj w) w a:=by
 have:=Z5H w b (k+1) Z0;grind
def l9(w:Z3)(G:Z4)(hG:∀b,G b->b<xz (xj w))(h:Hp)(hh:h.ok)(d:Z6)(hs:∀j,j<5->Rd w G (.sl<|(Zv h j).map vu) (d j)):
  Calls Sol.prog 66 #[ZN h d] w (PX w h):=by
 have HS:=Zfa hs;have HH:=Zfa hh;clear hs hh;unfold ZN;go_enter Sol.func66,Try.ntmps66;go_wp2
 go_loopw [4] (λi wr=>∃(k:Nat) (xs:Z6),i=.int .i64 ((k+1:Nat):Int)/\k<=4/\Hid (OwSt w (xz (xj w)+2) (λc=>if c=(xz<|xj w) then J (.cells #[.int .u64 h.base,.int .i64 h.cap,.int .i64 h.to,.bool h.Z,.int .i64 h.aa,d 0,d 1,d 2,d 3,d 4] 37 (0,0))else J<|.cells #[.int .u64 0,.int .i64 0,.int .i64 0,.bool xw,.int .i64 0,.slice U 0 0,.slice U 0 0,.slice U 0 0,.slice U 0 0,.slice U 0 0] 37 (0,0)) 151 (λj=>if j=0 then .int .u64 h.base else if j=1 then .int .i64 h.cap else if j=2 then .int .i64 h.to else if j=3 then .bool h.Z else .int .i64 h.aa) d (Zv h) k xs wr))
  (λi _=>5- (intOf i).toNat)
 case atStart=>
  refine⟨0,d,rfl,Z0,Zfa ⟨(((Zfr _ _).alloc (Zf9 _) _).alloc Z1 _).alloc Ze9 _,Z0,?_,?_,λ_ _=>rfl,λj hj=>Z0,λj hj=>Z0,λi j _ hj=>Z0⟩⟩;have:=ZfG ((w.alloc<|.cells #[.int .u64 h.base,.int .i64 h.cap,.int .i64 h.to,.bool h.Z,.int .i64 h.aa,d 0,d 1,d 2,d 3,d 4] 37).alloc<|.cells #[.int .u64 0,.int .i64 0,.int .i64 0,.bool xw,.int .i64 0,.slice U 0 0,.slice U 0 0,.slice U 0 0,.slice U 0 0,.slice U 0 0] 37)<|.cells #[.int .u64 h.base,.int .i64 h.cap,.int .i64 h.to,.bool h.Z,.int .i64 h.aa,d 0,d 1,d 2,d 3,d 4] 151;simp_all;intro c h1 h2;have:c=(xz<|xj w)\/c=xz (xj w)+1:=Z0;obtain rfl|rfl:=this;rw[if_pos rfl,Zfp _ _ _ Ze9,Zfp _ _ _ Z1];exact ZfG _ _;rw[if_neg Z0,Zfp _ _ _ Z1];have:=ZfG (w.alloc<|.cells #[.int .u64 h.base,.int .i64 h.cap,.int .i64 h.to,.bool h.Z,.int .i64 h.aa,d 0,d 1,d 2,d 3,d 4] 37)<|.cells #[.int .u64 0,.int .i64 0,.int .i64 0,.bool xw,.int .i64 0,.slice U 0 0,.slice U 0 0,.slice U 0 0,.slice U 0 0,.slice U 0 0] 37;simp_all
 case round=>
  obtain⟨k,xs,rfl,hk,g⟩:=hrel;have a4:=Yv g.out.blk;by_cases a2:k<4
  .have b4:((k+1:Nat):Int)<=4:=Z0;have c0:wr.cell? ⟨xz (xj w)+2,5+k,U⟩=J (d k):=by
    rw[Zfg _ _ _ _ _ _ g.out.blk];have h3:k=0\/k=1\/k=2\/k=3:=Z0;have hr:=g.out.rest k<|Zf9 _;obtain rfl|rfl|rfl|rfl:=h3<;>simp[<-hr]
   have f0:wr.frozen? ⟨xz (xj w)+2,5+k,U⟩=xw:=Yw g.out.blk;have b2:I (Zv h k)<=1000000:=Jf HH.out k
   go_wp2_with (first
    |(go_at_call 92;refine(Z5I _ _ _ a2).mono ?_;rintro e w1 ⟨rfl,C⟩;have c1:=(C.cell (p:=⟨xz (xj w)+2,5+k,U⟩)<|by exact a4).trans c0;have f1:=(C.frozen (p:=⟨xz (xj w)+2,5+k,U⟩)<|by exact a4).trans f0;have S:=Zfa<|(HS.out k<|by omega).keep (w':=w1) (λb hb=>by rw[C.block b (by have:=hG b hb;omega)];exact g.out.below.block b<|hG b hb) (λ_ h=>h);have a5:=Zfa C;have b5:=C.size;have a3:=g.out.below.size;clear C)
    |(at_builtin;refine Pn (B:=xz<|xj w) (n:=0) (xs:=[]) rfl _ _ _ rfl Sol.underlying35 Ko rfl rfl (Zgv _ _ _ _) (by omega) (l:=(Zv h k).map vu) (Gy:=G) S.out (by grind [RO,jg]) (by grind [Y8]) ?_))
   intro v6 w6 x a f A Q;simp only[RO]at a;have W:I x=I (Zv h k):=by have:=a.1;simp_all
   rw[BE Q W]at a;try simp only[ZfC,ZfQ,ZfU]at a
   obtain⟨P,R,X⟩:=V6 a;subst X;have u:(Value.slice U 0 0).ownBlock=U:=rfl;rw[u]at f;have c6:=(f.cell_far ⟨xz (xj w)+2,5+k,U⟩ Ze7 Z1).trans c1;have f6:=(f.frozen_far ⟨xz (xj w)+2,5+k,U⟩ Ze7 Z1).trans f1;have q:∀c,(Value.slice P (I<|Zv h k) R).ownBlock=J c->xz (xj w1)<=c:=by
    intro c t;obtain e|⟨_,e⟩:=A;simp_all;exact(e.lt c t).1
   have HN:=Zfa<|g.out.next a2 a5.out f a q;clear a f A Q q;go_wp2;go_roundw
   case rel=>grind
   case measure=>grind [intOf]
  .have a9:k=4:=Z0;subst a9;have b0:=g.out.oq (xz<|xj w) Z0 Z0;rw[if_pos rfl]at b0;have b1:=g.out.oq (xz (xj w)+1) Z0 Z0;rw[if_neg Z0]at b1;have c9:wr.cell? ⟨xz<|xj w,9,U⟩=J (d 4):=by rw[Zfg _ _ _ _ _ _ b0];rfl
   have b2:I (Zv h 4)<=1000000:=Jf HH.out 4;have S:=Zfa<|(HS.out 4 Z0).keep (w':=wr) (λb hb=>g.out.below.block b<|hG b hb) (λ_ h=>h);have a3:=g.out.below.size;go_wp2_with (at_builtin;refine Pn (B:=xz<|xj w) (n:=0) (xs:=[]) rfl _ _ _ rfl Sol.underlying35 Ko rfl rfl (Zgv _ _ _ _) Z0 (l:=(Zv h 4).map vu) (Gy:=G) S.out (by grind [RO,jg]) (by grind [Y8]) ?_)
   intro v6 w6 x a f A Q;simp only[RO]at a;have W:I x=I (Zv h 4):=by have:=a.1;simp_all
   rw[BE Q W]at a;try simp only[ZfC,ZfQ,ZfU]at a
   obtain⟨P,R,X⟩:=V6 a;subst X;have u:(Value.slice U 0 0).ownBlock=U:=rfl;rw[u]at f;obtain⟨D,L,e0⟩:=V6<|g.out.own 0 Z0;obtain⟨F,M,e1⟩:=V6<|g.out.own 1 Z0;obtain⟨H,N,e2⟩:=V6<|g.out.own 2 Z0;obtain⟨K,O,e3⟩:=V6<|g.out.own 3 Z0;have blk:wr.heap[xz (xj w)+2]?=J (.cells #[.int .u64 h.base,.int .i64 h.cap,.int .i64 h.to,.bool h.Z,.int .i64 h.aa,.slice D (I<|Zv h 0) L,.slice F (I<|Zv h 1) M,.slice H (I<|Zv h 2) N,.slice K (I<|Zv h 3) O,d 4] 151 (0,0)):=by rw[<-e0,<-e1,<-e2,<-e3];exact g.out.blk
   have y:=(f.block (xz (xj w)+2) Z0 Z1).trans blk;have Z:=(f.block (xz (xj w)+1) Z0 Z1).trans b1;have x9:w6.cell? ⟨xz (xj w)+2,9,U⟩=J (d 4):=by rw[Zfg _ _ _ _ _ _ y];rfl
   have y9:w6.frozen? ⟨xz (xj w)+2,9,U⟩=xw:=Yw y;obtain⟨Y,h7⟩:∃Y,w6.setCell ⟨xz (xj w)+2,9,U⟩ (.slice P (I<|Zv h 4) R)=Y:=⟨_,rfl⟩;have a0:Y.heap[xz (xj w)+2]?=J (.cells #[.int .u64 h.base,.int .i64 h.cap,.int .i64 h.to,.bool h.Z,.int .i64 h.aa,.slice D (I<|Zv h 0) L,.slice F (I<|Zv h 1) M,.slice H (I<|Zv h 2) N,.slice K (I<|Zv h 3) O,.slice P (I<|Zv h 4) R] 151 (0,0)):=by
    rw[<-h7];simp[World.setCell,ZfH,y]
   have T:Y.heap[xz (xj w)+1]?=J (.cells Ya 37 (0,0)):=by
    rw[<-h7,Zft _ _ _ _ Z1];exact Z
   have l:=λj=>Zfg _ _ j _ _ _ a0;have m:=λj=>Zfg _ _ j _ _ _ T;unfold Ya at m;have r:=λj=>Yw (o:=j) T;have z:=Jz T (.int .u64 h.base) (.int .i64 h.cap) (.int .i64 h.to) (.bool h.Z) (.int .i64 h.aa) (.slice D (I<|Zv h 0) L) (.slice F (I<|Zv h 1) M) (.slice H (I<|Zv h 2) N) (.slice K (I<|Zv h 3) O)<|.slice P (I<|Zv h 4) R;have a7:Below (xz<|xj w) w Y:=by rw[<-h7];exact(g.out.below.grown f a3 Z1).setCell Z1 _
   have b3:∀c,c≠xz (xj w)+2->Y.heap[c]?=w6.heap[c]? :=λc t=>by rw[<-h7];exact Zft _ _ _ _ t
   have q:∀c,(Value.slice P (I<|Zv h 4) R).ownBlock=J c->xz (xj wr)<=c:=by
    intro c t;obtain e|⟨_,e⟩:=A;simp_all;exact(e.lt c t).1
   clear y Z blk b0 b1 c9;go_wp2;refine ZfV (v:=.agg #[.int .u64 h.base,.int .i64 h.cap,.int .i64 h.to,.bool h.Z,.int .i64 h.aa,.slice D (I<|Zv h 0) L,.slice F (I<|Zv h 1) M,.slice H (I<|Zv h 2) N,.slice K (I<|Zv h 3) O,.slice P (I<|Zv h 4) R]) (by simp[results,Try.results66,go_sem,z]) rfl ⟨λj=>if j=4 then .slice P (I<|Zv h 4) R else xs j,by simp[ZN,e0,e1,e2,e3],Uy a7 Z1,?_⟩;have a1:=λc h1 h2=>(@Si Y (xz (xj w)+1) c h1 (.int .u64 h.base) (.int .i64 h.cap) (.int .i64 h.to) (.bool h.Z) (.int .i64 h.aa) (.slice D (I<|Zv h 0) L) (.slice F (I<|Zv h 1) M) (.slice H (I<|Zv h 2) N) (.slice K (I<|Zv h 3) O)<|.slice P (I<|Zv h 4) R).trans<|b3 c h2;refine⟨λj hj=> ?_,λi j a8 hj c t=> ?_⟩;by_cases h4:j=4;subst h4;rw[if_pos rfl];exact WF a λc t=>a1 c (by have:=q c t;omega) (by have:=q c t;omega);rw[if_neg h4];have ho:=g.out.own j Z0;exact WF ho λc t=>by
    have h1:=g.out.oy j Z0 c t;have h2:=(ho.lt c t).2;rw[a1 c Z0 Z0,f.block c h2 Z1]
   rw[if_neg Z0]at t;by_cases h4:j=4;subst h4;rw[if_pos rfl];intro e;have h1:=q c e;have h2:=((g.out.own i Z0).lt c t).2;omega;rw[if_neg h4];exact g.out.apart i j a8 Z0 c t
def Z9A(z:Zf)(n:Nat):(Builtin.zeroCells #[z] n).toList=List.replicate n z:=by
 simp[Builtin.zeroCells];apply List.ext_getElem;simp;intro i a d;simp[Nat.mod_one]
def Z7q{P:Z5}{w:Z3}{T tI ty e:Zi}{i:TypeInfo}{z:Zf}{kn:IntKind}(Z:P.underlying T=J (.slice e))(R:P.underlying tI=J (.int kn))(Y:P.info? e=J i)(hz:i.zero=J z)
  (H:z.cells=#[z]) (h1:z.oneCell'=xk) (hs:i.size=1) (M:i.bytes=8) {B n m:Nat} {v:Zf} {xs:Zm} (l:w.ownsRow B e 1 v n xs) (hB:B<=xz (xj w)) (hm:0<m) (a1:n+m<=4294967296) (N:IntKind):
  ∃O K,(Builtin.append_ #[T,tI] ty #[v,.int N m]).run P w=.ok O K/\K.ownsRow B e 1 O (n+m) (xs++List.replicate m z)/\w.grownBy K v.ownBlock/\
   (O.ownBlock=v.ownBlock\/(w.grownBy K U/\K.ownsRow (xz<|xj w) e 1 O (n+m) (xs++List.replicate m z))):=by
 have q:I xs=n:=by have:=l.1;simpa using this
 have f:I (xs++List.replicate m z)=n+m:=by simp[q]
 have Q:n+m<=maxLen:=by simp only[maxLen];omega
 have d:∀(a:Nat),a<n+m->∀(row:Option Nat) (L:Zd),L=xs.toArray++(List.replicate m z).toArray->
   (w.drew.alloc<|.cells (L++Builtin.zeroCells z.cells (grownCap w (n+m) a e- (n+m))) e).ownsRow (xz<|xj w) e 1
    (.slice (J ⟨xz<|xj w,0,U⟩) (n+m)<|grownCap w (n+m) a e) (n+m) (xs++List.replicate m z)/\
   w.grownBy (w.drew.alloc<|.cells (L++Builtin.zeroCells z.cells (grownCap w (n+m) a e- (n+m))) e) row:=by
  rintro a ho row L rfl;have X:=grownCap_ge w (n+m) a e;have x:grownCap w (n+m) a e<=maxLen:=grownCap_le_maxLen w (n+m) a e Q;refine⟨⟨Zeq,.inr ⟨xz<|xj w,_,_,rfl,Zf9 _,ZfG w.drew _,X,x,?_,?_⟩⟩,⟨rfl,rfl,rfl,Z1,λk F _=>Zfp w.drew _ k F⟩⟩;simp only[Array.size_append,Zgy,size_zeroCells,H];simp[q];omega;simp only[Array.toList_append,ZfM];rw[<-ZfM,Zjk,<-f];exact ZiK
 have A:Builtin.zeroCells z.cells m=(List.replicate m z).toArray:=by
  rw[H];apply Array.ext';rw[Z9A]
 obtain⟨rfl,rfl⟩|⟨g,cap,h,rfl,S,hg,a2,x,a0,p⟩:=l.2;have hx:xs=[]:=ZgS q;subst hx;have t:=Lib.run_append_nil_zeros (P:=P) w T tI ty e i z N kn Z R Y hz m hm Z0 Z0 (by rw[M];omega);have D:=d 0 Z0;simp only[ZfQ,ZfU,Array.empty_append]at D t⊢;rw[A]at t;obtain⟨g1,g2⟩:=D U _ rfl;exact⟨_,_,t,qh g1 hB,g2,.inr ⟨g2,g1⟩⟩;by_cases o:n+m<=cap;have r:n+I (List.replicate m z)<=h.size:=Ze9;have y:=run_storeCells_at P g n e (List.replicate m z) 0 h w hg (by simpa using r) (by intro v hv;rw[List.eq_of_mem_replicate hv];exact h1);simp only[ZgJ]at y;have hw:IntKind.i64.wrap (m:Int)=m:=by rw[IntKind.wrap_i64];omega
 have G:¬((m:Int)<0):=Z0;have C:¬(281474976710656< (m:Int)*8):=Z0;have F:m≠0:=Z0
 have t:(Builtin.append_ #[T,tI] ty #[.slice (J ⟨g,0,U⟩) n cap,.int N m]).run P w=
   .ok (.slice (J ⟨g,0,U⟩) (n+m) cap) (w.setRow g (h.toList.take n++List.replicate m z++h.toList.drop (n+I (List.replicate m z))).toArray):=by
  simp[Builtin.append_,ZfP Z,ZfP R,Go.sizeOf,typeInfo,zeroValue,Y,hz,asInt,asIntOf,hw,G,hs,M,C,F,o,A,ZgG];simp at y;rw[y];simp
 refine⟨_,_,t,⟨Zeq,.inr ⟨g,cap,_,rfl,S,Zji w g h _ e _ hg,o,x,?_,?_⟩⟩,⟨rfl,rfl,rfl,Z1,λk _ F=>ZgZ w g k _<|λe=>F (by simp[Value.ownBlock,e])⟩,.inl rfl⟩;simp only[Zgy,ZfN,Zg0,ZgI,Zhr];simp at r⊢;omega;rw[Zjk]at p⊢;rw[p,<-f];exact ZiK;have holds:∀j u,xs[j]?=J u->w.cell? ((⟨g,0,U⟩:Addr).add j)=J u:=l.cells (g:=g) rfl;have W:=run_firstCells_some (P:=P) w.drew i.size n ⟨g,0,U⟩ n cap xs (by rw[hs,Zjk];exact q) (by simpa using holds);have t:=Lib.run_append_grow_zeros (P:=P) w T tI ty e i z N kn Z R Y hz (J ⟨g,0,U⟩) n cap xs W m hm Z0 Z0 Z0 (by rw[M];omega)<|Zjg Z0 (by rw[M];omega);rw[A]at t;obtain⟨g1,g2⟩:=d cap Z0 U _ rfl;obtain⟨_,g3⟩:=d cap Z0 (Value.ownBlock<|.slice (J ⟨g,0,U⟩) n cap) _ rfl;exact⟨_,_,t,qh g1 hB,g3,.inr ⟨g2,g1⟩⟩
end Vm
end
section
namespace Vm
open Go Go.Proofs
def Hp.dw:Hp.zero.ok:=by
 refine⟨?_,?_,?_,?_,?_,?_,?_,?_,?_,?_,?_,?_,?_,?_⟩<;>simp[Hp.zero,ZB,Yr]
def Ig{h:Hp}(d:h.ok){part:Int}{a n:Nat}(o:a+n<=I (Zx h part))(h2:(n:Int)<=XQ (Zu h))(p:0<n):(Xo h part a n).ok:=by
 have g:ZI (Zu h)=xk:=by
  cases j:ZI<|Zu h;have:XQ (Zu h)=0:=by unfold XQ;rw[j];rfl
  omega;rfl
 have l:XQ (Zu h)=(Zu h).cap- (Zu h).H- (Zu h).ac:=by unfold XQ;rw[g];rfl
 have k:=Ww.1 g;have q:(Zu h).H=I h.H:=rfl;have r:(Zu h).ac=I h.ac:=rfl;refine⟨d.base,d.cap,d.to,d.aa,?_,d.ac,d.ah,d.aj,d.E,?_,d.gu,d.ma,d.lj,d.dq⟩;simp only[Xo,ZfN,ZgI,Zg0];omega;intro w f;simp only[Xo]at f;obtain f|f:=Zfy.1 f;exact d.gh w f;exact(XG d part).1 w (Zgf<|Zhl f)
def PE{ws:Z8}{a:Nat}(h:∀w∈ws,ZB w):∀n,∀w∈zr ws a n,ZB w
 |0=>h
 |n+1=>by
  intro w d;obtain d|d:=ZgB d;exact PE h n w d;subst d;unfold ZB;omega
def Z2a{h:Hp}(f:h.ok){part:Int}{a n:Nat}(g:0<n):(R2 h part a n).2.1.ok/\ZB (R2 h part a n).1:=by
 unfold R2;split;exact⟨Hp.dw,by simp[ZB]⟩;split;exact⟨Hp.dw,by simp[ZB]⟩;rename_i g1 g2;have j:=XG f part;refine⟨Z9h (Ig f Z0 Z0 g) Ze9 ?_,Nf⟩;intro w d;obtain d|d:=ZgB d;exact PE j.1 _ w d;subst d;exact Nf
def zX{h:Hp}(a:h.ok){w:Int}(j:ZB w):(fwd h w).2.1.ok/\ZB (fwd h w).1:=by
 unfold fwd;split;exact⟨Hp.dw,by simp[ZB]⟩;split;exact⟨a,by simp[ZB]⟩;split;exact⟨Hp.dw,by simp[ZB]⟩;split;exact⟨Hp.dw,by simp[ZB]⟩;split;exact⟨a,j⟩;split;refine⟨a,?_⟩;generalize (Yg (Zu h) (adr w).1).2.1.toNat=k;have g:=(XG a (Yg (Zu h) (adr w).1).1).1;generalize Zx h (Yg (Zu h) (adr w).1).1=d at*;by_cases f:k<I d;have e:d.getD k 0=d[k]:=by simp[List.getD,f]
 simp only[e];exact g _<|Zfq f;have e:d.getD k 0=0:=by simp[List.getD,f]
 simp only[e];unfold ZB;omega;split;exact⟨Hp.dw,by simp[ZB]⟩;exact Z2a a Z0
end Vm
end
section
namespace Vm
open Go Go.Proofs Go.RowKit
section
def QR:V->Value
 |.int k n=>.int k n
 |.bool b=>.bool b
 |_=>undef
def Tp:V->Bool
 |.int _ _=>xk
 |.bool _=>xk
 |_=>xw
def SR:V->Value
 |.agg a=>.agg (a.map QR).toArray
 |x=>QR x
def Tq:V->Bool
 |.agg a=>a.all Tp
 |x=>Tp x
def A0:V->Value
 |.an l=>.tuple (l.map SR).toArray
 |x=>SR x
def zR:V->Bool
 |.an l=>l.all Tq
 |x=>Tq x
variable {w:Z3}{G:Z4}
def Z6y{x:V}(h:Tp x=xk):Rd w G x<|QR x:=by
 cases x<;>simp[Tp]at h;exact .int _ _;exact .bool _
def Z6z{x:V}(h:Tq x=xk):Rd w G x<|SR x:=by
 cases x with
 |agg d=>
  simp only[Tq,Zfe]at h;refine .agg _ _ Z1 (λc a=> ?_) λi c a=> ?_;have:=h c a;cases c<;>simp[Tp]at this<;>rfl;have f:=Z6y (w:=w) (G:=G)<|h c<|Zfc a;have:((d.map QR).toArray).getD i undef=QR c:=by
   obtain⟨g,rfl⟩:=Zf3.1 a;simp[Array.getD,g]
  rw[this];exact f
 |int k n=>exact .int _ _
 |bool b=>exact .bool _
 |_=>simp[Tq,Tp]at h
def Z1s{x:V}{v:Zf}(h:Tp x=xk)(r:Rd w G x v):v=QR x:=by
 cases x<;>simp[Tp]at h;cases r;rfl;cases r;rfl
def Fp{x:V}{v:Zf}(h:Tq x=xk)(r:Rd w G x v):v=SR x:=by
 cases x with
 |agg a=>
  simp only[Tq,Zfe]at h;cases r with
  |agg _ vs j _ l=>
   simp only[SR,Value.agg.injEq];apply ZhH;simpa using j;intro i f o;have d:i<I a:=Z0;have g:a[i]?=J a[i]:=Zf4 d;have:=Z1s (h _<|Zfq d)<|l i _ g;simp[Array.getD,f]at this;simpa using this
 |int k n=>cases r;rfl
 |bool b=>cases r;rfl
 |_=>simp[Tq,Tp]at h
def Fq{x:V}{v:Zf}(h:zR x=xk)(r:Rd w G x v):v=A0 x:=by
 cases x with
 |an a=>
  simp only[zR,Zfe]at h;cases r with
  |an _ vs j l=>
   simp only[A0,Value.tuple.injEq];apply ZhH;simpa using j;intro i f o;have d:i<I a:=Z0;have g:a[i]?=J a[i]:=Zf4 d;have:=Fp (h _<|Zfq d)<|l i _ g;simp[Array.getD,f]at this;simpa using this
 |agg a=>exact Fp (x:=.agg a) h r
 |int k n=>cases r;rfl
 |bool b=>cases r;rfl
 |_=>simp[zR,Tq,Tp]at h
def TQ{P:Z5}{f:Zq}{fr:Bool}{args:Zr}{r:V}(h:VC P f fr args r)(a:args.all Tq=xk)(k:zR r=xk)(w:Z3):
  Calls P f (args.map SR).toArray w λe g=>e=.returned (A0 r)/\Below (xz<|xj w) w g:=by
 simp only[Zfe]at a;refine Zi6 (h.2 w (λ_=>False) _ Z1 Z1 ?_) ?_;intro i x n;obtain⟨d,rfl⟩:=Zf3.1 n;have:((args.map SR).toArray).getD i undef=SR args[i]:=by simp[Array.getD,d]
 rw[this];exact Z6z<|a _<|Zfq d;rintro e g ⟨v,rfl,j,l⟩;exact⟨by rw[Fq k l],j⟩
def Sb(l:Ly):Value:=.agg #[.int .u64 l.base,.int .i64 l.cap,.int .i64 l.to,.int .i64 l.H,.int .i64 l.ac,.int .i64 l.ah,.int .i64 l.aj]
def Z79{l:Ly}(a:l.aw)(w:Z3):Calls Sol.prog 65 #[Sb l] w λe d=>e=.returned (.bool<|ZI l)/\Below (xz<|xj w) w d:=
 TQ (LB a) rfl rfl w
def Z7c{l:Ly}(a:l.aw)(w:Z3):Calls Sol.prog 70 #[Sb l] w λe d=>e=.returned (.int .i64<|XQ l)/\Below (xz<|xj w) w d:=
 TQ (Z7d a) rfl rfl w
def Et{l:Ly}(a:l.aw)(part at_:Int)(w:Z3):Calls Sol.prog 75 #[Sb l,.agg #[.int .i64 part,.int .i64 at_]] w λe d=>e=.returned (.tuple #[.int .u64 (Y5 l part at_).1,.int .i64 (Y5 l part at_).2])/\Below (xz<|xj w) w d:=
 TQ (Eu a) rfl rfl w
def Z1N{l:Ly}(f:l.aw){a:Int}(d:ZB a)(w:Z3):Calls Sol.prog 67 #[Sb l,.int .u64 a] w λe g=>e=.returned (.tuple #[.agg #[.int .i64 (Yg l a).1,.int .i64 (Yg l a).2.1],.int .i64 (Yg l a).2.2])/\Below (xz<|xj w) w g:=
 TQ (Z1P f d) rfl rfl w
def SI{x:Int}(hx:ZB x)(w:Z3):Calls Sol.prog 44 #[.int .u64 x] w λe a=>e=.returned (.tuple #[.int .u64 (adr x).1,.int .i64 (adr x).2])/\Below (xz<|xj w) w a:=
 TQ (K5 hx) rfl rfl w
def Z6h{x:Int}(hx:ZB x)(w:Z3):Calls Sol.prog 95 #[.int .u64 x] w λe a=>e=.returned (.tuple #[.int .u64 (XH x).1,.int .i64 (XH x).2])/\Below (xz<|xj w) w a:=
 TQ (Z6j hx) rfl rfl w
def JO{x:Int}(hx:ZB x)(w:Z3):Calls Sol.prog 69 #[.int .u64 x] w λe a=>e=.returned (.tuple #[.agg #[.int .i64 (ZR x).1,.int .i64 (ZR x).2.1],.int .i64 (ZR x).2.2])/\Below (xz<|xj w) w a:=
 TQ (OY hx) rfl rfl w
def jx{h:Hp}{x:Z6}(g:∀b,G b->b<xz (xj w))(d:∀j,j<5->Rd w G (.sl<|(Zv h j).map vu) (x j)):
  Calls Sol.prog 64 #[ZN h x] w λe f=>e=.returned (Sb<|Zu h)/\Below (xz<|xj w) w f:=by
 refine Zi6 ((E9 (h:=h)).2 w G _ g rfl ?_) ?_;intro i y a
 match i,a with
 |0,a=>
  cases a;refine .agg _ _ rfl (by simp[V.one]) ?_;intro i y a
  match i,a with
  |0,a=>cases a;exact .int _ _
  |1,a=>cases a;exact .int _ _
  |2,a=>cases a;exact .int _ _
  |3,a=>cases a;exact .bool _
  |4,a=>cases a;exact .int _ _
  |5,a=>cases a;exact d 0 Z0
  |6,a=>cases a;exact d 1 Z0
  |7,a=>cases a;exact d 2 Z0
  |8,a=>cases a;exact d 3 Z0
  |9,a=>cases a;exact d 4 Z0
 rintro e f ⟨v,rfl,k,l⟩;exact⟨by rw[Fq ZeX l];rfl,k⟩
end
end Vm
end
section
namespace Vm
open Go Go.Proofs Go.RowKit
structure Now (B:Nat) (w:World) (b:Nat) (h:Hp) (x:Nat->Value):Prop where
 blk:w.heap[b]?=J (.cells #[.int .u64 h.base,.int .i64 h.cap,.int .i64 h.to,.bool h.Z,.int .i64 h.aa,x 0,x 1,x 2,x 3,x 4] 127 (0,0))
 own:HOwn B w h x
 aj:∀j,j<5->∀c,(x j).ownBlock=J c->c≠b
 new:B<=b
def Sy(h:Hp)(part:Int)(a n:Nat):Int:=(XH (Y5 (Zu<|Xo h part a n) 1<|I h.H).1).1
def PL(B:Nat)(w:World)(b:Nat)(h:Hp)(p a n:Nat)(e:Ending)(w':World):Prop:=
 ∃d,e=.returned (.int .u64<|Sy h (p+1) a n)/\Below B w w'/\Now B w' b (Xj (Xo h (p+1) a n) (p+1)<|(zr (Zv h p) a n).set a<|Sy h (p+1) a n) d
def Z9t{P}w{o:Oper}{a K Q}s t
  (d:o.op=.call {callee:=.builtin .clear,args:=#[s],argTypes:=#[t]}) vs (g:a.eval s=vs)
  w' (f:(Builtin.clear_ #[t] o.type #[vs]).run P w=.ok (.tuple #[]) w') (h:K (a.put o.dst<|.tuple #[]) w'):o.wp P a w K Q:=by
 unfold Oper.wp execOp;simp[d,resolve,invoke,builtin,g,f];exact h
def Z9q{P}w{ops rest o a Q}(d:o.guard=U)s t
  (f:o.op=.call {callee:=.builtin .clear,args:=#[s],argTypes:=#[t]}) vs (j:a.eval s=vs)
  w' (g:(Builtin.clear_ #[t] o.type #[vs]).run P w=.ok (.tuple #[]) w') (h:wpList P ops Q rest (a.put o.dst<|.tuple #[]) w'):wpList P ops Q (o::rest) a w:=
 wpList_plain d λ_ k=>Z9t w s t f vs j w' g Ze8
def Oe{b c}(hc:c≠b):∀vs o (w:World),(w.setCells b o vs).heap[c]?=w.heap[c]?
 | [],_,_=>rfl
 |v::r,o,w=>by
  show((w.setCell ⟨b,o,U⟩ v).setCells b _ r).heap[c]?=_;rw[Oe hc r];exact Zft _ _ _ _ hc
def Of b:∀vs o (w:World),xz (xj<|w.setCells b o vs)=xz (xj w)
 | [],_,_=>rfl
 |v::r,o,w=>by
  show xz (xj<|(w.setCell ⟨b,o,U⟩ v).setCells b _ r)=_;rw[Of b r];simp
def Oc{B b}(d:B<=b):∀vs o a w,Below B a w->Below B a (w.setCells b o vs)
 | [],_,_,_,h=>h
 |v::r,o,a,w,h=>Oc d r _ a _<|h.setCell d _
def IZ{B g len cap L}a:∀n k (w:World),a+k+n<=len->w.ownsRow B 24 1 (.slice (J ⟨g,0,U⟩) len cap) len (Yx .u64<|zr L a k)->
  (w.setCells g (a+k)<|List.replicate n<|.int .u64 0).ownsRow B 24 1 (.slice (J ⟨g,0,U⟩) len cap) len (Yx .u64<|zr L a<|k+n)
 |0,k,w,_,h=>h
 |n+1,k,w,j,h=>by
  have d:=(h.stored (a+k)<|.int .u64 0).1;have f:(Yx .u64<|zr L a k).set (a+k) (.int .u64 0)=Yx .u64 (zr L a<|k+1):=by rw[zr,yV]
  rw[f]at d;have:=IZ a n _ _ Z0 d;rw[show k+1+n=k+(n+1)by omega]at this;exact this
def Z1f w B b h x(q:Now B w b h x)(hB:B<=xz (xj w))(hh:h.ok)(p a n:Nat)(hp:p=2\/p=3)(S:0<n)(hn:n<=1000)(e9:n<=XQ (Zu h))
  g cap (hx:x p=.slice (J ⟨g,0,U⟩) (I<|Zv h p) cap) (i8:a+n<=I (Zv h p)) c':
  Calls Sol.prog 71 #[.pointer<|J ⟨b,0,U⟩,.slice (J ⟨g,a,U⟩) n c'] w (PL B w b h p a n):=by
 obtain⟨iU,e4,i5,i2,i9⟩:=info_parts Z3D;have k4:I (Zv h 0)<=1000000:=Jf hh 0;obtain⟨v1,w1,i1,e8,z,a8⟩:=Z7q (P:=Sol.prog) (w:=w) (T:=35) (tI:=3) (ty:=35) Sol.underlying35 Sol.underlying3 e4 i5 rfl rfl i2 i9 (q.own.own 0 Z0) hB S Z0 .i64;obtain⟨a0,q0,e0⟩:=V6<|q.own.own 0 Z0;have b0:w.cell? ⟨b,5,U⟩=J (x 0):=by rw[Zfg _ _ _ _ _ _ q.blk];rfl
 have f0:w.frozen? ⟨b,5,U⟩=xw:=Yw q.blk;have c5:=Yv q.blk;have D:J b≠(x 0).ownBlock:=λe=>q.aj 0 Z0 b e.symm rfl;have c1:=(z.cell_far ⟨b,5,U⟩ c5 D).trans b0;have f1:=(z.frozen_far ⟨b,5,U⟩ c5 D).trans f0;rw[e0]at i1 b0 c1;have h8:I (Yx .u64<|Zv h 0)=I (Zv h 0):=by simp[Yx]
 obtain⟨_,j9⟩|⟨g0,q1,t,j8,b2,g4,j6,j7,a9,f3⟩:=e8.2;omega;subst j8;have k0:¬q1=I (Zv h 0):=Z0;have R:g0≠b:=by
  intro e;obtain r|⟨_,r⟩:=a8;exact D (by rw[<-r,e];rfl);have:=(r.lt g0 rfl).1;omega
 have g7:g≠b:=q.aj p Z0 g (by rw[hx];rfl);have h5:g<xz (xj w):=((q.own.own p Z0).lt g (by rw[hx];rfl)).2;have c8:J g≠(x 0).ownBlock:=λe=>q.own.apart 0 p Z0 Z0 g e.symm (by rw[hx];rfl);have b3:g≠g0:=by
  intro e;obtain r|⟨_,r⟩:=a8;exact c8 (by rw[<-r,e];rfl);have:=(r.lt g0 rfl).1;omega
 obtain⟨w2,F⟩:∃w2,w2=w1.setCell ⟨b,5,U⟩ (.slice (J ⟨g0,0,U⟩) (I (Zv h 0)+n) q1):=⟨_,rfl⟩;have Q:w2.heap[g0]?=J (.cells t 24 (0,0)):=by rw[F,Zft _ _ _ _ R];exact g4
 have g8:∀c,c≠b->c<xz (xj w)->J c≠(x 0).ownBlock->w2.heap[c]?=w.heap[c]? :=λc M h2 h3=>by
  rw[F,Zft _ _ _ _ M,z.block c h2 h3]
 have N:w2.heap[b]?=J (.cells #[.int .u64 h.base,.int .i64 h.cap,.int .i64 h.to,.bool h.Z,.int .i64 h.aa,.slice (J ⟨g0,0,U⟩) (I (Zv h 0)+n) q1,x 1,x 2,x 3,x 4] 127 (0,0)):=by
  have:=(z.block b c5 D).trans q.blk;rw[F];simp[World.setCell,ZfH,this]
 have i6:w2.cell? ⟨b,5,U⟩=J (.slice (J ⟨g0,0,U⟩) (I (Zv h 0)+n) q1):=by rw[Zfg _ _ _ _ _ _ N];rfl
 have X:w2.ownsRow B 24 1 (x p) (I<|Zv h p)<|Yx .u64<|Zv h p:=WF (q.own.own p Z0) λc f=>by
  rw[hx]at f;cases f;exact g8 g g7 h5 c8
 obtain⟨K,a7⟩:∃K,K=Yx .u64 (((Zv h p).take<|a+n).drop a):=⟨_,rfl⟩;have O:I K=n:=by rw[a7];simp[Yx];omega
 have i3:∀j v,K[j]?=J v->w2.cell? ((⟨g,a,U⟩:Addr).add j)=J v:=by
  intro j v hv;have o:j<n:=by rw[<-O];exact(Zf3.1 hv).1
  rw[hx]at X;have:=X.cellAt (a+j) Z0;rw[ZgG,this];rw[a7]at hv;simp only[Yx]at hv⊢;rw[<-hv];simp[ZfE,show a+j<a+n by omega]
 obtain⟨w3,H⟩:∃w3,w3=w2.setRow g0 (t.toList.take (I<|Zv h 0)++(K++t.toList.drop (I (Zv h 0)+I K))).toArray:=⟨_,rfl⟩;have b1:I (Zv h 0)+I K<=t.size:=by rw[O];simp at a9;omega
 have i0:∀v∈K,v.oneCell'=xk:=by
  intro v hv;rw[a7]at hv;obtain⟨_,_,rfl⟩:=Zfj.1 hv;rfl
 have h9:I K=Nat.min n n:=by rw[O];simp
 have i4:(Sol.prog.info? 24).map (·.size)=J 1:=by rw[e4];simp[i2]
 have d:w3.heap[b]?=J (.cells #[.int .u64 h.base,.int .i64 h.cap,.int .i64 h.to,.bool h.Z,.int .i64 h.aa,.slice (J ⟨g0,0,U⟩) (I (Zv h 0)+n) q1,x 1,x 2,x 3,x 4] 127 (0,0)):=by
  rw[H,ZgZ _ _ _ _ R.symm];exact N
 have h6:∀c,c≠b->c≠g0->c<xz (xj w)->J c≠(x 0).ownBlock->w3.heap[c]?=w.heap[c]? :=λc M h2 h3 h4=>by
  rw[H,ZgZ _ _ _ _ h2];exact g8 c M h3 h4
 have k2:xz (xj w)<=xz (xj w3):=by
  have:=z.size;have e2:xz (xj w2)=xz (xj w1):=by rw[F];simp[World.setCell]
  have e3:xz (xj w3)=xz (xj w2):=by rw[H];simp[World.setRow]
  omega
 have j3:Zv (Xo h (p+1) a n) 0=Zv h 0++((Zv h p).take<|a+n).drop a:=by
  obtain rfl|rfl:=hp<;>rfl
 have h7:∀j,j≠0->Zv (Xo h (p+1) a n) j=Zv h j:=λj o=>by
  unfold Zv Xo;simp[o]
 have Y:∀j,j<5->w3.ownsRow B 24 1 (if j=0 then .slice (J ⟨g0,0,U⟩) (I (Zv h 0)+n) q1 else x j) (I<|Zv (Xo h (p+1) a n) j) (Yx .u64<|Zv (Xo h (p+1) a n) j):=by
  intro j o;by_cases e5:j=0;subst e5;rw[if_pos rfl,j3];have hd:I (((Zv h p).take<|a+n).drop a)=n:=Ze9;refine⟨by simp[Yx],.inr ⟨g0,q1,(t.toList.take (I<|Zv h 0)++(K++t.toList.drop (I (Zv h 0)+I K))).toArray,?_,b2,?_,?_,j7,?_,?_⟩⟩;rw[ZfN,hd];rw[H];exact Zji _ _ _ _ _ _ Q;rw[ZfN,hd];exact j6;simp[O]at a9 b1⊢;omega;have ht:t.toList.take (I<|Zv h 0)=Yx .u64 (Zv h 0):=by
   have:=Zgb (List.take<|I<|Zv h 0) f3;rw[List.take_take,Zjb Z0]at this;rw[this,List.take_left' h8]
  rw[ZfN,hd,ht];simp only[Zjk];rw[<-ZfM,List.take_left' (by simp[h8,O]),a7];simp[Yx];rw[if_neg e5,h7 j e5];have ho:=q.own.own j o
  exact WF ho λc f=>h6 c (q.aj j o c f) (λe=>by
   obtain r|⟨_,r⟩:=a8;exact q.own.apart 0 j Z0 o c (by rw[<-r,e];rfl) f;have M:=(r.lt g0 rfl).1;have h2:=(ho.lt c f).2;omega) (ho.lt c f).2 (λe=>q.own.apart 0 j Z0 o c e.symm f)
 have g5:∀j,0<j->j<5->(x j).ownBlock≠J g0:=λj h0 o f=>by
  obtain r|⟨_,r⟩:=a8;exact q.own.apart 0 j h0 o g0 (by rw[<-r];rfl) f;have M:=(r.lt g0 rfl).1;have h2:=((q.own.own j o).lt g0 f).2;omega
 have j1:∀j,j<5->j≠p->(x j).ownBlock≠J g:=λj o D f=>by
  have g9:(x p).ownBlock=J g:=by rw[hx];rfl
  obtain M|M:=ZhY D;exact q.own.apart j p M Z0 g f g9;exact q.own.apart p j M o g g9 f
 have g6:B<=g:=((q.own.own p Z0).lt g (by rw[hx];rfl)).1;have b4:=q.own.own p Z0;rw[hx]at b4;have Z:∀W:World,W.heap[g]?=w.heap[g]? ->W.ownsRow B 24 1 (.slice (J ⟨g,0,U⟩) (I<|Zv h p) cap) (I<|Zv h p) (Yx .u64<|Zv h p):=λW hW=>WF b4 λc f=>by
  cases f;exact hW
 have j4:I (Yx .u64<|Zv h p)=I (Zv h p):=by simp[Yx]
 have l:∀W:World,W.heap[g]?=w.heap[g]? ->(∀j,j<n->(W.cell? ⟨g,a+j,U⟩).isSome=xk)/\(∀j,j<n->W.frozen? ⟨g,a+j,U⟩=xw):=λW hW=>⟨λj o=>by
  rw[(Z W hW).cellAt (a+j) Z0];simp[j4];omega,λj o=>(Z W hW).frozenAt _⟩
 have j0:w3.heap[g]?=w.heap[g]? :=h6 g g7 b3 h5 c8;have HN:=Zfa q;have HO:=Zfa e8;have HG:=Zfa z;have f5:=Zfa F;have f8:=Zfa H;have f4:=Zfa Y;have d0:w3.cell? ⟨b,0,U⟩=J (Value.int .u64 h.base):=Zeh;have d1:w3.cell? ⟨b,1,U⟩=J (Value.int .i64 h.cap):=Zeh;have d2:w3.cell? ⟨b,2,U⟩=J (Value.int .i64 h.to):=Zeh;have d3:w3.cell? ⟨b,3,U⟩=J (Value.bool h.Z):=Zeh;have d4:w3.cell? ⟨b,4,U⟩=J (Value.int .i64 h.aa):=Zeh;have d5:w3.cell? ⟨b,5,U⟩=J (Value.slice (J ⟨g0,0,U⟩) (I (Zv h 0)+n) q1):=Zeh;have d6:w3.cell? ⟨b,6,U⟩=J (x 1):=Zeh;have d7:w3.cell? ⟨b,7,U⟩=J (x 2):=Zeh;have d8:w3.cell? ⟨b,8,U⟩=J (x 3):=Zeh;have d9:w3.cell? ⟨b,9,U⟩=J (x 4):=Zeh;have j5:(Xo h (p+1) a n).ok:=Ig hh (by obtain rfl|rfl:=hp<;>exact i8) e9 S;clear q e8 z F H Y;go_enter Sol.func71,Try.ntmps71
 go_wp2_with (first
  |(at_builtin;refine Lib.wpList_append_run _ rfl _ _ 35 3 rfl _ _ rfl rfl _ _ i1 ?_)
  |(rw[<-f5.out];refine wpList_copy_own rfl _ _ 35 35 rfl 24 Sol.underlying35 i4 g0 (I<|Zv h 0) n (q1- I (Zv h 0)) ⟨g,a,U⟩ n c' rfl rfl t 24 Q K h9 i3 b1 i0 ?_;rw[<-f8.out])
  |(go_at_call 64;refine(jx (h:=Xo h (p+1) a n) (x:=λj=>if j=0 then .slice (J ⟨g0,0,U⟩) (I (Zv h 0)+n) q1 else x j) (G:=λc=>B<=c/\c<xz (xj w3)) (by omega)<|λj o=>Ju (f4.out j o) (by omega)).mono ?_;rintro e w4 ⟨rfl,g3⟩;have y:=Zfa g3;clear g3)
  |(go_at_call 75;refine(Et j5.bf _ _ _).mono ?_;rintro e A ⟨rfl,a5⟩;have C:A.heap[g]?=w.heap[g]? :=(a5.block g (by have:=y.out.size;omega)).trans<|(y.out.block g<|by omega).trans j0;have k6:xz (xj w3)<=xz (xj A):=ZfB y.out.size a5.size;have b5:=Zfa a5;clear a5;obtain⟨w6,a3⟩:∃w6,w6=A.setCells g a (List.replicate n<|.int .u64 0):=⟨_,rfl⟩;have k7:xz (xj w6)=xz (xj A):=by {rw[a3];exact Of _ _ _ _};have c6:w6.cell? ⟨g,a,U⟩=J (.int .u64 0):=by {rw[a3];have:=World.cell?_setCells_in g (List.replicate n<|Value.int .u64 0) a A (by simpa using(l A C).1) 0 (by simpa using S);simpa using this};have f6:w6.frozen? ⟨g,a,U⟩=xw:=by {rw[a3,World.frozen?_setCells];exact(l A C).2 0 S};have a4:=Zfa a3;clear a3)
  |(refine Z9q _ rfl _ 35 rfl _ rfl _ (Lib.run_clear_slice _ _ 24 _ (.int .u64 0) Sol.underlying35 (qU e4 i5) rfl rfl g a n c' S (l A C).1 (l A C).2) ?_;rw[<-a4.out])
  |(go_at_call 95;refine(Z6h Z00 _).mono ?_;rintro e w7 ⟨rfl,a6⟩;have c7:=(a6.cell (p:=⟨g,a,U⟩) (by show g<xz (xj w6);omega)).trans c6;have f7:=(a6.frozen (p:=⟨g,a,U⟩) (by show g<xz (xj w6);omega)).trans f6;have b6:=Zfa a6;clear a6))
 go_ret
 have b7:Below B w w3:=by
  rw[f8.out,f5.out];exact Go.below_setRow (Below.setCell (p:=⟨b,5,U⟩) ((Zfr B w).grown HG.out hB<|λk hk=>((HN.out.own.own 0 Z0).lt k hk).1) HN.out.new _) b2 _
 have i7:B<=xz (xj w3):=Z0;have b8:Below B w A:=(b7.trans<|y.out.mono i7).trans<|b5.out.mono (by have:=y.out.size;omega);have b9:Below B w w6:=by rw[a4.out];exact Oc g6 _ _ _ _ b8
 have c0:Below B w w7:=b9.trans<|b6.out.mono Z0;have k5:=y.out.size;have k3:=b5.out.size;have f9:∀(c:Nat) (u:Value),c≠g->c<xz (xj w3)->(w7.setCell ⟨g,a,U⟩ u).heap[c]?=w3.heap[c]? :=λc u M h2=>by
  rw[Zft _ _ _ _ M,b6.out.block c Z0,a4.out,Oe M,b5.out.block c Z0,y.out.block c h2]
 have C:A.heap[g]?=w.heap[g]? :=Z0;have a1:=IZ (L:=Zv h p) a n 0 A Z0<|Z A C;have e6:A.setCells g (a+0) (List.replicate n<|.int .u64 0)=w6:=a4.out.symm;rw[e6,ZfQ]at a1;have f2:=WF (w':=w7) a1 λc f=>by
  cases f;exact b6.out.block g Z0
 have a2:=(f2.stored a<|.int .u64<|Sy h (p+1) a n).1;rw[<-yV]at a2;refine⟨λj=>if j=0 then .slice (J ⟨g0,0,U⟩) (I (Zv h 0)+n) q1 else x j,rfl,c0.setCell g6 _,?_,⟨?_,?_⟩,?_,HN.out.new⟩;rw[f9 b _ Z0 Z0,d];obtain rfl|rfl:=hp<;>rfl;intro j o;by_cases e7:j=p;subst e7;have r:Zv (Xj (Xo h (j+1) a n) (j+1)<|(zr (Zv h j) a n).set a<|Sy h (j+1) a n) j=(zr (Zv h j) a n).set a (Sy h (j+1) a n):=by
  obtain rfl|rfl:=hp<;>rfl
 rw[r,if_neg Z0,hx,Zh5,ju];exact a2;have r:Zv (Xj (Xo h (p+1) a n) (p+1)<|(zr (Zv h p) a n).set a<|Sy h (p+1) a n) j=Zv (Xo h (p+1) a n) j:=by
  have:j=0\/j=1\/j=2\/j=3\/j=4:=Z0;obtain rfl|rfl:=hp<;>obtain rfl|rfl|rfl|rfl|rfl:=this<;>first|rfl|exact(e7 rfl).elim
 rw[r];have ho:=f4.out j o;refine WF ho λc f=>f9 c _ (λe=> ?_) (ho.lt c f).2;subst e;by_cases h0:j=0;rw[if_pos h0]at f;cases f;exact b3 rfl;rw[if_neg h0]at f;exact j1 j o e7 f;intro i j j2 o c f;rw[if_neg Z0];by_cases h0:i=0;rw[if_pos h0]at f;cases f;exact g5 j Z0 o;rw[if_neg h0]at f;exact HN.out.own.apart i j j2 o c f;intro j o c f;by_cases h0:j=0;rw[if_pos h0]at f;cases f;exact R;rw[if_neg h0]at f;exact HN.out.aj j o c f
end Vm
namespace Vm
open Go Go.Proofs Go.RowKit
def Z27 w B b h x(f:Now B w b h x)(o:h.ok)p a(q:p=2\/p=3)g cap
  (hx:x p=.slice (J ⟨g,0,U⟩) (I<|Zv h p) cap) (y:a< I (Zv h p)):
  Calls Sol.prog 68 #[.pointer<|J ⟨b,0,U⟩,.agg #[.int .i64<|p+1,.int .i64 a]] w λe r=>e=.returned (.slice (J ⟨g,a,U⟩) (I (Zv h p)-a)<|cap-a)/\Below (xz<|xj w) w r:=by
 have d:=Yv f.blk;have z:=Jf o p;have l:I (Zv h p)<=cap:=by
  have:=(f.own.own p Z0).2;rw[hx]at this;obtain⟨j,_⟩|⟨_,_,_,j,_,_,n,_⟩:=this;cases j;cases j;exact n
 obtain rfl|rfl:=q
 .have t:(w.alloc<|.cells #[.int .i64 3,.int .i64 a] 72).cell? ⟨b,7,U⟩=J (.slice (J ⟨g,0,U⟩) (I<|Zv h 2) cap):=by
   rw[Zgz _ _ _ d,Zfg _ _ _ _ _ _ f.blk,<-hx];rfl
  have k:(I (Zv h 2):Int)<=9223372036854775807:=Z0;go_enter Sol.func68,Try.ntmps68;go_wp2;go_region;go_wp2;go_ret
  exact⟨rfl,((Zfr _ _).alloc Z0 _).drew⟩
 .have u:(w.alloc<|.cells #[.int .i64 4,.int .i64 a] 72).cell? ⟨b,8,U⟩=J (.slice (J ⟨g,0,U⟩) (I<|Zv h 3) cap):=by
   rw[Zgz _ _ _ d,Zfg _ _ _ _ _ _ f.blk,<-hx];rfl
  go_enter Sol.func68,Try.ntmps68;go_wp2;go_region;go_wp2;go_ret
  exact⟨rfl,((Zfr _ _).alloc Z0 _).drew⟩
end Vm
namespace Vm
open Go Go.Proofs Go.RowKit
def FwdPost(w:World)(r:Int×Hp×Int)(e:Ending)(w':World):Prop:=
 ∃x,e=.returned (.tuple #[.int .u64 r.1,ZN r.2.1 x,.int .i64 r.2.2])/\Below (xz<|xj w) w w'/\HOwn (xz<|xj w) w' r.2.1 x
def IY{B' B}{w:World}{e n v l}(h:w.ownsRow B' e 1 v n l)(k:∀c,B'<=c->c<xz (xj w)->B<=c/\c<xz (xj w)):w.ownsRow B e 1 v n l:=by
 refine⟨h.1,?_⟩;obtain d|⟨g,cap,a,j,o,f,r⟩:=h.2;exact .inl d;exact .inr ⟨g,cap,a,j,Ze7,f,r⟩
def Pz w' G:∀j,j<5->Rd w' G (.sl<|(Zv Hp.zero j).map vu) (.slice U 0 0):=λj a=>by
 have:Zv Hp.zero j=[]:=by
  unfold Zv Hp.zero;split;rfl;split;rfl;split;rfl;split<;>rfl
 rw[this];exact .nil _ _ Zen
def Z9E B w':HOwn B w' Hp.zero (λ_=>.slice U 0 0):=⟨λj d=>by
 have:Zv Hp.zero j=[]:=by
  unfold Zv Hp.zero;split;rfl;split;rfl;split;rfl;split<;>rfl
 rw[this];exact Zgv _ _ _ _,λi j _ _ c a=>by cases a⟩
def DV(w:World)o:((w.alloc o).alloc<|.cells #[.int .u64 0,.int .i64 0,.int .i64 0,.bool xw,.int .i64 0,.slice U 0 0,.slice U 0 0,.slice U 0 0,.slice U 0 0,.slice U 0 0] 37).heap[xz (xj w)+1]?=J (.cells Ya 37 (0,0)):=by
 have e:xz (xj<|w.alloc o)=xz (xj w)+1:=Z1;have:=ZfG (w.alloc o)<|.cells Ya 37;rw[e]at this;exact this
end Vm
namespace Vm
open Go Go.Proofs Go.RowKit
def DN(h:Hp)(x:Nat->Value):Obj:=.cells #[.int .u64 h.base,.int .i64 h.cap,.int .i64 h.to,.bool h.Z,.int .i64 h.aa,x 0,x 1,x 2,x 3,x 4] 127
def Z4V{B a h x}(f:HOwn B a h x)(k:B<=xz (xj a)):Now B (a.alloc<|DN h x) (xz<|xj a) h x:=by
 refine⟨ZfG a _,⟨λj d=> ?_,f.apart⟩,λj d c g=> ?_,k⟩;exact WF (f.own j d) λc g=>Zfp _ _ _ ((f.own j d).lt c g).2;have:=((f.own j d).lt c g).2;omega
def BV{w:World}{B n q e z a v xs}(h:w.ownsRow B e z v n xs)(j:v=.slice a n q)(l:0<n):∃g,a=J ⟨g,0,U⟩:=by
 subst j;obtain⟨_,k⟩|⟨g,cap,d,f,_⟩:=h.2;omega;cases f;exact⟨g,rfl⟩
def Z5z{w:World}{B n q e z a xs}(h:w.ownsRow B e z (.slice a n q) n xs)(o:0<n):n<=q/\q<=maxLen:=by
 obtain⟨_,l⟩|⟨g,cap,d,k,_,_,f,j,_⟩:=h.2;omega;cases k;exact⟨f,j⟩
def Z5A{w:World}{B g cap l}(h:w.ownsRow B 24 1 (.slice (J ⟨g,0,U⟩) (I l) cap) (I l)<|Yx .u64 l){i v}(a:l[i]?=J v):w.cell? ⟨g,i,U⟩=J (.int .u64 v):=by
 let⟨d,f⟩:=Zf3.1 a;rw[h.cellAt i Z0];simp[Yx,a]
abbrev UK:=List<|Nat×Array Value×TypeId
structure Kp (w W:World) (L:UK):Prop where
 ft:Below (xz<|xj w) w W
 row:∀x∈L,W.heap[x.1]?=J (.cells x.2.1 x.2.2 (0,0))
def Kf(W:World):UK->Prop
 | []=>True
 |x::L=>((∀j,W.cell? ⟨x.1,j,U⟩=x.2.1[j]?)/\∀j,W.frozen? ⟨x.1,j,U⟩=xw)/\Kf W L
def Kp.below{w W a:World}{L:UK}(k:Kp w W L)(d:Below (xz<|xj W) W a):Kp w a L:=⟨k.ft.trans<|d.mono k.ft.size,λx f=>(d.block _<|Yv<|k.row x f).trans<|k.row x f⟩
def Kp.alloc{w W:World}{L:UK}(k:Kp w W L)(cs:Array Value)(T:TypeId){n:Nat}(d:xz (xj W)=n:=by rfl):Kp w (W.alloc<|.cells cs T)<|(n,cs,T)::L:=by
 subst d;refine⟨k.ft.alloc k.ft.size _,λx a=> ?_⟩;obtain rfl|a:=Zfz.1 a;exact ZfG W _;rw[Zfp _ _ _<|Yv<|k.row x a];exact k.row x a
def Kp.F{w W:World}:∀ {L:UK},Kp w W L->Kf W L
 | [],_=>trivial
 |x::L,k=>⟨⟨λj=>Zfg _ _ _ _ _ _<|k.row x<|.head _,λj=>Yw<|k.row x<|.head _⟩,Kp.F ⟨k.ft,λy a=>k.row y<|.tail _ a⟩⟩
def Now.below{B b:Nat}{W a:World}{h:Hp}{x:Nat->Value}(s:Now B W b h x)(d:Below (xz<|xj W) W a):Now B a b h x:=
 ⟨(d.block _<|Yv s.blk).trans s.blk,⟨λj f=>WF (s.own.own j f) λc g=>d.block _ ((s.own.own j f).lt c g).2,s.own.apart⟩,s.aj,s.new⟩
abbrev UD(h:Hp)(a:Nat->Option Addr)(q:Nat->Nat):Nat->Value:=λj=>.slice (a j) (I<|Zv h j)<|q j
def HOwn.nf{B:Nat}{w:World}{h:Hp}{x:Nat->Value}(o:HOwn B w h x):∃a q,ZN h x=ZN h (UD h a q)/\HOwn B w h (UD h a q):=by
 have:∀j,∃p:Option Addr×Nat,j<5->x j=.slice p.1 (I<|Zv h j) p.2:=λj=>by
  by_cases d:j<5;obtain⟨a,q,e⟩:=V6<|o.own j d;exact⟨(a,q),λ_=>e⟩;exact⟨(U,0),λh=>absurd h d⟩
 obtain⟨f,e⟩:=Zhs this;refine⟨λj=>(f j).1,λj=>(f j).2,?_,λj d=> ?_,λi j g d c k=> ?_⟩;simp only[ZN,e 0 Z0,e 1 Z0,e 2 Z0,e 3 Z0,e 4 Z0];have:=o.own j d;rwa[e j d]at this;have:=o.apart i j g d c;rw[e i Z0,e j d]at this;exact this k
def Z9F{w W:World}{L:UK}(k:Kp w W L){rb:Nat}(a:xz (xj w)<=rb){r:Int×Hp×Int}{c:Int}(e:r=(0,Hp.zero,c)):
  FwdPost w r (.returned<|.tuple #[.int .u64 0,.agg Ya,.int .i64 r.2.2]) (TE W rb (.int .u64 0) (.int .i64 0) (.int .i64 0) (.bool xw) (.int .i64 0) (.slice U 0 0) (.slice U 0 0) (.slice U 0 0) (.slice U 0 0)<|.slice U 0 0):=by
 subst e;exact⟨λ_=>.slice U 0 0,by simp[ZN,Hp.zero,Ya],Uy k.ft a,Z9E _ _⟩
def FwdPost.drew{w W:World}{r:Int×Hp×Int}{e:Ending}(p:FwdPost w r e W):FwdPost w r e W.drew:=by
 obtain⟨x,d,f,a⟩:=p;exact⟨x,d,f.drew,⟨λj g=>WF (a.own j g) λc h=>rfl,a.apart⟩⟩
def Gw{w W:World}{rb B:Nat}{L:UK}(k:Kp w W L)(f:xz (xj w)<=rb)(p:rb<B){h:Hp}{x:Nat->Value}(o:HOwn B W h x){r:Int×Hp×Int}(c:Int)(e:r=(c,h,0)):
  FwdPost w r (.returned<|.tuple #[.int .u64 c,ZN h x,.int .i64 0]) (RF W rb h x):=by
 subst e;refine⟨x,rfl,Uy k.ft f,λj l=> ?_,o.apart⟩;have a:=o.own j l;exact IY (WF a λc g=>Si (by have:=(a.lt c g).1;omega)) λc n d=>⟨Z0,d⟩
def Ed(w:World)(G:Nat->Prop)(n:∀b,G b->b<xz (xj w))(h:Hp)(p:h.ok)(d:Nat->Value)(t:∀j,j<5->Rd w G (.sl<|(Zv h j).map vu) (d j)):
  Calls Sol.prog 66 #[ZN h d] w λe g=>∃a q,e=.returned (ZN h<|UD h a q)/\Below (xz<|xj w) w g/\HOwn (xz<|xj w) g h (UD h a q):=
 (l9 w G n h p d t).mono λe g ⟨x,k,o,r⟩=>by
  obtain⟨a,q,l,f⟩:=r.nf;exact⟨a,q,by rw[k,l],o,f⟩
def Z2c{h:Hp}(P:h.ok){v:Int}(S:ZB v):
  (ZI (Zu h)=xw/\fwd h v=(0,Hp.zero,1))\/(ZI (Zu h)=xk/\¬v=0/\¬(adr v).2=0/\fwd h v=(0,Hp.zero,3))\/(ZI (Zu h)=xk/\¬v=0/\(adr v).2=0/\¬(Yg (Zu h) (adr v).1).2.2=0/\fwd h v=(0,Hp.zero,6))\/
  (ZI (Zu h)=xk/\v=0/\fwd h v=(0,h,0))\/(∃(part:Int) (at_:Nat),ZI (Zu h)=xk/\¬v=0/\(adr v).2=0/\Yg (Zu h) (adr v).1=(part,(at_:Int),0)/\(part=1\/part=2)/\fwd h v=(v,h,0))\/
  ∃(j at_:Nat) (f:Int),ZI (Zu h)=xk/\¬v=0/\(adr v).2=0/\Yg (Zu h) (adr v).1=((j:Int)+1,(at_:Int),0)/\(j=2\/j=3)/\(Zv h j)[at_]?=J f/\ZB f/\
   (((adr f).2=0/\fwd h v=(f,h,0))\/(¬(adr f).2=0/\∃(sz:Nat) (pt x:Int),ZR f=((sz:Int),pt,x)/\sz<=255/\
     ((¬x=0/\fwd h v=(0,Hp.zero,3))\/(x=0/\I (Zv h j)<at_+(sz+1)/\fwd h v=(0,Hp.zero,2))\/
       (x=0/\at_+(sz+1)<=I (Zv h j)/\XQ (Zu h)< ((sz+1:Nat):Int)/\fwd h v=(0,Hp.zero,7))\/
       (x=0/\at_+(sz+1)<=I (Zv h j)/\¬XQ (Zu h)< ((sz+1:Nat):Int)/\
        fwd h v=(Sy h ((j:Int)+1) at_<|sz+1,Xj (Xo h ((j:Int)+1) at_<|sz+1) ((j:Int)+1)<|(zr (Zv h j) at_<|sz+1).set at_<|Sy h ((j:Int)+1) at_<|sz+1,0))))):=by
 cases p:ZI<|Zu h;exact .inl ⟨rfl,by simp[fwd,p]⟩;by_cases a:v=0;exact .inr<|.inr<|.inr<|.inl ⟨rfl,a,by simp[fwd,p,a]⟩;by_cases o:(adr v).2=0;case neg=>exact .inr<|.inl ⟨rfl,a,o,by simp[fwd,p,a,o]⟩
 by_cases D:(Yg (Zu h) (adr v).1).2.2=0;case neg=>exact .inr<|.inr<|.inl ⟨rfl,a,o,D,by simp[fwd,p,a,o,D]⟩
 obtain⟨_,L,M,N,G,_⟩:=Z1O D;rw[Td ⟨L,M⟩]at G;obtain⟨k,K⟩:=Zfi N;have t:Yg (Zu h) (adr v).1=((Yg (Zu h) (adr v).1).1,(k:Int),0):=by rw[<-K,<-D]
 rw[K]at G;generalize (Yg (Zu h) (adr v).1).1=part at*;by_cases u:part<3;exact .inr<|.inr<|.inr<|.inr<|.inl ⟨part,k,rfl,a,o,t,Z0,by simp[fwd,p,a,o,t,u]⟩;obtain⟨j,Q,rfl,l⟩:∃j:Nat,(j=2\/j=3)/\(j:Int)+1=part/\Zx h part=Zv h j:=by
  have:part=3\/part=4:=Z0;obtain rfl|rfl:=this;exact⟨2,.inl rfl,rfl,rfl⟩;exact⟨3,.inr rfl,rfl,rfl⟩
 have r:=(XG P<|(j:Int)+1).1;rw[l]at G r;have y:k< I (Zv h j):=Z0;have C:(Zv h j)[k]?=J (Zv h j)[k]:=Zf4 y;replace r:=r _<|Zfq y;generalize (Zv h j)[k]=f at*;have z:(Zv h j).getD k 0=f:=by simp[List.getD,C]
 refine .inr<|.inr<|.inr<|.inr<|.inr ⟨j,k,f,rfl,a,o,t,Q,C,r,?_⟩;by_cases g:(adr f).2=0;exact .inl ⟨g,by simp[fwd,p,a,o,t,u,l,-List.getD_eq_getElem?_getD,z,g]⟩;refine .inr ⟨g,?_⟩;by_cases d:(ZR f).2.2=0;have R:=YE.1<|DB (w:=f) d;obtain⟨n,F⟩:=Zfi R.1;have H:ZR f=((n:Int),(ZR f).2.1,(ZR f).2.2):=by rw[<-F]
 refine⟨n,_,_,H,Z0,.inr ?_⟩;by_cases q:I (Zv h j)<k+(n+1);exact .inl ⟨d,q,by simp[fwd,R2,p,a,o,t,u,l,-List.getD_eq_getElem?_getD,z,g,d,F,q]⟩;by_cases A:XQ (Zu h)< ((n+1:Nat):Int);exact .inr<|.inl ⟨d,Z0,A,by simp[fwd,R2,p,a,o,t,u,l,-List.getD_eq_getElem?_getD,z,g,d,F,q];omega⟩;refine .inr<|.inr ⟨d,Z0,A,?_⟩;have B:¬XQ (Zu h)< (n:Int)+1:=Z0;simp only[fwd,p,a,o,t,Zg3,Zg1,ZhR,ne_eq,ZiP];simp[-List.getD_eq_getElem?_getD,u,l,z,g,F,d,R2,q,B];exact⟨rfl,rfl⟩;have O:ZR f=(((0:Nat):Int),(ZR f).2.1,(ZR f).2.2):=by
  unfold ZR at d⊢;split;rename_i c;rw[if_pos c]at d;exact absurd rfl d;rfl
 exact⟨0,_,_,O,Z0,.inl ⟨d,by simp[fwd,p,a,o,t,u,l,-List.getD_eq_getElem?_getD,z,g,d]⟩⟩
abbrev FwQ{w W:World}{L:UK}{B b c d:Nat}{h:Hp}{x:Nat->Value}{r s:Array Value}{T S:TypeId}(_:Hid<|Kp w W L)(_:Hid<|Now B W b h x)(_:(c,r,T)∈L)(_:(d,s,S)∈L)(W:World):Prop:=
 (∀j,W.cell? ⟨c,j,U⟩=r[j]?)/\(∀j,W.cell? ⟨d,j,U⟩=s[j]?)/\Kp w W L/\Now B W b h x
theorem FwQ.of{w W V:World}{L:UK}{B b c d:Nat}{h:Hp}{x:Nat->Value}{r s:Array Value}{T S:TypeId}{k:Hid (Kp w W L)}{n:Hid (Now B W b h x)}{m:(c,r,T)∈L}{m':(d,s,S)∈L}(e:Kp w V L)(o:Now B V b h x):FwQ k n m m' V:=
 ⟨λj=>Zfg _ _ _ _ _ _<|e.row _ m,λj=>Zfg _ _ _ _ _ _<|e.row _ m',e,o⟩
def Kp.drew{w W:World}{L:UK}(k:Kp w W L):Kp w W.drew L:=⟨k.ft.drew,k.row⟩
def Now.drew{B b:Nat}{W:World}{h:Hp}{x:Nat->Value}(s:Now B W b h x):Now B W.drew b h x:=⟨s.blk,⟨λj a=>WF (s.own.own j a) λc d=>rfl,s.own.apart⟩,s.aj,s.new⟩
def Kp.sub{w W a:World}{L:UK}(k:Kp w W L){B c:Nat}{r:Array Value}{T:TypeId}(d:Below B W a)(f:xz (xj w)<=B)(m:(c,r,T)∈L)(hc:c<B):Kp w a [(c,r,T)]:=
 ⟨k.ft.trans<|d.mono f,λx g=>by
  cases Zg2.1 g;exact(d.block _ hc).trans (k.row _ m)⟩
def Now.nf{B b:Nat}{W:World}{h:Hp}{x:Nat->Value}(s:Now B W b h x):∃a q,Now B W b h<|UD h a q:=by
 obtain⟨a,q,e,o⟩:=s.own.nf;simp only[ZN,Value.agg.injEq]at e;have d:=s.blk;rw[e]at d;refine⟨a,q,d,o,λj f c g=> ?_,s.new⟩;simp at e;have:=s.aj j f c
 match j,f with
 |0,_|1,_|2,_|3,_|4,_=>simp_all
def qg{w:World}{B g cap:Nat}{l:List Int}{a:Option Addr}(h:w.ownsRow B 24 1 (.slice a (I l) cap) (I l)<|Yx .u64 l)(d:a=J ⟨g,0,U⟩){i:Nat}{v:Int}(f:l[i]?=J v):w.cell? ⟨g,i,U⟩=J (.int .u64 v):=by
 subst d;exact Z5A h f
def E7(w:World)(G:Nat->Prop)(hG:∀b,G b->b<xz (xj w))(h:Hp)(hh:h.ok)(f:Nat->Value)(hs:∀j,j<5->Rd w G (.sl<|(Zv h j).map vu) (f j))(v:Int)(hv:ZB v):
  Calls Sol.prog 33 #[ZN h f,.int .u64 v] w (FwdPost w<|fwd h v):=by
 have HS:=Zfa hs;have K:=Zfa hh;have HW:=Z2c hh hv;clear hs hh;have KZ:=Zfa<|((Kp.mk (Zfr (xz<|xj w) w) (L:=[]) nofun).alloc #[.int .u64 h.base,.int .i64 h.cap,.int .i64 h.to,.bool h.Z,.int .i64 h.aa,f 0,f 1,f 2,f 3,f 4] 37).alloc Ya 37 (n:=xz (xj w)+1) Z1;unfold ZN;go_enter Sol.func33,Try.ntmps33;obtain⟨hr,d⟩|⟨hr,a1,h1,d⟩|⟨hr,a1,h1,h2,d⟩|⟨hr,rfl,d⟩|⟨part,at_,hr,a1,h1,hf,rfl|rfl,d⟩|⟨j,at_,wd,hr,a1,h1,hf,O,u,b0,H⟩:=HW
 rotate_right
 have h5:j<5:=Z0;have hp:(j:Int)+1=3\/(j:Int)+1=4:=by clear H;omega
 have b4:=(Zf3.1 u).1;have e4:=Jf K.out j;obtain⟨m,hm⟩:∃m,I (Zv h j)-at_=m:=⟨_,rfl⟩;have e2:0<m:=Z0;have e3:(0:Int)< (m:Int):=Z0;have hz:at_+0=at_:=rfl;have e5:m<=1000000:=Z0;have e1:at_+m=I (Zv h j):=Z0;generalize b5:(j:Int)+1=part at hp hf;obtain⟨H,d⟩|⟨H,sz,pt,er,c0,f5,⟨Z,d⟩|⟨Z,t,d⟩|⟨Z,t,a8,d⟩|⟨Z,t,a8,d⟩⟩:=H;iterate 5 (obtain rfl|rfl:=hp;rotate_left 2)
 all_goals
  go_wp2_with (first
   |(go_at_call 68;obtain⟨g,hg⟩:=BV (N6.out.own.own j h5) rfl (by omega);have a0:=Z27 _ _ _ h _ N6.out K.out j at_ O g (q j) (by simp[UD,hg]) b4;rw[b5,hm]at a0;refine a0.mono ?_;clear a0;rintro e w7 ⟨rfl,B⟩;have e0:=Z5z (N6.out.own.own j h5) (by omega);obtain⟨qm,b6⟩:∃qm,q j-at_=qm:=⟨_,rfl⟩;rw[b6];have k7:=K6.out.below B;have n:=N6.out.below B;have b9:=B.size;simp at b9;have k:=k7.F;simp only[Kf,Ya]at k;obtain⟨⟨n7,m7⟩,⟨p7,_⟩,⟨c7,f7⟩,⟨y7,z7⟩,_⟩:=k;have d7:=qg (n.own.own j h5) hg u;have Q:=Zfa n.own;have N7:=Zfa n;have K7:=Zfa k7;have l:=K7;clear k7 B n n6 m6 p6 c6 f6 y6 z6)
   |(go_at_call 44;have k7:=K7.out;refine(SI b0 _).mono ?_;rintro e w8 ⟨rfl,C⟩;have k8:=k7.below C;have n:=N7.out.below C;have e9:=C.size;have k:=k8.F;simp only[Kf,Ya]at k;obtain⟨⟨n8,m8⟩,⟨p8,_⟩,⟨c8,f8⟩,⟨y8,z8⟩,_⟩:=k;have d8:=qg (n.own.own j h5) hg u;have Q:=Zfa n.own;have N8:=Zfa n;have K8:=Zfa k8;have l:=K8;clear k7 k8 C n n7 m7 p7 c7 f7 y7 z7 d7)
   |(go_at_call 69;refine(JO b0 _).mono ?_;rintro e w9 ⟨rfl,D⟩;rw[c0];dsimp only;have f0:=D.size;have k9:=(K8.out.below D).alloc #[.int .i64 (sz:Nat),.int .i64 pt] 52;have n:=(N8.out.below D).below<|(Zfr _ _).alloc (Zf9 _)<|.cells #[.int .i64 (sz:Nat),.int .i64 pt] 52;have k:=k9.F;simp only[Kf,Ya]at k;obtain⟨⟨s9,_⟩,⟨n9,m9⟩,⟨p9,_⟩,⟨c9,f9⟩,⟨y9,z9⟩,_⟩:=k;have d9:=qg (n.own.own j h5) hg u;have Q:=Zfa n.own;have N9:=Zfa n;have K9:=Zfa k9;have l:=K9;clear k9 D n n8 m8 p8 c8 f8 y8 z8 d8)
   |(go_at_call 64;refine(jx (h:=h) (x:=f) (G:=G) (λc hc=>by have:=hG c hc;simp;omega) (λj O=>(HS.out j O).keep (λb z=>by have:=hG b z;rw[Zfp _ _ _ (by simp;omega),Zfp _ _ _ (by omega)])<|λ_ h=>h)).mono ?_;rintro e w1 ⟨rfl,W⟩;unfold Sb;have K1:=Zfa<|KZ.out.below W;have a9:=W.size;simp at a9;clear W)
   |(go_at_call 65;refine(Z79 K.out.bf _).mono ?_;rintro e w2 ⟨rfl,X⟩;rw[hr];have k2:=(K1.out.alloc _ _).below X;have b7:=X.size;simp at b7;have k:=k2.F;simp only[Kf,Ya]at k;obtain⟨⟨c2,f2⟩,⟨y2,z2⟩,⟨x2,_⟩,_⟩:=k;have K2:=Zfa k2;have l:=K2;clear k2 X)
   |(go_at_call 44;refine(SI hv _).mono ?_;rintro e w3 ⟨rfl,o⟩;have k3:=K2.out.below o;have e7:=o.size;have k:=k3.F;simp only[Kf,Ya]at k;obtain⟨⟨c3,f3⟩,⟨y3,z3⟩,⟨x3,_⟩,_⟩:=k;have K3:=Zfa k3;have l:=K3;clear k3 o c2 f2 y2 z2 x2)
   |(go_at_call 67;refine(Z1N K.out.bf (Z01 hv) _).mono ?_;rintro e w4 ⟨rfl,Y⟩;(try (rw[hf];dsimp only));have e8:=Y.size;have k4:=K3.out.below Y;have k:=λcs T=>(k4.alloc cs T).F;simp only[Kf,Ya,forall_and]at k;obtain⟨_,⟨c4,f4⟩,⟨y4,z4⟩,⟨x4,_⟩,_⟩:=k;have K4:=Zfa k4;have l:=Zfa<|k4.alloc #[.int .i64 (Yg (Zu h) (adr v).1).1,.int .i64 (Yg (Zu h) (adr v).1).2.1] 72;clear k4 Y c3 f3 y3 z3 x3)
   |(go_at_call 66;have kg:=K4;refine(Ed _ G (λb z=>by have:=hG b z;simp;omega) h K.out f (λj O=>(HS.out j O).keep (λb z=>(K4.out.ft.alloc (by have:=K4.out.ft.size;omega) _).block b<|hG b z)<|λ_ h=>h)).mono ?_;rintro e w5 ⟨a,q,rfl,A,a7⟩;have k5:=(K4.out.alloc _ _).below A;have b8:=A.size;simp at b8;have hN:=Z4V a7 A.size;have k6:Kp w (w5.alloc<|DN h<|UD h a q) _:=k5.alloc _ _;unfold ZN;unfold DN at k6 hN;dsimp only[UD]at k6 hN⊢;have k:=k6.F;simp only[Kf,Ya]at k;obtain⟨⟨n6,m6⟩,⟨p6,_⟩,⟨c6,f6⟩,⟨y6,z6⟩,_⟩:=k;have Q:=Zfa hN.own;have N6:=Zfa hN;have K6:=Zfa k6;have l:=K6;clear kg k5 k6 hN A a7 c4 f4 y4 z4 x4)
   |(go_at_call 66;refine(Ed _ G (λb z=>by have:=hG b z;omega) h K.out f<|λj O=>(HS.out j O).keep (λb z=>K2.out.ft.block b<|hG b z) (λ_ h=>h)).mono ?_;rintro e w3 ⟨a,q,rfl,o,a6⟩;unfold ZN;dsimp only[UD];have k3:=K2.out.below o;have k:=k3.F;simp only[Kf,Ya]at k;obtain⟨⟨c3,f3⟩,⟨y3,z3⟩,⟨x3,_⟩,_⟩:=k;have l:=Zfa k3;have Q:=Zfa a6;clear k3 o a6))
  try
   generalize f1:sz+1=sm at a8 t d;have g3:IntKind.i64.wrap ((sz:Int)+1)=(sm:Int):=by rw[Zz ((sz:Int)+1) Z0 Z0];omega
   have a9:(sm:Int)<=(qm:Int):=Z0;have e6:(0:Int)<=(sm:Int):=Z0;have HL:=Zfa t;have S:=FwQ.of (k:=K9) (n:=N9) (m:=.tail _<|.tail _<|.tail _<|.head _) (m':=.head _) K9.out.drew N9.out.drew;clear s9 n9 m9 p9 c9 f9 y9 z9 d9 t
   go_region_held3 (FwQ K9 N9 (.tail _<|.tail _<|.tail _<|.head _)<|.head _) (first|exact S|assumption)
    (first|(go_at_call 70;refine(Z7c K.out.bf _).mono ?_;rintro e d0 ⟨rfl,M⟩;have S:=FwQ.of (k:=K9) (n:=N9) (m:=.tail _<|.tail _<|.tail _<|.head _) (m':=.head _) (S.2.2.1.below M)<|S.2.2.2.below M))
   obtain⟨-,-,a2,a4⟩:=S;rename_i R;clear R;have k:=a2.F;simp only[Kf,Ya]at k;obtain⟨⟨c5,_⟩,⟨b1,c1⟩,⟨BY,_⟩,⟨F3,b3⟩,⟨d5,d6⟩,_⟩:=k;have b2:=qg (a4.own.own j h5) hg u;have a5:=Zfa a2;have l:=a5;have P:=Zfa a4;clear a2 a4;go_wp2_with (first|(go_at_call 71;refine(Z1f d0 _ _ h _ P.out (by have:=Yv P.out.blk;have:=P.out.new;omega) K.out j at_ sm O Z0 Z0 Z0 g (q j) (by simp[UD,hg]) (by have:=HL.out;omega) qm).mono ?_;rintro e g4 ⟨x',rfl,N,y⟩;obtain⟨a',q',y⟩:=y.nf;generalize Sy h ((j:Int)+1) at_ sm=to at*;generalize Xj (Xo h ((j:Int)+1) at_ sm) ((j:Int)+1) ((zr (Zv h j) at_ sm).set at_ to)=h' at*;have a3:=a5.out.sub N (by have:=K1.out.ft.size;simp;omega) (c:=xz (xj w)+1) (r:=Ya) (T:=37) Z1 Ze9;have k:=a3.F;have n:=λj=>Zfg _ _ j _ _ _ y.blk;simp only[Kf,Ya]at k;dsimp only[UD]at n;have Q:=Zfa y.own;have l:=Zfa a3;clear a3 N y c5 b1 c1 BY F3 b3 d5 d6 b2))
  have r:=Jz<|l.out.row (xz (xj w)+1,Ya,37) Z1;dsimp only at r;first
  |go_region
   all_goals
    go_wp2;try simp only[Exit.inBlock,Exit.then]
    refine ZfV ?_ rfl (Gw l.out Z0 Ze9 Q.out _ d).drew
  |have p:=Z9F l.out (rb:=xz (xj w)+1) (by omega) d
   refine ZfV ?_ rfl p
  |have p:=Gw l.out (rb:=xz (xj w)+1) (by omega) (by omega) Q.out _ d
   refine ZfV ?_ rfl p
  all_goals simp[results,Try.results33,go_sem,r,ZN,UD,Ya,d]
end Vm
namespace Vm
open Go Go.Proofs Go.RowKit
def Ri{w G k n v}(r:Rd w G (.int k n) v):v=.int k n:=by cases r;rfl
def Nt{w G b v}(r:Rd w G (.bool b) v):v=.bool b:=by cases r;rfl
def AF{w G h v}(r:Rd w G (ZK h) v):∃f,v=ZN h f/\∀j,j<5->Rd w G (.sl<|(Zv h j).map vu) (f j):=by
 cases r with
 |agg _ vs t _ a=>
  refine⟨λj=>vs.getD (5+j) undef,?_,?_⟩;have g:=Ri<|a 0 _ rfl;have k:=Ri<|a 1 _ rfl;have l:=Ri<|a 2 _ rfl;have n:=Nt<|a 3 _ rfl;have o:=Ri<|a 4 _ rfl;have d:=t;unfold ZN;rw[<-g,<-k,<-l,<-n,<-o];congr 1;apply ZhH;simp[d];intro i u x;have p:i<10:=Z0
  match i,p with
  |0,_|1,_|2,_|3,_|4,_|5,_|6,_|7,_|8,_|9,_=>simp[Array.getD,d]
  intro j q
  match j,q with
  |0,_=>exact a 5 _ rfl
  |1,_=>exact a 6 _ rfl
  |2,_=>exact a 7 _ rfl
  |3,_=>exact a 8 _ rfl
  |4,_=>exact a 9 _ rfl
def yh{w G h x}(d:∀j,j<5->Rd w G (.sl<|(Zv h j).map vu) (x j)):Rd w G (ZK h)<|ZN h x:=by
 refine .agg _ _ rfl Z1 ?_;intro i y a
 match i,a with
 |0,a=>cases a;exact .int _ _
 |1,a=>cases a;exact .int _ _
 |2,a=>cases a;exact .int _ _
 |3,a=>cases a;exact .bool _
 |4,a=>cases a;exact .int _ _
 |5,a=>cases a;exact d 0 Z0
 |6,a=>cases a;exact d 1 Z0
 |7,a=>cases a;exact d 2 Z0
 |8,a=>cases a;exact d 3 Z0
 |9,a=>cases a;exact d 4 Z0
end Vm
end
section
namespace Vm
open Go Go.Proofs Go.RowKit
def Rd.br{w:Z3}{G:Z4}{l:Zr}{v:Zf}(h:Rd w G (.sl l) v):∃a c,v=.slice a (I l) c:=by
 cases h with
 |nil a cap _=>exact⟨a,cap,rfl⟩
 |sl l b o cap k vs=>exact⟨_,cap,rfl⟩
def append_empty{P:Z5}{w:Z3}{t ty e:Zi}(u:P.underlying t=J (.slice e))(o:Ug P e=xk)(p a:Addr)(n c:Nat)(d:Zm)(r:I d=n*P.cellsOf e)(f:∀j v,d[j]?=J v->w.cell? (a.add j)=J v)(y:0<n)(h:n<=Y8):
  (Builtin.append_ #[t,t] ty #[.slice (J p) 0 0,.slice (J a) n c]).run P w=(Builtin.append_ #[t,t] ty #[.slice U 0 0,.slice (J a) n c]).run P w:=by
 obtain⟨i,z,q,x,C,D,l,k⟩:=RR o;simp only[Y8]at h;have g:n*i.bytes<=140737488355328:=by
  have:n*i.bytes<=4294967296*32768:=ZiL h l;omega
 rw[run_append_nil (P:=P) w t ty e i z u q x a n c d (by rw[r,k]) f y Z0 Z0];have A:=run_append_grow (P:=P) w t ty e i z u q x p 0 0 [] Z1 (λj v B=>by simp at B) a n c d (by rw[r,k]) f Z0 Z0<|Zjg Z0 (by simpa using g);simpa using A
def Z05{w:Z3}(f:Option Addr){ty:Zi}{G:Z4}{l:Z8}{y:Zf}(hl:I l<=1000000)(Q:Rd w G (.sl<|l.map vu) y):
  ∃C h,(Builtin.append_ #[35,35] ty #[.slice f 0 0,y]).run Sol.prog w=.ok C h/\Below (xz<|xj w) w h/\Rd h (λc=>xz (xj w)<=c/\c<xz (xj h)) (.sl<|l.map vu) C:=by
 have F:=Sol.underlying35;have g:∀(w:Z3),Rd w (λc=>xz (xj w)<=c/\c<xz (xj w)) (.sl ([]:List V))<|.slice f 0 0:=λw=>.nil _ _ Zen;by_cases t:l=[];subst t;obtain⟨i,z,hi,hz,a1,d,Z,a0⟩:=RR (P:=Sol.prog) Ko;have hv:∃a c,y=.slice a 0 c:=by
  obtain⟨a,c,e⟩:=Rd.br Q;exact⟨a,c,by simpa using e⟩
 obtain⟨a,c,rfl⟩:=hv;refine⟨.slice f 0 0,w,?_,Zfr _ _,g w⟩;cases a<;>cases f<;>simp[Builtin.append_,ZfP F,Go.sizeOf,typeInfo,hi,Builtin.lenOf,Builtin.firstCells,loadCells,loadCellsFrom,storeCells]
 have W:0<I l:=Zh4.2 t;have key:(Builtin.append_ #[35,35] ty #[.slice f 0 0,y]).run Sol.prog w=(Builtin.append_ #[35,35] ty #[.slice U 0 0,y]).run Sol.prog w:=by
  obtain _|f:=f;rfl;have p:=Q;generalize A:l.map vu=L at p;cases p with
  |nil=>simp at A;exact absurd A t
  |sl _ b o cap kk vs d k X Y D R=>
   have T:I L=I l:=by rw[<-A,ZfC]
   have H:kk=1:=by
    obtain⟨x,hx⟩:=ZiH l t;have:=(Y (vu x) (by rw[<-A];exact ZgM hx)).1;simpa using this.symm
   subst H;refine append_empty (P:=Sol.prog) F Ko f ⟨b,o,U⟩ _ cap ((List.range<|I L).map vs) (by rw[RO];simp) (λj u S=> ?_) Z0 (by simp only[Y8];omega);have M:j<I L:=by simpa using(Zf3.1 S).1
   have O:vs j=u:=by simpa[M]using S
   rw[ZgG,<-O];exact D j Z0
 obtain⟨C,h,q,N,d,k,X,_,D⟩:=qQ (P:=Sol.prog) (ty:=ty) (B:=xz<|xj w) (n:=0) (xs:=[]) F Ko (Zgv w _ _ _) (Zf9 _) Q (by rw[RO];exact jg _) (by simp only[Y8,ZfC];omega);rw[RO]at d;have K:I q=I l:=by have:=d.1;simpa using this
 have R:=BE D K;rw[R]at d;simp only[ZfC,ZfQ,ZfU]at d;refine⟨C,h,key.trans N,?_,Ju d λc d k=>⟨d,k⟩⟩;have hn:(Value.slice U 0 0).ownBlock=U:=rfl;rw[hn]at k;exact Below.grown (Zfr _ _) k (Zf9 _) (λr N=>by cases N)
def Z9u{w:Z3}{o:Oper}{a:Act}{K:Zn}{Q:Ze}(s x:Operand)
  (p:o.op=.call {callee:=.builtin .append,args:=#[s,x],argTypes:=#[35,35]}) {g:Option Addr} {y:Zf} (r:a.eval s=.slice g 0 0) (hx:a.eval x=y)
  {G:Z4} {l:Z8} (n:I l<=1000000) (t:Rd w G (.sl<|l.map vu) y)
  (h:∀f d,Below (xz<|xj w) w d->Rd d (λc=>xz (xj w)<=c/\c<xz (xj d)) (.sl<|l.map vu) f->K (a.put o.dst f) d):o.wp Sol.prog a w K Q:=by
 obtain⟨f,d,q,j,k⟩:=Z05 g (ty:=o.type) n t;unfold Oper.wp execOp;simp only[p,resolve,invoke,builtin,ZfO,ZhD,ZfL,List.map_toArray,ZfA,Zgn,r,hx,q];exact h f d j k
def Po{w:Z3}{ops:Zl}{rest:List Oper}{o:Oper}{a:Act}{Q:Ze}(g:o.guard=U)(s x:Operand)
  (r:o.op=.call {callee:=.builtin .append,args:=#[s,x],argTypes:=#[35,35]}) {j:Option Addr} {y:Zf} (t:a.eval s=.slice j 0 0) (hx:a.eval x=y)
  {G:Z4} {l:Z8} (q:I l<=1000000) (u:Rd w G (.sl<|l.map vu) y)
  (h:∀f d,Below (xz<|xj w) w d->Rd d (λc=>xz (xj w)<=c/\c<xz (xj d)) (.sl<|l.map vu) f->wpList Sol.prog ops Q rest (a.put o.dst f) d):wpList Sol.prog ops Q (o::rest) a w:=
 wpList_plain g λ_ p=>Z9u s x r t hx q u λf d k n=>p _ _<|h f d k n
def At(w:Z3){G:Z4}{l:Z8}{y:Zf}(j:I l<=1000000)(f:Rd w G (.sl<|l.map vu) y):
  Calls Sol.prog 73 #[y] w λe d=>∃v,e=.returned v/\Below (xz<|xj w) w d/\Rd d (λc=>xz (xj w)<=c/\c<xz (xj d)) (.sl<|l.map vu) v:=by
 obtain⟨a,c,rfl⟩:=Rd.br f;go_enter Sol.func73,Try.ntmps73;go_wp2_with (at_builtin;refine Po rfl _ _ rfl rfl rfl j f ?_;intro g d h k)
 exact ZfV (v:=g) (by simp[results,Try.results73,go_sem]) rfl ⟨g,rfl,h,k⟩
def Z1G(w:Z3)(n c:Nat):Sem.run Sol.prog (binOp .eql 35 (.slice U n c)<|.slice U 0 0) w=.ok (.bool xk) w:=ZeX
def Z1H(w:Z3)(a:Addr)(n c:Nat):Sem.run Sol.prog (binOp .eql 35 (.slice (J a) n c)<|.slice U 0 0) w=.ok (.bool xw) w:=ZeX
def PM(w:Z3){G:Z4}(x:∀b,G b->b<xz (xj w)){l:Z8}{y:Zf}(A:I l<=1000000)(g:Rd w G (.sl<|l.map vu) y):
  Calls Sol.prog 114 #[y] w λe k=>∃v,e=.returned v/\Below (xz<|xj w) w k/\Rd k (λc=>xz (xj w)<=c/\c<xz (xj k)) (.sl<|l.map vu) v:=by
 obtain⟨a,c,rfl⟩:=Rd.br g;cases a with
 |none=>
  have u:l=[]:=by
   generalize z:l.map vu=L at g;cases g with
   |nil=>simpa using z
  subst u;have q:=Z1G w 0 c;go_enter Sol.func114,Try.ntmps114;simp only[Zgn,Zgc];go_wp2;exact ZfV (v:=.slice U 0 0) (by simp[results,Try.results114,go_sem]) rfl ⟨_,rfl,Zfr _ _,.nil _ _ Zen⟩
 |some p=>
  have q:=Z1H w p (I l) c;go_enter Sol.func114,Try.ntmps114;have h:Rd (w.alloc<|.cells #[] 24) G (.sl<|l.map vu)<|.slice (J p) (I<|l.map vu) c:=g.keep (λb d=>Zfp _ _ _<|x b d) λ_ q=>q;have f:Below (xz<|xj w) w<|w.alloc<|.cells #[] 24:=(Zfr _ _).alloc (Zf9 _) _;have j:xz (xj<|w.alloc<|.cells #[] 24)=xz (xj w)+1:=Z1;have n:=Zfa<|And.intro f j;clear f j g;go_wp2_with (at_builtin;refine Po rfl _ _ rfl rfl rfl A h ?_;intro t k d r;have o:=Zfa<|And.intro d r;clear d r h)
  refine ZfV (v:=t) (by simp[results,Try.results114,go_sem]) rfl ⟨t,rfl,n.out.1.trans<|o.out.1.mono (by rw[n.out.2];omega),o.out.2.mono λb d=>⟨by have:=n.out.2;omega,d.2⟩⟩
section
def QN(K:Zn)(Q:Ze):Exit->Act->World->Prop
 |.normal,a,w=>K a w
 |.ret,a,w=>Q .ret a w
 |.outgrown,a,w=>Q .outgrown a w
 |e,a,w=>Q e a w
section
variable {P:Z5}{ops:Zl}{Q:Ze}
def Z9r{i:Nat}{o:Oper}{K:Zn}{a:Act}{w:Z3}(k:ops[i]?=J o)(h:wpList P ops (QN K Q) [o] a w):wpOp P ops Q i K a w:=by
 unfold wpOp;rw[k];simp only;unfold wpList at h;split at h;rename_i f;rw[if_pos f];obtain h|⟨g,j⟩:=h;left;unfold Oper.wp at*;generalize (execOp a.eval o).run P w=r at*;cases r with
 |ok n l=>
  cases n<;>simp only[Oper.upon]at h⊢ <;>
   first
    |exact h
    |exact Zi6 h (λe p d=>by cases e<;>exact d)
    |exact Rows.mono h (λ_ _ d=>d)
 |halt x l=>cases x<;>simp only[Oper.upon]at h⊢ <;>exact h
 exact .inr ⟨g,j⟩;rename_i f;rw[if_neg f];exact h
def Z6Y{id:Nat}{B:Act}{w0:Z3}(Z:P.follows .mixedOrders=xk)(y:∀(i:Nat) (o:Oper),ops[i]?=J o->∀e∈VZ o,e<i)(I:(Nat->Bool)->Act->World->Prop)
  (R:I (λ_=>xw) B {w0 with drawn:=w0.drawn+1})
  (G:∀(L:Zs) (i:Nat) (o:Oper) (a:Act) (w:Z3),ops[i]?=J o->L i=xw->(∀j∈VZ o,L j=xk)->I L a w->wpList P ops (QN (I<|add L i) Q) [o] a w)
  (K:∀(L:Zs) (a:Act) (w:Z3),(∀i,i<ops.size->L i=xk)->I L a w->Q .normal a w):(Code.region id ops xk).wp P Q B w0:=by
 have t:∀(listed:Array Bool) (i:Nat),listed.size=ops.size->i<ops.size->listed.getD i xk=listed.getD i xw:=by
  intro listed i l C;simp[Zf7,l,C]
 have h:∀(listed:Array Bool),listed.size=ops.size->Region.ready .any ops listed=[]->∀i,i<ops.size->listed.getD i xw=xk:=by
  intro listed f z i;induction i using Nat.strongRecOn with
  |_ i H=>
   intro q;cases Y:listed.getD i xw with
   |true=>rfl
   |false=>
    have:i∈Region.ready .any ops listed:=Zj0.2 ⟨by rw[t listed i f q];exact Y,ops[i],ZfR q,λe W T=>by
     have k:=y i ops[i] (ZfR q) e.on<|I9 W T;exact H e.on k Z0⟩
    rw[z]at this;simp at this
 refine wp_region_any Z ?_;have main:∀(d:Nat) (listed:Array Bool) (a:Act) (w:Z3),listed.size=ops.size->LW ops.size (λi=>listed.getD i xw)<=d->I (λi=>listed.getD i xw) a w->wpAny P .any ops Q d listed a w:=by
  intro d;induction d with
  |zero=>
   intro listed a w f M A;have g:=OX<|Nat.le_zero.1 M;refine⟨?_,K _ a w g A⟩;cases z:Region.ready .any ops listed with
   |nil=>rfl
   |cons i r=>
    have:i∈Region.ready .any ops listed:=by rw[z];simp
    obtain⟨l,o,x,_⟩:=Zj0.1 this;have q:i<ops.size:=(Zf8.1 x).1;rw[t listed i f q,g i q]at l;cases l
  |succ d H=>
   intro listed a w f M A;refine⟨λz=>K _ a w (h listed f z) A,λi q=> ?_⟩;obtain⟨l,o,x,g⟩:=Zj0.1 q;have k:i<ops.size:=(Zf8.1 x).1;rw[t listed i f k]at l;have p:(λj=>(listed.setIfInBounds i xk).getD j xw)=add (λi=>listed.getD i xw) i:=by
    funext j;simp only[add];by_cases u:j=i;subst u;have:j<listed.size:=Z0;simp[Zf7,this];have:(listed.setIfInBounds i xk).getD j xw=listed.getD j xw:=getD_set_ne xw<|ZgQ u;rw[this];simp[u]
   have hs:=Z9r x (G _ i o a w x l (λj X=>by
    obtain⟨O,C,S,rfl⟩:=Fw X;exact g O C S) A)
   refine wpOp_mono (λN w' D=>H _ N w' Zeq ?_ (by rw[p];exact D)) hs;rw[p];have:=OW (n:=ops.size) (L:=λi=>listed.getD i xw) k l;omega
 have F:(λi=>(Array.replicate ops.size xw).getD i xw)=λ_=>xw:=by
  funext i;simp only[Zf7,Array.getElem?_replicate];split<;>rfl
 refine main _ _ B _ Z1 ?_ (by rw[F];exact R);exact ZfB (Zid _ _) Z1
end
def Ql(a:Act)(l:List<|Nat×Value):Act:= {a with tmps:=l.foldl (λt p=>t.setIfInBounds p.1 p.2) a.tmps}
def BK(ops:Zl):Bool:=(List.range ops.size).all λi=>match ops[i]? with|some o=>(VZ o).all λe=>decide (e<i)|none=>xk
def Z5q{ops:Zl}(h:BK ops=xk):∀(i:Nat) (o:Oper),ops[i]?=J o->∀e∈VZ o,e<i:=by
 intro i o a e d;unfold BK at h;rw[Zfe]at h;have:=h i (by simpa using(Zf8.1 a).1);rw[a]at this;simp only[Zfe,Zfv]at this;exact this e d
def Ta(a:Act)(d:Za)(v:Z6):Act:=Ql a (d.map λs=>(s,v s))
def X0(v:Z6)(s:Nat)(x:Zf):Nat->Value:=λt=>if t=s then x else v t
def Rp(v:Z6)(s:Nat)(x:Zf):X0 v s x s=x:=if_pos rfl
def TH(v:Z6){s t:Nat}(x:Zf)(h:t≠s):X0 v s x t=v t:=if_neg h
def NA{P:Z5}{ops:Zl}{Q:Ze}{id:Nat}{d:Act}{w0:Z3}(g:Za)(C:(Nat->Bool)->(Nat->Value)->World->Prop)
  (t:P.follows .mixedOrders=xk) (f:BK ops=xk) (l:∃v,d=Ta d g v/\C (λ_=>xw) v {w0 with drawn:=w0.drawn+1})
  (k:∀(L:Zs) (i:Nat) (o:Oper) (v:Z6) (w:Z3),ops[i]?=J o->L i=xw->(∀j∈VZ o,L j=xk)->C L v w->
   wpList P ops (QN (λa w=>∃v,a=Ta d g v/\C (add L i) v w) Q) [o] (Ta d g v) w)
  (p:∀(L:Zs) (v:Z6) (w:Z3),(∀i,i<ops.size->L i=xk)->C L v w->Q .normal (Ta d g v) w):(Code.region id ops xk).wp P Q d w0:=by
 refine Z6Y t (Z5q f) (λL a w=>∃v,a=Ta d g v/\C L v w) l ?_ ?_;rintro L i o _ w u q r ⟨v,rfl,h⟩;exact k L i o v w u q r h;rintro L _ w n ⟨v,rfl,h⟩;exact p L v w n h
def zl(L:Zs)(i:Nat):add L i i=xk:=by simp[add]
def WJ{L:Zs}{i j:Nat}(h:j≠i):add L i j=L j:=by simp[add,h]
end
section
def JJ{v:Z6}{s:Nat}{x:Zf}(h:v s=x):X0 v s x=v:=by
 funext t;unfold X0;by_cases e:t=s;rw[if_pos e,e,h];rw[if_neg e]
def Ul(h:Hp)(i:Nat):List Int:=if i=9 then h.H else if i=12 then h.ac else h.E
def U1(h:Hp)(y:Z6):Array Value:=#[.int .u64 h.base,.int .i64 h.cap,.int .i64<|1-h.to,.bool xw,.int .i64 0,.slice U 0 0,.slice U 0 0,y 9,y 12,y 15]
def UR(bh:Nat)(h:Hp)(src:Z6):Nat->Value
 |0=>.pointer<|J ⟨bh,0,U⟩
 |1=>.int .u64 h.base
 |2=>.pointer<|J ⟨bh,1,U⟩
 |3=>.int .i64 h.cap
 |4=>.pointer<|J ⟨bh,2,U⟩
 |5=>.int .i64 h.to
 |6=>.int .i64<|1-h.to
 |7=>.pointer<|J ⟨bh,5,U⟩
 |8=>src 0
 |10=>.pointer<|J ⟨bh,6,U⟩
 |11=>src 1
 |13=>.pointer<|J ⟨bh,9,U⟩
 |14=>src 4
 |_=>undef
def XR(i:Nat):Prop:=i<15/\i≠9/\i≠12
def Xt(i:Nat):Prop:=i=9\/i=12\/i=15
def V2(W0 W:Z3)(L:Zs)(v:Z6)(b:Nat):Prop:=xz (xj W0)<=b/\b<xz (xj W)/\(L 17=xk->v 4≠.pointer (J ⟨b,0,U⟩))
structure FlC (W0:World) (bh:Nat) (h:Hp) (src:Nat->Value) (L:Nat->Bool) (v:Nat->Value) (W:World):Prop where
 b:Below (xz<|xj W0) W0 W
 eq:∀i,XR i->L i=xk->v (16+i)=UR bh h src i
 rd:∀i,Xt i->L i=xk->Rd W (V2 W0 W L v) (.sl<|(Ul h i).map vu) (v<|16+i)
 agg:L 16=xk->∃y,v 32=.agg (U1 h y)/\∀i,Xt i->Rd W (V2 W0 W L v) (.sl<|(Ul h i).map vu) (y i)
 new:L 17=xk->∃c,v 4=.pointer (J ⟨c,0,U⟩)/\xz (xj W0)<=c/\c<xz (xj W)/\(L 18=xw->W.heap[c]?=J (.cells Ya 37 (0,0)))
 put:L 18=xk->∃c y,v 4=.pointer (J ⟨c,0,U⟩)/\xz (xj W0)<=c/\W.heap[c]?=J (.cells (U1 h y) 37 (0,0))/\∀i,Xt i->Rd W (V2 W0 W L v) (.sl<|(Ul h i).map vu) (y i)
 c18:L 18=xk->L 17=xk
section
variable {W0 W W':Z3}{bh:Nat}{h:Hp}{src:Z6}{L:Zs}{v:Z6}
def FlC.step(C:FlC W0 bh h src L v W){i s:Nat}(O:i<17)(M:s=16+i){x:Zf}(q:Below (xz<|xj W) W W')(H:XR i->x=UR bh h src i)
  (K:Xt i->Rd W' (λb=>xz (xj W)<=b/\b<xz (xj W')) (.sl<|(Ul h i).map vu) x) (G:i=16->∃y,x=.agg (U1 h y)/\∀j,Xt j->Rd W (V2 W0 W L v) (.sl<|(Ul h j).map vu) (y j)):FlC W0 bh h src (add L i) (X0 v s x) W':=by
 subst M;have o:add L i 18=L 18:=WJ Z0;have k:add L i 17=L 17:=WJ Z0;have v4:X0 v (16+i) x 4=v 4:=TH v x Z0;have B:∀b,V2 W0 W L v b->b<xz (xj W)/\V2 W0 W' (add L i) (X0 v (16+i) x) b:=λb d=>by
  obtain⟨D,A,F⟩:=d;refine⟨A,D,Zfb A q.size,?_⟩;rw[k,v4];exact F
 have t:∀ {u:V} {z:Zf},Rd W (V2 W0 W L v) u z->Rd W' (V2 W0 W' (add L i)<|X0 v (16+i) x) u z:=λN=>N.keep (λb d=>q.block b (B b d).1) λb d=>(B b d).2;refine⟨C.b.trans<|q.mono C.b.size,λj f a=> ?_,λj f a=> ?_,λa=> ?_,λa=> ?_,λa=> ?_,λa=> ?_⟩;by_cases e:j=i;subst e;rw[Rp];exact H f;rw[WJ e]at a;rw[TH v x Z0];exact C.eq j f a;by_cases e:j=i;subst e;rw[Rp];refine(K f).mono λb d=> ?_;refine⟨ZfB C.b.size d.1,d.2,λl=> ?_⟩;rw[k]at l;rw[v4];obtain⟨c,g,_,p,_⟩:=C.new l;rw[g];intro r;cases r;omega;rw[WJ e]at a;rw[TH v x Z0];exact t<|C.rd j f a;by_cases e:i=16;subst e;obtain⟨y,g,n⟩:=G rfl;exact⟨y,by rw[<-g];exact Rp _ _ _,λj f=>t<|n j f⟩;rw[WJ<|ZgQ e]at a;obtain⟨y,g,n⟩:=C.agg a;exact⟨y,by rw[TH v x Z0];exact g,λj f=>t<|n j f⟩;rw[k]at a;obtain⟨c,g,n,p,r⟩:=C.new a;refine⟨c,by rw[v4];exact g,n,Zfb p q.size,λw=> ?_⟩;rw[o]at w;exact(q.block c p).trans (r w);rw[o]at a;obtain⟨c,y,g,n,p,r⟩:=C.put a;exact⟨c,y,by rw[v4];exact g,n,(q.block c<|Yv p).trans p,λj f=>t<|r j f⟩;rw[o]at a;rw[k];exact C.c18 a
def FlC.pure(C:FlC W0 bh h src L v W){i s:Nat}(a:XR i)(g:s=16+i){x:Zf}(f:x=UR bh h src i):FlC W0 bh h src (add L i) (X0 v s x) W:=
 C.step (by unfold XR at a;omega) g (Zfr _ _) (λ_=>f) (λd=>by unfold XR at a;unfold Xt at d;omega) (λe=>by unfold XR at a;omega)
def FlC.call(C:FlC W0 bh h src L v W){i s:Nat}(a:Xt i)(j:s=16+i){x:Zf}(f:Below (xz<|xj W) W W')(g:Rd W' (λb=>xz (xj W)<=b/\b<xz (xj W')) (.sl<|(Ul h i).map vu) x):FlC W0 bh h src (add L i) (X0 v s x) W':=
 C.step (by unfold Xt at a;omega) j f (λd=>by unfold XR at d;unfold Xt at a;omega) (λ_=>g) (λe=>by unfold Xt at a;omega)
def FlC.built(C:FlC W0 bh h src L v W)(k:L 9=xk)(f:L 12=xk)(g:L 15=xk):FlC W0 bh h src (add L 16) (X0 v 32<|.agg (U1 h λi=>v<|16+i)) W:=
 C.step Z0 rfl (Zfr _ _) (λa=>by unfold XR at a;omega) (λa=>by unfold Xt at a;omega) λ_=>⟨_,rfl,λj d=>C.rd j d (by unfold Xt at d;obtain rfl|rfl|rfl:=d<;>assumption)⟩
def FlC.alloc(C:FlC W0 bh h src L v W)(g:L 17=xw):FlC W0 bh h src (add L 17) (X0 v 4<|.pointer<|J ⟨xz<|xj W,0,U⟩)<|W.alloc<|.cells Ya 37:=by
 have k:L 18=xw:=by
  cases e:L 18 with
  |false=>rfl
  |true=>have:=C.c18 e;rw[g]at this;cases this
 have o:Below (xz<|xj W) W<|W.alloc<|.cells Ya 37:=(Zfr _ _).alloc (Zf9 _) _;have p:xz (xj<|W.alloc<|.cells Ya 37)=xz (xj W)+1:=Z1;have n:∀b,V2 W0 W L v b->b<xz (xj W)/\V2 W0 (W.alloc<|.cells Ya 37) (add L 17) (X0 v 4<|.pointer<|J ⟨xz<|xj W,0,U⟩) b:=λb d=>by
  obtain⟨w,x,A⟩:=d;refine⟨x,w,Z0,λ_=> ?_⟩;rw[Rp];intro e;cases e;omega
 have q:∀ {u:V} {z:Zf},Rd W (V2 W0 W L v) u z->Rd (W.alloc<|.cells Ya 37) (V2 W0 (W.alloc<|.cells Ya 37) (add L 17)<|X0 v 4<|.pointer<|J ⟨xz<|xj W,0,U⟩) u z:=λp=>p.keep (λb d=>o.block b (n b d).1) λb d=>(n b d).2;refine⟨C.b.trans<|o.mono C.b.size,λj f a=> ?_,λj f a=> ?_,λa=> ?_,λa=> ?_,λa=> ?_,λa=> ?_⟩;have l:j<15:=f.1;rw[WJ Z0]at a;rw[TH _ _ Z0];exact C.eq j f a;have l:j<17:=by unfold Xt at f;omega
 rw[WJ Z0]at a;rw[TH _ _ Z0];exact q<|C.rd j f a;rw[WJ Z0]at a;obtain⟨y,r,t⟩:=C.agg a;exact⟨y,by rw[TH _ _ Z0];exact r,λj f=>q<|t j f⟩;exact⟨xz<|xj W,Rp _ _ _,C.b.size,Z0,λ_=>ZfG W _⟩;rw[WJ Z0,k]at a;cases a;exact zl _ _
def FlC.store(C:FlC W0 bh h src L v W){c:Nat}(hc:v 4=.pointer (J ⟨c,0,U⟩)){y:Z6}(O:v 32=.agg (U1 h y))(g:L 17=xk)(l:L 16=xk)(S:L 18=xw)(D:W.heap[c]?=J (.cells Ya 37 (0,0)))
  (K:∀b,b≠c->W'.heap[b]?=W.heap[b]?) (T:xz (xj W')=xz (xj W)) (N:W'.heap[c]?=J (.cells (U1 h y) 37 (0,0))) (M:Below (xz<|xj W0) W W'):FlC W0 bh h src (add L 18) v W':=by
 have k:add L 18 17=L 17:=WJ Z0;have A:∀b,V2 W0 W L v b->b≠c/\V2 W0 W' (add L 18) v b:=λb a=>by
  obtain⟨H,R,x⟩:=a;refine⟨λe=> ?_,H,Z0,by rw[k];exact x⟩;subst e;exact x g hc
 have r:∀ {u:V} {z:Zf},Rd W (V2 W0 W L v) u z->Rd W' (V2 W0 W' (add L 18) v) u z:=λD=>D.keep (λb a=>K b (A b a).1) λb a=>(A b a).2;obtain⟨P,n,o,Q,_⟩:=C.new g;rw[hc]at n;cases n;refine⟨C.b.trans M,λj d f=> ?_,λj d f=> ?_,λf=> ?_,λf=> ?_,λf=> ?_,λf=>by rw[k];exact g⟩;have p:j<15:=d.1;rw[WJ Z0]at f;exact C.eq j d f;have p:j<17:=by unfold Xt at d;omega
 rw[WJ Z0]at f;exact r<|C.rd j d f;obtain⟨y,n,o⟩:=C.agg l;exact⟨y,n,λj d=>r<|o j d⟩;refine⟨c,hc,o,Z0,λw=> ?_⟩;rw[zl]at w;cases w;obtain⟨F,t,G⟩:=C.agg l;rw[O]at t;have q:∀i,Xt i->F i=y i:=λi B=>by
  have e:U1 h y=U1 h F:=by injection t
  unfold U1 at e;unfold Xt at B;simp at e;obtain rfl|rfl|rfl:=B;exact e.1.symm;exact e.2.1.symm;exact e.2.2.symm
 exact⟨c,y,hc,o,N,λj d=>by rw[<-q j d];exact r<|G j d⟩
end
end
end Vm
end
section
namespace Vm
open Go
open Go.Proofs
def Mm:Fn:=⟨5,[0,1,2,3,4],pQ [pR [(1,pS 0 10),pV 2 pF],pC [pK 5 51 [.mm 1 0 10]] [pV 3<|.ext (.s 5) 0,pV 4<|.ext (.s 5) 1]]<|px [pV 2<|.s 4],[(2,.v)]⟩
def c25:ZL Sol.prog fresh sig [.fz] [] Try.f25=J Mm:=Z2
def Mn:Fn:=⟨8,[0,1,2,4,5,6,7,22],pQ [pR [(2,pS 0 10),pV 3 pN,pV 4<|pI 0],pC [pK 8 51 [.mm 2 0 10]] [pV 5<|.ext (.s 8) 0,pV 6<|.ext (.s 8) 1],pQ [.am ⟨[.lt 9 []<|.un .not<|.s 6,.lt 10 []<|.ite (.s 9) pT<|pl (.s 1)<|pI 1],[([(9,xw)],pl (.s 1)<|pI 1),([(10,xw)],pj (.s 1)<|pI 4)],[pV 7<|.ite (.s 10) pT<|pj (.s 1)<|pI 4]⟩]<|pw (.s 7)<|px [pV 4<|pI 1]]<|px [pV 3<|.ae (.ai (.bb (.au<|.s 5) 17 4) (pb (.s 1)<|pI 1) 4 1 xk) 0,pV 4<|pI 0],[(3,.v),(4,.v)]⟩
def c27:ZL Sol.prog fresh sig [.fz,.fz] [] Try.f27=J Mn:=Z2
def Mz:Fn:=⟨12,[0,1,2,3,13,4,16,15,17,6,14,24],pQ [pR [(1,pS 0 10),pV 2<|.c<|.lx 0,pV 3 pF],.am ⟨[pK 12 64 [.mm 1 0 10]],[([],.ag [.ae (.mm 1 0 10) 0,.ae (.mm 1 0 10) 1,.ae (.mm 1 0 10) 2,.ae (.mm 1 0 10) 3,.ae (.mm 1 0 10) 4,.ae (.mm 1 0 10) 5,.ae (.mm 1 0 10) 6,.ae (.mm 1 0 10) 7,.ae (.mm 1 0 10) 8,.ae (.mm 1 0 10) 9,.ae (.sz (.s 12) 7) 0,.ae (.sz (.s 12) 7) 1,.ae (.sz (.s 12) 7) 2,.ae (.sz (.s 12) 7) 3,.ae (.sz (.s 12) 7) 4,.ae (.sz (.s 12) 7) 5,.ae (.sz (.s 12) 7) 6,pN,pN,pN,pN,.c<|.mp 0 [] [],.c<|.mp 0 [] []])],[(5,.m [.ae (.mm 1 0 10) 0,.ae (.mm 1 0 10) 1,.ae (.mm 1 0 10) 2,.ae (.mm 1 0 10) 3,.ae (.mm 1 0 10) 4,.ae (.mm 1 0 10) 5,.ae (.mm 1 0 10) 6,.ae (.mm 1 0 10) 7,.ae (.mm 1 0 10) 8,.ae (.mm 1 0 10) 9,.ae (.sz (.s 12) 7) 0,.ae (.sz (.s 12) 7) 1,.ae (.sz (.s 12) 7) 2,.ae (.sz (.s 12) 7) 3,.ae (.sz (.s 12) 7) 4,.ae (.sz (.s 12) 7) 5,.ae (.sz (.s 12) 7) 6,pN,pN,pN,pN,.c<|.mp 0 [] [],.c<|.mp 0 [] []])]⟩,pQ [pC [pK 10 82 []] [pV 6<|pI 0,pV 7<|.len<|.s 10]]<|po [0,1,2,3,5,6,7,10] 8 (pl (.s 6)<|.s 7) (pQ [pR [(9,.m [.ae (.bb (.ao (.s 10) (.s 6) 1) 0 1) 0])],pC [.co 13 [] (.e<|.m 9 0) [.mem [.fz,.fz,.fz,.fz,.fz,.fz,.fz,.fz,.fz,.fz,.fz,.fz,.fz,.fz,.fz,.fz,.fz,.fz,.fz,.fz,.fz,.own 84,.own 115]] [.ag [.m 5 0,.m 5 1,.m 5 2,.m 5 3,.m 5 4,.m 5 5,.m 5 6,.m 5 7,.m 5 8,.m 5 9,.m 5 10,.m 5 11,.m 5 12,.m 5 13,.m 5 14,.m 5 15,.m 5 16,.m 5 17,.m 5 18,.m 5 19,.m 5 20,.m 5 21,.m 5 22]]] [(5,pM (.ext (.s 13) 1) 23),pV 11<|.un .not<|.ext (.s 13) 0]]<|pw (.s 11)<|px [pV 2<|.c<|.lx 0,pV 3 pF])<|pc 6]<|px [pV 2<|.pt U [.m 5 0,.m 5 1,.m 5 2,.m 5 3,.m 5 4,.m 5 5,.m 5 6,.m 5 7,.m 5 8,.m 5 9,.m 5 10,.m 5 11,.m 5 12,.m 5 13,.m 5 14,.m 5 15,.m 5 16,.m 5 17,.m 5 18,.m 5 19,.m 5 20,.m 5 21,.m 5 22],pV 3 pT,(5,.no)],[(2,.v),(3,.v)]⟩
def c51:ZL Sol.prog fresh sig [.fz] [] Try.f51=J Mz:=Z2
def MA:Fn:=⟨11,[0,2,3,4,8,19,18,20,6,17,25],pQ [pR [pV 1<|pI 0],pR [pV 2<|pI 0],pQ [pR [pV 3<|pI 3]]<|.block 0<|.loop [0,1,2,3]<|pQ [pu 4 (pL (.s 3)<|pI 4) .skip<|.exit 0,.block 1<|pQ [pR [pV 5<|pI 0,pV 6<|.len<|.ae (.ai (.bb (.au<|.s 0) 17 4) (pb (.s 3)<|pI 1) 4 1 xk) 0,pV 9<|.ae (.ai (.bb (.au<|.s 0) 17 4) (pb (.s 3)<|pI 1) 4 1 xk) 0]]<|.block 2<|.loop [0,1,2,3,4,5,6,9]<|pQ [pR [pV 7<|pl (.s 5)<|.s 6],.cond (.s 7) .skip<|.exit 2,.block 3<|pQ [pR [(8,pM (.bb (.ao (.s 9) (.s 5) 5) 0 5) 5)]]<|pi 10 (.un .not<|.m 8 3)<|pR [pV 2<|pa (.s 2)<|pa (pI 1)<|.m 8 1]]<|pc 5]<|pc 3]<|px [pV 1<|.s 2],[(1,.v)]⟩
def c52:ZL Sol.prog fresh sig [.fz] [] Try.f52=J MA:=Z2
def ML:Fn:=⟨1,[0],pQ [pR [pV 0 pN]]<|px [pV 0<|.lit [.ag [.c<|.fn 103],.ag [.c<|.fn 104],.ag [.c<|.fn 105],.ag [.c<|.fn 106],.ag [.c<|.fn 107],.ag [.c<|.fn 108],.ag [.c<|.fn 109],.ag [.c<|.fn 110]]],[(0,.v)]⟩
def c82:ZL Sol.prog fresh sig [] [] Try.f82=J ML:=Z2
def M2:Fn:=⟨2,[0,2],pQ [pR [pV 1 pF],.am ⟨[pK 2 65 [.bb (.au<|.s 0) 10 7],.lt 3 []<|.s 2,.lt 4 []<|.ite (.s 3) (pL (.len<|.ae (.au<|.s 0) 9)<|pI 16) pF,.lt 5 []<|.ite (.s 4) (pg (.ae (.au<|.s 0) 4)<|pI 0) pF],[([(3,xk)],pL (.len<|.ae (.au<|.s 0) 9)<|pI 16),([(4,xk)],pg (.ae (.au<|.s 0) 4)<|pI 0),([(5,xk)],pL (.ae (.au<|.s 0) 4)<|.len<|.ae (.au<|.s 0) 5)],[pV 1<|.ite (.s 5) (pL (.ae (.au<|.s 0) 4)<|.len<|.ae (.au<|.s 0) 5) pF]⟩] .ret,[(1,.v)]⟩
def Z0I:ZL Sol.prog fresh sig [.fz] [] Try.f103=J M2:=Z2
def Lc:Fn:=⟨3,[0,2,7],pQ [pR [pV 1 pF],pi 2 (.ae (.au<|.s 0) 3)<|px [pV 1<|pl (.ae (.au<|.s 0) 4)<|.len<|.ae (.au<|.s 0) 5],.am ⟨[.lt 3 []<|pe (.len<|.ae (.au<|.s 0) 7)<|pI 0,.lt 4 []<|.ite (.s 3) (pe (.len<|.ae (.au<|.s 0) 8)<|pI 0) pF],[([(3,xk)],pe (.len<|.ae (.au<|.s 0) 8)<|pI 0),([(4,xk)],pe (.ae (.au<|.s 0) 4)<|.len<|.ae (.au<|.s 0) 5)],[pV 1<|.ite (.s 4) (pe (.ae (.au<|.s 0) 4)<|.len<|.ae (.au<|.s 0) 5) pF]⟩] .ret,[(1,.v)]⟩
def Z0J:ZL Sol.prog fresh sig [.fz] [] Try.f104=J Lc:=Z2
def M3:Fn:=⟨11,[0,2,3,8,9,4,5,6,7,18,39],pQ [pR [pV 1 pF],pR [pV 2 pT],.skip,pQ [pR [pV 3<|pI 0]]<|po [0,1,2,3] 4 (pl (.s 3)<|pI 4) (pQ [pR [pV 5<|.s 3],pR [pV 6<|pa (.s 5)<|pI 1],pR [pV 7 pN],pR [pV 8<|pI 0],pQ [.am ⟨[.lt 11 []<|pe (.s 6)<|pI 1],[([(11,xw)],pe (.s 6)<|pI 2)],[pV 9<|.ite (.s 11) pT<|pe (.s 6)<|pI 2]⟩]<|.cond (.s 9) (pC [pK 12 118 [.pt U [.m 0 0,.m 0 1,.m 0 2,.m 0 3,.m 0 4,.m 0 5,.m 0 6,.m 0 7,.m 0 8,.m 0 9,.m 0 10,.m 0 11,.m 0 12,.m 0 13,.m 0 14,.m 0 15,.m 0 16,.m 0 17,.m 0 18,.m 0 19,.m 0 20,.m 0 21,.m 0 22],.s 6],.call 13 [] (.id 117) xk xw [.s 12]] [pV 7<|.ext (.s 13) 0,pV 8<|.ext (.s 13) 1])<|pC [pK 14 118 [.pt U [.m 0 0,.m 0 1,.m 0 2,.m 0 3,.m 0 4,.m 0 5,.m 0 6,.m 0 7,.m 0 8,.m 0 9,.m 0 10,.m 0 11,.m 0 12,.m 0 13,.m 0 14,.m 0 15,.m 0 16,.m 0 17,.m 0 18,.m 0 19,.m 0 20,.m 0 21,.m 0 22],.s 6],pK 15 118 [.pt U [.m 0 0,.m 0 1,.m 0 2,.m 0 3,.m 0 4,.m 0 5,.m 0 6,.m 0 7,.m 0 8,.m 0 9,.m 0 10,.m 0 11,.m 0 12,.m 0 13,.m 0 14,.m 0 15,.m 0 16,.m 0 17,.m 0 18,.m 0 19,.m 0 20,.m 0 21,.m 0 22],.s 6],pK 16 120 [.pt U [.m 0 0,.m 0 1,.m 0 2,.m 0 3,.m 0 4,.m 0 5,.m 0 6,.m 0 7,.m 0 8,.m 0 9,.m 0 10,.m 0 11,.m 0 12,.m 0 13,.m 0 14,.m 0 15,.m 0 16,.m 0 17,.m 0 18,.m 0 19,.m 0 20,.m 0 21,.m 0 22],.s 15],.call 17 [] (.id 119) xk xw [.s 14,.s 16]] [pV 7<|.ext (.s 17) 0,pV 8<|.ext (.s 17) 1],pi 10 (pn (.s 8)<|pI 0)<|pQ [pR [pV 2 pF]]<|.exit 0]<|pC [.co 18 [] (.id 121) [.mem [.fz,.fz,.fz,.fz,.fz,.fz,.fz,.fz,.fz,.fz,.fz,.fz,.fz,.fz,.fz,.fz,.fz,.fz,.fz,.fz,.fz,.own 84,.own 115],.fz,.fz] [.ag [.m 0 0,.m 0 1,.m 0 2,.m 0 3,.m 0 4,.m 0 5,.m 0 6,.m 0 7,.m 0 8,.m 0 9,.m 0 10,.m 0 11,.m 0 12,.m 0 13,.m 0 14,.m 0 15,.m 0 16,.m 0 17,.m 0 18,.m 0 19,.m 0 20,.m 0 21,.m 0 22],.s 6,.s 7]] [(0,pM (.ext (.s 18) 1) 23)])<|pc 3]<|px [pV 1<|.s 2],[(1,.v)]⟩
def Z0K:ZL Sol.prog fresh sig [(.mem [.fz,.fz,.fz,.fz,.fz,.fz,.fz,.fz,.fz,.fz,.fz,.fz,.fz,.fz,.fz,.fz,.fz,.fz,.fz,.fz,.fz,(.own 84),(.own 115)])] [(0,(.mem [.fz,.fz,.fz,.fz,.fz,.fz,.fz,.fz,.fz,.fz,.fz,.fz,.fz,.fz,.fz,.fz,.fz,.fz,.fz,.fz,.fz,(.own 84),(.own 115)]))] Try.f105=J M3:=Z2
def BX:Fn:=⟨13,[0,2,12,3,4,15,26,25,27,6,24,32,46],pQ [pR [pV 1 pF],pi 2 (.un .not<|.ae (.au<|.s 0) 3)<|px [pV 1 pT],pR [pV 3<|.c<|.mp 0 [] []],pQ [pR [pV 4<|pI 3]]<|.block 0<|.loop [0,1,2,3,4]<|pQ [pu 5 (pL (.s 4)<|pI 4) .skip<|.exit 0,.block 1<|pQ [pR [pV 6<|pI 0,pV 7<|.len<|.ae (.ai (.bb (.au<|.s 0) 17 4) (pb (.s 4)<|pI 1) 4 1 xk) 0,pV 10<|.ae (.ai (.bb (.au<|.s 0) 17 4) (pb (.s 4)<|pI 1) 4 1 xk) 0]]<|.block 2<|.loop [0,1,2,3,4,5,6,7,10]<|pQ [pR [pV 8<|pl (.s 6)<|.s 7],.cond (.s 8) .skip<|.exit 2,.block 3<|pQ [pR [(9,pM (.bb (.ao (.s 10) (.s 6) 5) 0 5) 5)],pi 11 (.un .not<|.m 9 3)<|.exit 3,pQ [.am ⟨[.lt 13 []<|pn (.lk (.i .u64) (.ae (.au<|.s 0) 21) (.m 9 4) (.int .i64 0) xw)<|pI 1],[([(13,xw)],.fl<|.lk (.i .u64) (.s 3) (.m 9 4) (.bool xw) xw)],[pV 12<|.ite (.s 13) pT<|.fl<|.lk (.i .u64) (.s 3) (.m 9 4) (.bool xw) xw]⟩]<|pw (.s 12)<|px [pV 1 pF]]<|pR [pV 3<|.df (.i .u64) (.s 3) (.m 9 4) pT]]<|pc 6]<|pc 4]<|px [pV 1<|pe (.dv<|.s 3)<|.len<|.ae (.ai (.bb (.au<|.s 0) 17 4) (pI 0) 4 1 xk) 0],[(1,.v)]⟩
def Z0L:ZL Sol.prog fresh sig [.fz] [] Try.f106=J BX:=Z2
def M4:Fn:=⟨9,[0,1,2,11,10,12,4,9,18],pQ [pR [(1,.m [.one<|.s 0]),pV 2 pF],pQ [pR [pV 3<|pI 0,pV 4<|.len<|.ae (.au<|.m 1 0) 9,pV 7<|.ae (.au<|.m 1 0) 9]]<|po [0,1,2,3,4,7] 5 (pl (.s 3)<|.s 4) (pQ [pR [pV 6<|.ae (.ao (.s 7) (.s 3) 1) 0],pC [pK 9 122 [.m 1 0,.s 6,pI 1,pI 2]] [pV 8<|.un .not<|.s 9]]<|pw (.s 8)<|px [pV 2 pF])<|pc 3,pC [.call 10 [] (.id 123) xw xk [.m 1 0,pI 2,.pt (J 124) [.pt U [.m 1 0]]],.lt 11 []<|.s 10,.call 12 [(11,xk)] (.id 123) xw xk [.m 1 0,pI 1,.pt (J 125) [.pt U [.m 1 0]]]] [pV 2<|.ite (.s 11) (.s 12) pF]] .ret,[(2,.v)]⟩
def Z0M:ZL Sol.prog fresh sig [.fz] [] Try.f107=J M4:=Z2
def M5:Fn:=⟨3,[0,1,2],pQ [pR [(1,.m [.one<|.s 0]),pV 2 pF],pC [.call 3 [] (.id 123) xw xk [.m 1 0,pI 1,.pt (J 126) [.pt U [.m 1 0]]]] [pV 2<|.s 3]] .ret,[(2,.v)]⟩
def Z0N:ZL Sol.prog fresh sig [.fz] [] Try.f108=J M5:=Z2
def M6:Fn:=⟨4,[0,1,2,3],pQ [pR [(1,.m [.one<|.s 0]),pV 2 pF],pR [(3,.no)],pC [.call 4 [] (.id 123) xw xk [.m 1 0,pI 3,.pt (J 127) [.pt U [.m 1 0]]],.lt 5 []<|.s 4,.call 6 [(5,xk)] (.id 123) xw xk [.m 1 0,pI 4,.pt (J 127) [.pt U [.m 1 0]]]] [pV 2<|.ite (.s 5) (.s 6) pF,(3,.no)]] .ret,[(2,.v)]⟩
def Z0O:ZL Sol.prog fresh sig [.fz] [] Try.f109=J M6:=Z2
def M7:Fn:=⟨2,[0,2],pQ [pR [pV 1 pF],pC [pK 2 52 [.s 0]] [pV 1<|pL (pa (pa (.len<|.ae (.au<|.s 0) 5)<|.len<|.ae (.au<|.s 0) 6)<|.s 2)<|.ae (.au<|.s 0) 1]] .ret,[(1,.v)]⟩
def Z0P:ZL Sol.prog fresh sig [.fz] [] Try.f110=J M7:=Z2
def M9:Fn:=⟨3,[0,1,4],pQ [pR [pV 2 pN]]<|px [pV 2<|.ai (.ag [.ae (.au<|.s 0) 5,.ae (.au<|.s 0) 6,.ae (.au<|.s 0) 7,.ae (.au<|.s 0) 8]) (pb (.s 1)<|pI 1) 4 1 xw],[(2,.v)]⟩
def Z0S:ZL Sol.prog fresh sig [.fz,.fz] [] Try.f118=J M9:=Z2
def Mb:Fn:=⟨14,[0,1,4,5,6,15,7,8,9,25,10,11,36,52],pQ [pR [pV 2 pN],pR [pV 3 pN],pQ [pR [pV 4<|pI 0]]<|.block 0<|.loop [0,1,2,3,4]<|pQ [pu 5 (pl (.s 4)<|.len<|.s 1) .skip<|.exit 0]<|.block 1<|pQ [pR [(6,.m [pI 0,pI 0])],pQ [pC [pK 14 44 [.ae (.ao (.s 1) (.s 4) 1) 0]] [pV 7<|.ext (.s 14) 0,pV 8<|.ext (.s 14) 1]]<|pu 9 (pe (.s 8)<|pI 0) (pQ [pR [(10,pM (.sz (.ext (.lk (.i .u64) (.ae (.au<|.s 0) 22) (.s 7) (.agg [.int .i64 0,.int .i64 0]) xk) 0) 2) 2),pV 11<|.ext (.lk (.i .u64) (.ae (.au<|.s 0) 22) (.s 7) (.agg [.int .i64 0,.int .i64 0]) xk) 1],pi 12 (.un .not<|.s 11)<|px [pV 2<|.s 3,(3,.no)],pR [(6,pM (.mm 10 0 2) 2)]]<|pR [pV 3<|.app (.s 3) (.lit [.mm 6 0 2]) 2])<|pQ [pC [pK 15 69 [.ae (.ao (.s 1) (.s 4) 1) 0]] [(6,pM (.sz (.ext (.s 15) 0) 2) 2),pV 8<|.ext (.s 15) 1]]<|pi 13 (pn (.s 8)<|pI 0)<|px [pV 2<|.s 3,(3,.no)]]<|pR [pV 4<|pa (.s 4)<|pa (pI 1)<|.m 6 0]]<|px [pV 2<|.s 3,(3,.no)],[(2,.v)]⟩
def Z0T:ZL Sol.prog fresh sig [.fz,.fz] [] Try.f120=J Mb:=Z2
def Le:Fn:=⟨11,[0,1,2,19,18,20,7,17,8,9,42],pQ [.am ⟨[],[([],.ai (.c<|.agg [(.bool xk),(.bool xk),(.bool xk),(.bool xk)]) (pb (.s 1)<|pI 1) 4 1 xw)],[(0,.m [.m 0 0,.m 0 1,.m 0 2,.m 0 3,.m 0 4,.m 0 5,.m 0 6,.m 0 7,.m 0 8,.m 0 9,.m 0 10,.m 0 11,.m 0 12,.m 0 13,.m 0 14,.m 0 15,.m 0 16,.ae (.de (.mm 0 17 4) (pb (.s 1)<|pI 1) 4 1<|.one<|.s 2) 0,.ae (.de (.mm 0 17 4) (pb (.s 1)<|pI 1) 4 1<|.one<|.s 2) 1,.ae (.de (.mm 0 17 4) (pb (.s 1)<|pI 1) 4 1<|.one<|.s 2) 2,.ae (.de (.mm 0 17 4) (pb (.s 1)<|pI 1) 4 1<|.one<|.s 2) 3,.m 0 21,.m 0 22])]⟩,pR [pV 3<|pI 0,pV 4<|.len<|.s 2,pV 7<|.s 2]]<|po [0,1,2,3,4,7] 5 (pl (.s 3)<|.s 4) (pQ [pR [(6,pM (.bb (.ao (.s 7) (.s 3) 5) 0 5) 5)],pC [pK 11 75 [.mm 0 10 7,.ag [.one<|.s 1,.m 6 0]]] [pV 8<|.ext (.s 11) 0,pV 9<|.ext (.s 11) 1],pR [(0,.m [.m 0 0,.m 0 1,.m 0 2,.m 0 3,.m 0 4,.m 0 5,.m 0 6,.m 0 7,.m 0 8,.m 0 9,.m 0 10,.m 0 11,.m 0 12,.m 0 13,.m 0 14,.m 0 15,.m 0 16,.m 0 17,.m 0 18,.m 0 19,.m 0 20,.df (.i .u64) (.m 0 21) (.s 8)<|.s 1,.m 0 22])]]<|pi 10 (pe (.s 1)<|pI 1)<|pR [(0,.m [.m 0 0,.m 0 1,.m 0 2,.m 0 3,.m 0 4,.m 0 5,.m 0 6,.m 0 7,.m 0 8,.m 0 9,.m 0 10,.m 0 11,.m 0 12,.m 0 13,.m 0 14,.m 0 15,.m 0 16,.m 0 17,.m 0 18,.m 0 19,.m 0 20,.m 0 21,.df (.i .u64) (.m 0 22) (.s 8)<|.mm 6 1 2])])<|pc 3,[]⟩
def Z0U:ZL Sol.prog fresh sig [(.mem [.fz,.fz,.fz,.fz,.fz,.fz,.fz,.fz,.fz,.fz,.fz,.fz,.fz,.fz,.fz,.fz,.fz,.fz,.fz,.fz,.fz,(.own 84),(.own 115)]),.fz,.fz] [(0,(.mem [.fz,.fz,.fz,.fz,.fz,.fz,.fz,.fz,.fz,.fz,.fz,.fz,.fz,.fz,.fz,.fz,.fz,.fz,.fz,.fz,.fz,(.own 84),(.own 115)]))] Try.f121=J Le:=Z2
def BZ:Fn:=⟨11,[0,1,2,3,8,14,9,10,21,11,12],pQ [pR [pV 4 pF],pi 5 (pe (.s 1)<|pU 0)<|px [pV 4 pT],pC [pK 11 44 [.s 1]] [pV 6<|.ext (.s 11) 0,pV 7<|.ext (.s 11) 1],pi 8 (pn (.s 7)<|pI 0)<|px [pV 4 pF],pR [pV 9<|.ext (.lk (.i .u64) (.ae (.au<|.s 0) 21) (.s 6) (.int .i64 0) xk) 0,pV 10<|.ext (.lk (.i .u64) (.ae (.au<|.s 0) 21) (.s 6) (.int .i64 0) xk) 1],.am ⟨[.lt 12 []<|.s 10,.lt 13 []<|.ite (.s 12) (pg (.s 9)<|.s 2) pF],[([(12,xk)],pg (.s 9)<|.s 2),([(13,xk)],pL (.s 9)<|.s 3)],[pV 4<|.ite (.s 13) (pL (.s 9)<|.s 3) pF]⟩] .ret,[(4,.v)]⟩
def Z0V:ZL Sol.prog fresh sig [.fz,.fz,.fz,.fz] [] Try.f122=J BZ:=Z2
def Mc:Fn:=⟨17,[0,1,2,6,7,23,22,24,9,21,28,32,31,33,10,11,47],pQ [pR [pV 3 pF],pC [pK 17 118 [.s 0,.s 1]] [pV 4<|.s 17],pQ [pR [pV 5<|pI 0,pV 6<|.len<|.ae (.ai (.bb (.au<|.s 0) 17 4) (pb (.s 1)<|pI 1) 4 1 xk) 0,pV 9<|.ae (.ai (.bb (.au<|.s 0) 17 4) (pb (.s 1)<|pI 1) 4 1 xk) 0]]<|po [0,1,2,3,4,5,6,9] 7 (pl (.s 5)<|.s 6) (pQ [pR [(8,pM (.bb (.ao (.s 9) (.s 5) 5) 0 5) 5)],pi 10 (.m 8 3)<|.exit 1,pR [pV 11<|pI 0,pV 12<|.m 8 2]]<|.block 2<|.loop [0,1,2,3,4,5,6,7,8,9,10,11,12]<|pQ [pR [pV 13<|pl (.s 11)<|.s 12],.cond (.s 13) .skip<|.exit 2,.block 3<|pQ [pR [pV 14<|.s 11],pR [pV 15<|pa (pa (.m 8 0)<|pI 1)<|.s 14],pC [.call 18 [] (.e<|.s 2) xw xw [.s 15,.ae (.ao (.s 4) (.s 15) 1) 0]] [pV 16<|.un .not<|.s 18]]<|pw (.s 16)<|px [pV 3 pF]]<|pc 11)<|pc 5]<|px [pV 3 pT],[(3,.v)]⟩
def Z0W:ZL Sol.prog fresh sig [.fz,.fz,.fz] [] Try.f123=J Mc:=Z2
def Md:Fn:=⟨4,[0,1,2,5],pQ [pR [pV 3 pF],pC [pK 4 122 [.ae (.au<|.s 2) 0,.s 1,pI 1,pI 2]] [pV 3<|.s 4]] .ret,[(3,.v)]⟩
def Z0X:ZL Sol.prog fresh sig [.fz,.fz,.fz] [] Try.f124=J Md:=Z2
def C0:Fn:=⟨4,[0,1,2,5],pQ [pR [pV 3 pF],pC [.lt 4 []<|pg (.s 0)<|.ae (.au<|.ae (.au<|.s 2) 0) 4,.call 5 [(4,xw)] (.id 122) xw xw [.ae (.au<|.s 2) 0,.s 1,pI 1,pI 2]] [pV 3<|.ite (.s 4) pT<|.s 5]] .ret,[(3,.v)]⟩
def Z0Y:ZL Sol.prog fresh sig [.fz,.fz,.fz] [] Try.f125=J C0:=Z2
def C1:Fn:=⟨4,[0,1,2,5],pQ [pR [pV 3 pF],pC [.lt 4 []<|pl (.s 0)<|.ae (.au<|.ae (.au<|.s 2) 0) 4,.call 5 [(4,xw)] (.id 122) xw xw [.ae (.au<|.s 2) 0,.s 1,pI 1,pI 4]] [pV 3<|.ite (.s 4) pT<|.s 5]] .ret,[(3,.v)]⟩
def Z0Z:ZL Sol.prog fresh sig [.fz,.fz,.fz] [] Try.f126=J C1:=Z2
def Me:Fn:=⟨4,[0,1,2,5],pQ [pR [pV 3 pF],pC [pK 4 122 [.ae (.au<|.s 2) 0,.s 1,pI 3,pI 4]] [pV 3<|.s 4]] .ret,[(3,.v)]⟩
def Z10:ZL Sol.prog fresh sig [.fz,.fz,.fz] [] Try.f127=J Me:=Z2
end Vm
end
section
namespace Vm
open Go Go.Proofs
def XO{α:Type}(l:List<|Int×α)(k:Int)(v:α):List<|Int×α:=match l.findIdx? (·.1==k)with
 |some i=>l.set i (k,v)
 |none=>l++[(k,v)]
def Y2{α:Type}(l:List<|Int×α)(k:Int):Option α:=(l.find? (·.1==k)).map (·.2)
def Yk{α:Type}(f:α->V)(l:List<|Int×α):V:=.mp 0 (l.map λx=>vu x.1) (l.map λx=>f x.2)
def Ag{α:Type}{k}:∀ {l:List (Int×α)},To (vu k) (l.map λx=>vu x.1)=J (l.findIdx? (·.1==k))
 | []=>rfl
 |y::l=>by
  simp only[ZfA,To,KR,ZhT];by_cases h:k=y.1;simp[h];have a:(k==y.1)=xw:=Zf0;have d:(y.1==k)=xw:=by simpa using ZgQ h
  simp[a,d,Ag]
def Ku{α:Type}{p}:∀ {l:List α},l.find? p=(l.findIdx? p).bind λi=>l[i]?
 | []=>rfl
 |x::l=>by
  rw[List.find?_cons,ZhT];cases h:p x;simp;rw[Ku (l:=l)];cases l.findIdx? p<;>simp;simp
theorem Qb{α f}{l:List (Int×α)}{k z ok}:Ut (.i .u64) (Yk f l) (vu k) z ok=match Y2 l k with
  |some x=>J (if ok then .an [f x,.bool xk]else f x)
  |none=>J (if ok then .an [z,.bool xw]else z):=by
 unfold Ut Yk Y2;simp[Ve,Ag,Ku];grind [List.findIdx?_eq_some_iff_getElem]
def KX{α f l k}{x:α}:T6 (.i .u64) (Yk f l) (vu k) (f x)=J (Yk f<|XO l k x):=by
 unfold T6 Yk XO;simp[Ve,Ag];cases h:l.findIdx? (·.1==k)with
 |none=>simp
 |some i=>
  let⟨d,g,_⟩:=ZfT.1 h;have a:(l[i]).1=k:=by simpa using g
  simp only[Zf2,V.mp.injEq,true_and];constructor;rw[ZhN];apply Zgx;intro j;rw[List.getElem?_set];split;rename_i e;subst e;simp[d,a];rfl;rw[ZhN]
@[simp]theorem ZcB{α}f(l:List<|Int×α):YZ (Yk f l)=J (Yk f l):=rfl
@[simp]theorem ZaC{α}f(l:List<|Int×α):(Yk f l).cells=[Yk f l]:=rfl
@[simp]theorem ZcM{α}f(l:List<|Int×α):(Yk f l).one=xk:=rfl
@[simp]theorem Zco{α}f(l:List<|Int×α):R7 (Yk f l)=J (vi<|I l):=by simp[Yk]
def J3{α l k j}{x:α}:Y2 (XO l k x) j=if k=j then J x else Y2 l j:=by
 unfold Y2 XO;cases h:l.findIdx? (·.1==k)with
 |none=>
  grind
 |some i=>
  let⟨d,o,a⟩:=ZfT.1 h;by_cases e:k=j;subst e;rw[if_pos rfl,Ku];grind [List.findIdx?_eq_some_iff_getElem,List.getElem_set_ne];rw[if_neg e,Ku,Ku];have:(l.set i (k,x)).findIdx? (·.1==j)=l.findIdx? (·.1==j):=by
   apply Option.ext;intro q;rw[ZfT,ZfT];constructor;grind;grind
  rw[this];cases f:l.findIdx? (·.1==j)with
  |none=>rfl
  |some q=>
   let⟨g,n,_⟩:=ZfT.1 f;grind
structure Ck where
 h:Hp
 o1:List Ob
 o2:List Ob
 o3:List Ob
 o4:List Ob
 pm:List<|Int×Int
 lm:List<|Int×(Int×Int)
def Ck.du(s:Ck)(k:Int):List Ob:=if k=1 then s.o1 else if k=2 then s.o2 else if k=3 then s.o3 else s.o4
def ZV(s:Ck):List V:=[vu s.h.base,vi s.h.cap,vi s.h.to,.bool s.h.Z,vi s.h.aa,.sl<|s.h.H.map vu,.sl<|s.h.ac.map vu,.sl<|s.h.ah.map vu,.sl<|s.h.aj.map vu,.sl<|s.h.E.map vu,
 vu s.h.base,vi s.h.cap,vi s.h.to,vi<|I s.h.H,vi<|I s.h.ac,vi<|I s.h.ah,vi<|I s.h.aj,
 .sl (s.o1.map ZQ),.sl<|s.o2.map ZQ,.sl<|s.o3.map ZQ,.sl<|s.o4.map ZQ,Yk vi s.pm,Yk Wj s.lm]
def Xd(s:Ck):V:=.ptr<|ZV s
def jr:IntKind.i64.wrap 0=0:=Zeo
def LX:IntKind.i64.wrap 1=1:=Zeo
def Qv:IntKind.i64.wrap 2=2:=Zeo
def Qw:IntKind.i64.wrap 3=3:=Zeo
def Pj{s k}(a:1<=k/\k<=4):VC Sol.prog 118 xw [Xd s,vi k]<|.sl<|(Zx s.h k).map vu:=by
 refine ZW Sol.func118 follows Z2 Z0S rfl ?_;have:k=1\/k=2\/k=3\/k=4:=Z0;obtain rfl|rfl|rfl|rfl:=this<;>simp[M9,Xd,ZV,Zx,Y9,jr,LX,Qv,Qw]
def YO(s:Ck)(w first last:Int):Bool:=decide (w=0)||(decide ((adr w).2=0)&&match Y2 s.pm (adr w).1 with
 |some k=>decide (first<=k)&&decide (k<=last)
 |none=>xw)
def Ln{s w first last}(f:ZB w):VC Sol.prog 122 xw [Xd s,vu w,vi first,vi last]<|.bool<|YO s w first last:=by
 refine ZW Sol.func122 follows Z2 Z0V rfl ?_;unfold YO;by_cases a:w=0;simp[BZ,a];simp[BZ,a,Xd,ZV];refine Zy (K5 f) Z1 ?_;by_cases d:(adr w).2=0;case neg=>simp[d]
 simp[d,Qb];cases g:Y2 s.pm (adr w).1 with
 |none=>simp
 |some k=>
  simp_all
def WD(h:Hp)(k:Int):List (Int×Int)->List Ob->List (Int×Int)
 |m,[]=>m
 |m,o::l=>WD h k (XO m (Y5 (Zu h) k o.Y).1 k) l
def Xw(h:Hp)(k:Int):List (Int×(Int×Int))->List Ob->List (Int×(Int×Int))
 |m,[]=>m
 |m,o::l=>Xw h k (if k=1 then XO m (Y5 (Zu h) k o.Y).1 (o.size,o.M)else m) l
def Ck.put(s:Ck)(k:Int)(l:List Ob):Ck:=if k=1 then {s with o1:=l}else if k=2 then {s with o2:=l}else if k=3 then {s with o3:=l}else {s with o4:=l}
def XN(s:Ck)(k:Int)(l:List Ob):Ck:= {s.put k l with pm:=WD s.h k s.pm l,lm:=Xw s.h k s.lm l}
def L5{h k}:∀ {l:List Ob} {i:Nat} {o:Ob} {m:List (Int×Int)},l[i]?=J o->WD h k m (l.take<|i+1)=XO (WD h k m<|l.take i) (Y5 (Zu h) k o.Y).1 k
 | [],_,_,_,h=>ZeK
 |x::l,0,o,m,h=>by simp_all[WD]
 |x::l,i+1,o,m,h=>by
  simp_all[Ziv,WD,L5]
def L3{h k}:∀ {l:List Ob} {i:Nat} {o:Ob} {m:List (Int×(Int×Int))},l[i]?=J o->Xw h k m (l.take<|i+1)=if k=1 then XO (Xw h k m<|l.take i) (Y5 (Zu h) k o.Y).1 (o.size,o.M)else Xw h k m (l.take i)
 | [],_,_,_,h=>ZeK
 |x::l,0,o,m,h=>by simp_all[Xw]
 |x::l,i+1,o,m,h=>by
  simp_all[Ziv,Xw,L3]
abbrev zE:List CK:=[.fz,.fz,.fz,.fz,.fz,.fz,.fz,.fz,.fz,.fz,.fz,.fz,.fz,.fz,.fz,.fz,.fz,.fz,.fz,.fz,.fz,.own 84,.own 115]
@[simp]theorem Z6o(s:Ck)k l:(s.put k l).h=s.h:=by
 unfold Ck.put;split;rfl;split;rfl;split<;>rfl
def yN{l k x}:T6 (.i .u64) (Yk vi l) (vu k) (vi x)=J (Yk vi<|XO l k x):=KX
def yO{l k a b}:T6 (.i .u64) (Yk Wj l) (vu k) (.agg [vi a,vi b])=J (Yk Wj<|XO l k (a,b)):=KX (f:=Wj) (x:=(a,b))
def yU{s}(q:s.h.ok){k}(u:1<=k/\k<=4){l}(w:I l<=1000000):Vl Sol.prog 121 [.mem zE,.fz,.fz] [.agg<|ZV s,vi k,.sl<|l.map ZQ]<|.an [.an [],.agg<|ZV<|XN s k l]:=by
 refine JQ Sol.func121 follows Z2 Z0U Z2 ?_;have r:k=1\/k=2\/k=3\/k=4:=Z0;have t:∀k,({s.put k l with pm:=s.pm,lm:=s.lm}:Ck)=s.put k l:=by
  intro k;unfold Ck.put;split;rfl;split;rfl;split<;>rfl
 have o:=λk at_=>Eu q.bf (part:=k) (at_:=at_);unfold Zu Xn at o;obtain rfl|rfl|rfl|rfl:=r
 .simp[Le,ZV,Y9,UM,jr,setCells];refine VV 3 (I l) (λi=>[(0,.m<|ZV {s.put 1 l with pm:=WD s.h 1 s.pm<|l.take i,lm:=Xw s.h 1 s.lm (l.take i)}),(3,.v<|vi i)]) (λ_=>True) (by simp[ZV,Ck.put,WD,Xw]) Z1 trivial ?_;intro i p _;have d:=Zz (i+1) Z0 Z0;by_cases a:i<I l
  .have f:=Zf4 a;have g:=L5 (h:=s.h) (k:=1) (m:=s.pm) f;have j:=L3 (h:=s.h) (k:=1) (m:=s.lm) f;have n:=o 1 (l[i]).Y;simp[a,ZV,X7];refine Zy n Z1 ?_;simp[yN,yO,g,j,d];first|done|rfl|exact⟨rfl,rfl⟩
  have:i=I l:=Z0;subst this;simp[ZV,XN,Zg5]
 .simp[Le,ZV,Y9,UM,LX,setCells];refine VV 3 (I l) (λi=>[(0,.m<|ZV {s.put 2 l with pm:=WD s.h 2 s.pm<|l.take i,lm:=Xw s.h 2 s.lm (l.take i)}),(3,.v<|vi i)]) (λ_=>True) (by simp[ZV,Ck.put,WD,Xw]) Z1 trivial ?_;intro i p _;have d:=Zz (i+1) Z0 Z0;by_cases a:i<I l
  .have f:=Zf4 a;have g:=L5 (h:=s.h) (k:=2) (m:=s.pm) f;have j:=L3 (h:=s.h) (k:=2) (m:=s.lm) f;have n:=o 2 (l[i]).Y;simp[a,ZV,X7];refine Zy n Z1 ?_;simp[yN,yO,g,j,d];first|done|rfl|exact⟨rfl,rfl⟩
  have:i=I l:=Z0;subst this;simp[ZV,XN,Zg5]
 .simp[Le,ZV,Y9,UM,Qv,setCells];refine VV 3 (I l) (λi=>[(0,.m<|ZV {s.put 3 l with pm:=WD s.h 3 s.pm<|l.take i,lm:=Xw s.h 3 s.lm (l.take i)}),(3,.v<|vi i)]) (λ_=>True) (by simp[ZV,Ck.put,WD,Xw]) Z1 trivial ?_;intro i p _;have d:=Zz (i+1) Z0 Z0;by_cases a:i<I l
  .have f:=Zf4 a;have g:=L5 (h:=s.h) (k:=3) (m:=s.pm) f;have j:=L3 (h:=s.h) (k:=3) (m:=s.lm) f;have n:=o 3 (l[i]).Y;simp[a,ZV,X7];refine Zy n Z1 ?_;simp[yN,yO,g,j,d];first|done|rfl|exact⟨rfl,rfl⟩
  have:i=I l:=Z0;subst this;simp[ZV,XN,Zg5]
 .simp[Le,ZV,Y9,UM,Qw,setCells];refine VV 3 (I l) (λi=>[(0,.m<|ZV {s.put 4 l with pm:=WD s.h 4 s.pm<|l.take i,lm:=Xw s.h 4 s.lm (l.take i)}),(3,.v<|vi i)]) (λ_=>True) (by simp[ZV,Ck.put,WD,Xw]) Z1 trivial ?_;intro i p _;have d:=Zz (i+1) Z0 Z0;by_cases a:i<I l
  .have f:=Zf4 a;have g:=L5 (h:=s.h) (k:=4) (m:=s.pm) f;have j:=L3 (h:=s.h) (k:=4) (m:=s.lm) f;have n:=o 4 (l[i]).Y;simp[a,ZV,X7];refine Zy n Z1 ?_;simp[yN,yO,g,j,d];first|done|rfl|exact⟨rfl,rfl⟩
  have:i=I l:=Z0;subst this;simp[ZV,XN,Zg5]
end Vm
namespace Vm
open Go Go.Proofs
def Uf(s:Ck):V:=.ptr [Xd s]
def Z7Z{s a w}(d:ZB w):VC Sol.prog 124 xw [vi a,vu w,Uf s]<|.bool<|YO s w 1 2:=by
 refine ZW Sol.func124 follows Z2 Z0X rfl ?_;simp[Md];refine Zy (Ln (s:=s) (first:=1) (last:=2) d) Z1 ?_;simp
def Z80{s a w}(d:ZB w):VC Sol.prog 125 xw [vi a,vu w,Uf s]<|.bool<|decide (s.h.aa<=a)||YO s w 1 2:=by
 refine ZW Sol.func125 follows Z2 Z0Y rfl ?_;unfold Uf Xd at*;by_cases h:s.h.aa<=a;simp[C0,YZ,V.one,ZV,h];simp[C0,YZ,V.one,ZV,h];refine Zy (Ln (s:=s) (first:=1) (last:=2) d) Z1 ?_;simp
def Z8Z{s a w}(d:ZB w):VC Sol.prog 126 xw [vi a,vu w,Uf s]<|.bool<|decide (a<s.h.aa)||YO s w 1 4:=by
 refine ZW Sol.func126 follows Z2 Z0Z rfl ?_;unfold Uf Xd at*;by_cases h:a<s.h.aa;simp[C1,YZ,V.one,ZV,h];simp[C1,YZ,V.one,ZV,h];refine Zy (Ln (s:=s) (first:=1) (last:=4) d) Z1 ?_;simp
def Hq{s a w}(d:ZB w):VC Sol.prog 127 xw [vi a,vu w,Uf s]<|.bool<|YO s w 3 4:=by
 refine ZW Sol.func127 follows Z2 Z10 rfl ?_;simp[Me];refine Zy (Ln (s:=s) (first:=3) (last:=4) d) Z1 ?_;simp
structure Ck.ok (s:Ck):Prop where
 h:s.h.ok
 ob:∀k,∀o∈s.du k,QG (I<|Zx s.h k) o/\ZB o.target
 len:∀k,I (s.du k)<=1000000
def VT(ws:List Int)(k:Nat):Int:=(ws[k]?).getD 0
def obQ(s:Ck)(k:Int)(q:Int->Int->Bool)(o:Ob):Bool:=o.gone||(List.range o.M.toNat).all λj=>q ((o.Y.toNat+1+j:Nat):Int)<|VT (Zx s.h k)<|o.Y.toNat+1+j
def V7(s:Ck)(k:Int)(q:Int->Int->Bool):Bool:=(s.du k).all<|obQ s k q
def Lm{s}(u:s.ok){k}(W:1<=k/\k<=4){f cs q}(Z:∀a w,ZB w->VC Sol.prog f xw ([vi a,vu w]++cs) (.bool<|q a w)):
  VC Sol.prog 123 xw [Xd s,vi k,.cq f cs] (.bool<|V7 s k q):=by
 refine ZW Sol.func123 follows Z2 Z0W rfl ?_;simp[-List.all_eq_true,-List.all_eq_false,Mc];refine Zy (Pj W) Z1 ?_;have P:=u.len k;have D:=u.ob k;have hw:=(XG u.h k).1;have Y:=(XG u.h k).2;have x:Y9 (.agg [.sl<|s.o1.map ZQ,.sl<|s.o2.map ZQ,.sl<|s.o3.map ZQ,.sl<|s.o4.map ZQ]) (.int .i64<|IntKind.i64.wrap<|k-1) 4 1 xk=J (.agg [.sl<|(s.du k).map ZQ]):=by
  have:k=1\/k=2\/k=3\/k=4:=Z0;obtain rfl|rfl|rfl|rfl:=this<;>simp[Y9,Ck.du,jr,LX,Qv,Qw]
 unfold V7;generalize hL:s.du k=L at*;generalize S:Zx s.h k=r at*;simp[-List.all_eq_true,-List.all_eq_false,Xd,ZV,x];refine z5 5 (I L) (λi=>(L.take i).all (obQ s k q)=xk) Z1 Z1 Z1 ?_;intro i hi N;have a0:=Zz (i+1) Z0 Z0;by_cases g:i<I L;have R:=Zf4 g;let⟨⟨⟨a,M,O⟩,F⟩,_⟩:=D _<|Zfq g;generalize L[i]=o at*;let⟨s1,s2,s3,s4⟩:=YE.1 F;let⟨m,Q⟩:=Zfi s3;have G:=Zz (a+1) Z0 Z0;have C:obQ s k q o=xk->(L.take<|i+1).all (obQ s k q)=xk:=λh=>by simp_all[EA]
 have y:obQ s k q o=xw->L.all _=xw:=λd=>Z03 R d;cases z:o.gone;have t:obQ s k q o=(List.range m).all λj=>q ((a+1+j:Nat):Int)<|VT r<|a+1+j:=by
  unfold obQ;rw[Q,M,S,z];rfl
 simp[-List.all_eq_true,-List.all_eq_false,g,Wm R,X7,z,M,Q];refine z5 11 m (λj=>((List.range j).all λj=>q ((a+1+j:Nat):Int)<|VT r<|a+1+j)=xk) Z1 Z1 Z1 ?_;intro j hj T;have a1:=Zz (j+1) Z0 Z0;by_cases A:j<m;obtain⟨w,l,hu⟩:∃w,r[a+1+j]?=J w/\ZB w:=⟨_,Zf4 Z0,Ze8⟩;have K:VT r (a+1+j)=w:=by unfold VT;rw[l];rfl
 have p:((List.range<|j+1).all λj=>q ((a+1+j:Nat):Int)<|VT r<|a+1+j)=(((List.range j).all λj=>q ((a+1+j:Nat):Int)<|VT r<|a+1+j)&&q ((a+1+j:Nat):Int) w):=by
  rw[Zhp,List.all_append];simp[K]
 have d:q ((a+1+j:Nat):Int) w=xw->L.all _=xw:=λd=>y (by
  grind)
 obtain⟨n,X⟩:∃n,a+1+j=n:=⟨_,rfl⟩;have B:a+1+j=(n:Int):=Z0;have H:=Zz n Z0 Z0;rw[X]at l p d;have kq:=Z n w hu;simp[-List.all_eq_true,-List.all_eq_false,A,G,B,H,l,X7];refine Zy kq Z1 ?_;simp_all;have:j=m:=Z0;simp_all;have t:obQ s k q o=xk:=by unfold obQ;rw[z];rfl
 simp_all;have:i=I L:=Z0;simp_all
@[simp]theorem ZcU l:(V.ptr l).one=xk:=rfl
@[simp]theorem ZcJ l:YZ (.ptr l)=J (.ptr l):=rfl
@[simp]theorem ZcQ f l:(V.cq f l).one=xk:=rfl
@[simp]theorem ZcF f l:YZ (.cq f l)=J (.cq f l):=rfl
@[simp]theorem ZcE s:YZ (Xd s)=J (Xd s):=rfl
@[simp]theorem ZcP s:(Xd s).one=xk:=rfl
@[simp]theorem Zds s:Te (Xd s)=J (.agg<|ZV s):=rfl
@[simp]theorem ZaT s:(ZV s)[4]?=J (vi s.h.aa):=rfl
@[simp]theorem ZaM s:(ZV s)[3]?=J (.bool s.h.Z):=rfl
@[simp]theorem ZaS s:(ZV s)[9]?=J (.sl<|s.h.E.map vu):=rfl
@[simp]theorem ZaQ s:(ZV s)[5]?=J (.sl<|s.h.H.map vu):=rfl
@[simp]theorem ZaO s:(ZV s)[6]?=J (.sl<|s.h.ac.map vu):=rfl
@[simp]theorem ZaR s:(ZV s)[7]?=J (.sl<|s.h.ah.map vu):=rfl
@[simp]theorem ZaN s:(ZV s)[8]?=J (.sl<|s.h.aj.map vu):=rfl
@[simp]theorem ZaL s:(ZV s)[1]?=J (vi s.h.cap):=rfl
def Qr(s:Ck):Bool:=s.h.E.all (λw=>YO s w 1 2)&&(V7 s 2 (λ_ w=>YO s w 1 2)&&V7 s 1 (λa w=>decide (s.h.aa<=a)||YO s w 1 2))
def Z81{s}(n:s.ok):VC Sol.prog 107 xw [Xd s]<|.bool<|Qr s:=by
 refine ZW Sol.func107 follows Z2 Z0M rfl ?_;have k1:=Lm n (k:=2) Z0 (f:=124) (cs:=[Uf s]) (q:=λ_ w=>YO s w 1 2) (λa w l=>Z7Z l);have u:=Lm n (k:=1) Z0 (f:=125) (cs:=[Uf s]) (q:=λa w=>decide _||YO s w 1 2) (λa w l=>Z80 l);have A:=λw (l:ZB w)=>Ln (s:=s) (first:=1) (last:=2) l;have y:=n.h.E;unfold Qr;unfold Uf at k1 u;generalize V7 s 2 (λ_ w=>YO s w 1 2)=x at*;generalize V7 s 1 (λa w=>decide (s.h.aa<=a)||YO s w 1 2)=B at*;simp[-List.all_eq_true,-List.all_eq_false,M4];refine z5 3 (I s.h.E) (λi=>(s.h.E.take i).all (λw=>YO s w 1 2)=xk) Z1 Z1 Z1 ?_;intro i C g;have p:=Zz (i+1) Z0 Z0;by_cases j:i<I s.h.E;have t:=Zf4 j;have z:=n.h.dq _<|Zfq j;generalize s.h.E[i]=w at*;have o:YO s w 1 2=xw->s.h.E.all (λw=>YO s w 1 2)=xw:=Ze7;have d:=EA (q:=λw=>YO s w 1 2) t;rw[g]at d;simp[-List.all_eq_true,-List.all_eq_false,j,Wm t,X7];refine Zy (A w z) Z1 ?_;cases r:YO s w 1 2;simp[-List.all_eq_true,-List.all_eq_false,o r];rw[r]at d;simp[-List.all_eq_true,-List.all_eq_false,p,d];have:i=I s.h.E:=Z0;subst this;rw[ZgD]at g;simp[-List.all_eq_true,-List.all_eq_false,g];refine Zy k1 (by simp[WC,V.be]) ?_;cases x;simp;simp;refine Zy u (by simp[WC,V.be]) ?_;simp
def Qu(s:Ck):Bool:=V7 s 1 (λa w=>decide (a<s.h.aa)||YO s w 1 4)
def Z90{s}(d:s.ok):VC Sol.prog 108 xw [Xd s]<|.bool<|Qu s:=by
 refine ZW Sol.func108 follows Z2 Z0N rfl ?_;unfold Qu;simp[M5];refine Zy (Lm d (k:=1) Z0 (f:=126) (cs:=[Uf s]) (q:=λa w=>decide _||YO s w 1 4)<|λa w g=>Z8Z g) (by simp[WC,V.be]) ?_;simp
def Q9(s:Ck):Bool:=V7 s 3 (λ_ w=>YO s w 3 4)&&V7 s 4 (λ_ w=>YO s w 3 4)
def Z3W{s}(g:s.ok):VC Sol.prog 109 xw [Xd s]<|.bool<|Q9 s:=by
 refine ZW Sol.func109 follows Z2 Z0O rfl ?_;have k1:=Lm g (k:=3) Z0 (f:=127) (cs:=[Uf s]) (q:=λ_ w=>YO s w 3 4) (λa w d=>Hq d);have j:=Lm g (k:=4) Z0 (f:=127) (cs:=[Uf s]) (q:=λ_ w=>YO s w 3 4) (λa w d=>Hq d);unfold Q9;generalize V7 s 3 (λ_ w=>YO s w 3 4)=h at*;simp[M6];refine Zy k1 (by simp[WC,V.be]) ?_;cases h;simp;simp;refine Zy j (by simp[WC,V.be]) ?_;simp
end Vm
namespace Vm
open Go Go.Proofs
def SM(s:Ck):Bool:=ZI (Zu s.h)&&(decide (I s.h.E<=16)&&(decide (0<=s.h.aa)&&decide (s.h.aa<=I s.h.H)))
def Z0E{s}(f:s.h.ok):VC Sol.prog 103 xw [Xd s]<|.bool<|SM s:=by
 refine ZW Sol.func103 follows Z2 Z0I rfl ?_;have k:=LB f.bf;unfold SM;unfold Zu Xn at k;simp[M2];simp[ZV];refine Zy k Z1 ?_;have e:ZI {base:=s.h.base,cap:=s.h.cap,to:=s.h.to,H:=(I s.h.H:Int),ac:=(I s.h.ac:Int),ah:=(I s.h.ah:Int),aj:=(I s.h.aj:Int)}=ZI (Zu s.h):=rfl;rw[e];cases ZI _;simp;by_cases d:I s.h.E<=16;have a:(I s.h.E:Int)<=16:=Z0;simp_all;have a:¬(I s.h.E:Int)<=16:=Z0;simp[d,a]
def Qo(s:Ck):Bool:=if s.h.Z then decide (s.h.aa<I s.h.H)else decide (I s.h.ah=0)&&(decide (I s.h.aj=0)&&decide (s.h.aa=I s.h.H))
def Z77{s}:VC Sol.prog 104 xw [Xd s]<|.bool<|Qo s:=by
 refine ZW Sol.func104 follows Z2 Z0J rfl ?_;unfold Qo;cases f:s.h.Z;by_cases g:I s.h.ah=0;have a:=ZgY.1 g;by_cases j:I s.h.aj=0;have d:=ZgY.1 j;simp[Lc,f,a,d];have d:¬s.h.aj=[]:=Ze8;simp[Lc,f,a,j];have a:¬s.h.ah=[]:=Ze8;simp[Lc,f,g];simp[Lc,f]
def QA(s:Ck):Nat:=Y1 s.o3+Y1 s.o4
@[simp]theorem Zcv s:((ZV s).drop 17).take 4=[.sl<|s.o1.map ZQ,.sl<|s.o2.map ZQ,.sl<|s.o3.map ZQ,.sl<|s.o4.map ZQ]:=rfl
@[simp]theorem ZaP s:I (ZV s)=23:=rfl
def Z9b{s}(t:s.ok):VC Sol.prog 52 xw [Xd s]<|vi<|QA s:=by
 refine ZW Sol.func52 follows Z2 c52 rfl ?_;have n:=λk o p=>(t.ob k o p).1.2;have H:I s.o3<=1000000:=t.len 3;have K:I s.o4<=1000000:=t.len 4;have h:∀o∈s.o3,YJ o.size o.M=xk:=n 3;have l:=n 4;have F:=QB h;have A:Y9 (.agg [.sl<|s.o1.map ZQ,.sl<|s.o2.map ZQ,.sl<|s.o3.map ZQ,.sl<|s.o4.map ZQ]) (.int .i64 2) 4 1 xk=J (.agg [.sl<|s.o3.map ZQ]):=by simp[Y9]
 have B:Y9 (.agg [.sl<|s.o1.map ZQ,.sl<|s.o2.map ZQ,.sl<|s.o3.map ZQ,.sl<|s.o4.map ZQ]) (.int .i64 3) 4 1 xk=J (.agg [.sl<|s.o4.map ZQ]):=by simp[Y9]
 simp[MA];refine SE (λi=>[(2,.v<|vi ((if 0<i then Y1 s.o3 else 0)+(if 1<i then Y1 s.o4 else 0):Nat)),(3,.v<|vi ((i+3:Nat):Int))]) (λi=>i<=2) (Xe 3 5) 0 Z1 Z1 ?_;rintro i L;have q:i=0\/i=1\/i=2:=Z0;obtain rfl|rfl|rfl:=q;simp[Qv,A];refine VV 5 (I s.o3) (λj=>[(2,.v<|vi<|Y1<|s.o3.take j),(5,.v<|vi j)]) (λ_=>True) (by simp[Y1]) Z1 trivial ?_;rintro j G-;have w:=Zz (j+1) Z0 Z0;by_cases f:j<I s.o3;have x:=Zf4 f;have a:=h _<|Zfq f;have u:=Pu x;generalize s.o3[j]=o at*;have r:Y1 (s.o3.take j)<=256*I s.o3:=by
  refine ZfB (QB λo p=>Ze7) ?_;simp;omega
 let⟨g1,g2,C,D⟩:=YE.1 a;let⟨z,y⟩:=Zfi g1;have w1:=Zz (1+z) Z0 Z0;have w2:=Zz ((Y1 (s.o3.take j):Int)+(1+z)) Z0 Z0;cases g:o.gone;have d:XY o=1+z:=by simp[XY,g,y]
 simp_all;have d:XY o=0:=by simp[XY,g]
 simp_all;have:j=I s.o3:=Z0;subst this;rw[ZgD];simp[X7,Zz];exact⟨1,Z0,Z1,ZeY⟩;simp[Qw,B];refine VV 5 (I s.o4) (λj=>[(2,.v<|vi (Y1 s.o3+Y1 (s.o4.take j):Nat)),(5,.v<|vi j)]) (λ_=>True) (by simp[Y1]) Z1 trivial ?_;rintro j G-;have w:=Zz (j+1) Z0 Z0;by_cases f:j<I s.o4;have x:=Zf4 f;have a:=l _<|Zfq f;have u:=Pu x;generalize s.o4[j]=o at*;have r:Y1 (s.o4.take j)<=256*I s.o4:=by
  refine ZfB (QB λo p=>l o<|Zgf p) ?_;simp;omega
 let⟨g1,g2,C,D⟩:=YE.1 a;let⟨z,y⟩:=Zfi g1;have w1:=Zz (1+z) Z0 Z0;have w2:=Zz ((Y1 s.o3:Int)+Y1 (s.o4.take j)+(1+z)) Z0 Z0;cases g:o.gone;have d:XY o=1+z:=by simp[XY,g,y]
 simp_all;omega;have d:XY o=0:=by simp[XY,g]
 simp_all;have:j=I s.o4:=Z0;subst this;rw[ZgD];simp[X7,Zz];exact⟨2,Z0,Z1,ZeY⟩;simp[QA]
def Qp(s:Ck):Bool:=decide ((I s.h.H:Int)+I s.h.ac+QA s<=s.h.cap)
def Z98{s}(a:s.ok):QA s<=512*1000000:=by
 have f:=QB (l:=s.o3) λo d=>(a.ob 3 o d).1.2;have g:=QB (l:=s.o4) λo d=>(a.ob 4 o d).1.2;have h:I s.o3<=1000000:=a.len 3;have j:I s.o4<=1000000:=a.len 4;grind [QA]
def Z7e{s}(a:s.ok):VC Sol.prog 110 xw [Xd s]<|.bool<|Qp s:=by
 refine ZW Sol.func110 follows Z2 Z0P rfl ?_;have d:=Z98 a;have f:=a.h.H;have g:=a.h.ac;have w2:=Zz ((I s.h.H:Int)+I s.h.ac+QA s) Z0 Z0;simp[M7];refine Zy (Z9b a) Z1 ?_;simp[Zz ((I s.h.H:Int)+I s.h.ac) Z0 Z0,w2,Qp]
end Vm
namespace Vm
open Go Go.Proofs
def WP(lm:List<|Int×(Int×Int))(ws:List Int):Nat->Nat->List (Int×Int)->List (Int×Int)
 |0,_,a=>a
 |f+1,i,a=>
  match ws[i]? with
  |none=>a
  |some w=>if(adr w).2=0 then(match Y2 lm (adr w).1 with|none=>a|some sh=>WP lm ws f (i+1+sh.1.toNat)<|a++[sh])
   else if(ZR w).2.2=0 then WP lm ws f (i+1+(ZR w).1.toNat) a else a
def TJ(lm:List<|Int×(Int×Int))(ws:List Int):List<|Int×Int:=WP lm ws (I ws+1) 0 []
def Gn{α l k}{x:α}(h:Y2 l k=J x):(k,x)∈l:=by
 obtain⟨y,a,rfl⟩:=Zf5.1 h;grind
def Z82{s}(B:∀x∈s.lm,YJ x.2.1 x.2.2=xk){ws}(L:I ws<=1000000)(K:∀w∈ws,ZB w):
  VC Sol.prog 120 xw [Xd s,.sl<|ws.map vu] (.sl<|(TJ s.lm ws).map Wj):=by
 refine ZW Sol.func120 follows Z2 Z0T rfl ?_;have A:∀k,Ut (.i .u64) (Yk Wj s.lm) (vu k) (.agg [vi 0,vi 0]) xk=match Y2 s.lm k with
  |some x=>J<|.an [Wj x,.bool xk]
  |none=>J<|.an [.agg [vi 0,vi 0],.bool xw]:=λk=>by grind [Qb,Y2]
 have y:(ZV s)[22]?=J _:=rfl;simp[Mb]
 refine SE (λ(p:Nat×List _)=>[(3,.v<|.sl<|p.2.map Wj),(4,.v<|vi p.1)])
  (λp=>p.1<=I ws+256/\I p.2<=p.1/\∃f,I ws<f+p.1/\0<f/\TJ s.lm ws=WP s.lm ws f p.1 p.2) (Xe 4<|I ws) (0,[]) Z1 ⟨Z1,Z1,I ws+1,Z1,Z0,rfl⟩ ?_
 rintro⟨i,g⟩ ⟨H,q,f,F,G,a⟩;simp only at H q F a;cases f with
 |zero=>omega
 |succ f=>
 by_cases d:i<I ws;have C:=Zf4 d;have D:=K _<|Zfq d;generalize ws[i]=w at*;simp[WP,C]at a;have t:I g+1<=Y8:=ZeA;simp[d,Wm C,X7];refine Zy (K5 D) Z1 ?_;by_cases u:(adr w).2=0;rw[if_pos u]at a;simp[u,y,A];cases r:Y2 s.lm (adr w).1 with
 |none=>
  simp_all
 |some o=>
  rw[r]at a;simp only at a;have h:0<=o.1/\o.1<=255/\0<=o.2/\o.2<=o.1:=YE.1<|B _<|Gn r;let⟨z,n⟩:=Zfi h.1;have l:=Zz (i+(1+z)) Z0 Z0;rw[n,Zfh]at a;simp[t,n,Zz (1+z) Z0 Z0,l];refine⟨i+1+z,g++[o],⟨Z0,Ze9,f,Z0,?_,a⟩,⟨by simp[Wj,n],Z0⟩,ZeW⟩;omega
 rw[if_neg u]at a;simp[u,Wm C,d,X7];refine Zy (OY D) Z1 ?_;by_cases j:(ZR w).2.2=0;rw[if_pos j]at a;have h:=YE.1<|DB j;let⟨z,n⟩:=Zfi h.1;have l:=Zz (i+(1+z)) Z0 Z0;rw[n,Zfh]at a;simp[j,n,Zz (1+z) Z0 Z0,l];refine⟨i+1+z,g,⟨Z0,Z0,f,Z0,?_,a⟩,Ze7,ZeW⟩;omega;simp_all;simp_all[WP]
end Vm
namespace Vm
open Go Go.Proofs
def WA(pm:List<|Int×Int):List Ob->List (Int×Bool)->Option (List<|Int×Bool)
 | [],m=>J m
 |o::l,m=>if o.gone=xk then(if(Y2 pm o.target).getD 0=1/\(Y2 m o.target).getD xw=xw then WA pm l (XO m o.target xk)else U)else WA pm l m
def RQ(s:Ck):Bool:= !s.h.Z||match(WA s.pm s.o3 []).bind (WA s.pm s.o4)with
 |none=>xw
 |some m=>decide (I m=I s.o1)
def Ij{l k x}:T6 (.i .u64) (Yk .bool l) (vu k) (.bool x)=J (Yk .bool<|XO l k x):=KX
def Jd{l k}:Ut (.i .u64) (Yk .bool l) (vu k) (.bool xw) xw=J (.bool<|(Y2 l k).getD xw):=by
 grind [Qb]
def Je{l k}:Ut (.i .u64) (Yk vi l) (vu k) (vi 0) xw=J (vi<|(Y2 l k).getD 0):=by
 grind [Qb]
def Z4D{α}(f:α->V):Yk f []=.mp 0 [] []:=rfl
def Z1u{s}(y:s.ok):VC Sol.prog 106 xw [Xd s]<|.bool<|RQ s:=by
 refine ZW Sol.func106 follows Z2 Z0L rfl ?_;have D:I s.o3<=1000000:=y.len 3;have F:I s.o4<=1000000:=y.len 4;have H:=λo G=>(y.ob 3 o G).2;have B:Y9 (.agg [.sl<|s.o1.map ZQ,.sl<|s.o2.map ZQ,.sl<|s.o3.map ZQ,.sl<|s.o4.map ZQ]) (.int .i64 2) 4 1 xk=J (.agg [.sl<|s.o3.map ZQ]):=by simp[Y9]
 have C:Y9 (.agg [.sl<|s.o1.map ZQ,.sl<|s.o2.map ZQ,.sl<|s.o3.map ZQ,.sl<|s.o4.map ZQ]) (.int .i64 3) 4 1 xk=J (.agg [.sl<|s.o4.map ZQ]):=by simp[Y9]
 have A:Y9 (.agg [.sl<|s.o1.map ZQ,.sl<|s.o2.map ZQ,.sl<|s.o3.map ZQ,.sl<|s.o4.map ZQ]) (.int .i64 0) 4 1 xk=J (.agg [.sl<|s.o1.map ZQ]):=by simp[Y9]
 have g:(ZV s)[21]?=J _:=rfl;have x:=(Z4D V.bool).symm;unfold RQ;cases z:s.h.Z;simp[BX,z];simp[BX,z,x]
 refine SE (λp=>[(3,.v<|Yk .bool p.2),(4,.v<|vi ((p.1+3:Nat):Int))])
  (λp=>(p.1=0/\p.2=[])\/(p.1=1/\WA s.pm s.o3 []=J p.2)\/(p.1=2/\(WA s.pm s.o3 []).bind (WA s.pm s.o4)=J p.2)) (Xe 4 5) (0,[]) Z1 Z1 ?_
 rintro⟨i,m⟩ (⟨rfl,rfl⟩|⟨rfl,w⟩|⟨rfl,w⟩);simp[Qv,B];refine SE (λ(p:Nat×List _)=>[(3,.v<|Yk .bool p.2),(6,.v<|vi p.1)]) (λp=>p.1<=I s.o3/\WA s.pm s.o3 []=WA s.pm (s.o3.drop p.1) p.2) (Xe 6<|I s.o3) (0,[]) Z1 Z1 ?_;rintro⟨j,r⟩ ⟨u,a⟩;simp only at u a;have d:=Zz (j+1) Z0 Z0;by_cases f:j<I s.o3;have q:=Zf4 f;have t:=Zg7 f;generalize s.o3[j]=o at*;rw[t,WA]at a;cases k:o.gone;rw[k]at a;rw[if_neg Z1]at a;simp[X7,f,Wm q,k,d];exact⟨j+1,r,Ze7,Z1,ZeW⟩;rw[k]at a;rw[if_pos rfl]at a;by_cases l:(Y2 s.pm o.target).getD 0=1;cases n:(Y2 r o.target).getD xw;rw[if_pos ⟨l,n⟩]at a;simp[X7,f,Wm q,k,d,g,Je,Jd,WC,V.be,l,n,Ij];exact⟨j+1,XO r o.target xk,Ze7,Z1,ZeW⟩;rw[if_neg (by simp[n])]at a;simp[X7,f,Wm q,k,d,g,Je,Jd,WC,V.be,l,n,a];rw[if_neg (by simp[l])]at a;simp[X7,f,Wm q,k,d,g,Je,Jd,WC,V.be,l,a];have:j=I s.o3:=Z0;subst this;rw[List.drop_length,WA]at a;simp[Zz];exact⟨1,r,by simp[a],Z1,ZeY⟩;simp[Qw,C];refine SE (λ(p:Nat×List _)=>[(3,.v<|Yk .bool p.2),(6,.v<|vi p.1)]) (λp=>p.1<=I s.o4/\WA s.pm s.o4 m=WA s.pm (s.o4.drop p.1) p.2) (Xe 6<|I s.o4) (0,m) Z1 Z1 ?_;rintro⟨j,r⟩ ⟨u,a⟩;simp only at u a;have d:=Zz (j+1) Z0 Z0;by_cases f:j<I s.o4;have q:=Zf4 f;have t:=Zg7 f;generalize s.o4[j]=o at*;rw[t,WA]at a;cases k:o.gone;rw[k]at a;rw[if_neg Z1]at a;simp[X7,f,Wm q,k,d];exact⟨j+1,r,Ze7,Z1,ZeW⟩;rw[k]at a;rw[if_pos rfl]at a;by_cases l:(Y2 s.pm o.target).getD 0=1;cases n:(Y2 r o.target).getD xw;rw[if_pos ⟨l,n⟩]at a;simp[X7,f,Wm q,k,d,g,Je,Jd,WC,V.be,l,n,Ij];exact⟨j+1,XO r o.target xk,⟨Z0,a⟩,Z1,ZeW⟩;rw[if_neg (by simp[n])]at a;simp[X7,f,Wm q,k,d,g,Je,Jd,WC,V.be,l,n,w,a];rw[if_neg (by simp[l])]at a;simp[X7,f,Wm q,k,d,g,Je,Jd,WC,V.be,l,w,a];have:j=I s.o4:=Z0;subst this;rw[List.drop_length,WA]at a;simp[Zz];exact⟨2,r,Ze7,Z1,ZeY⟩;simp[A];grind
end Vm
namespace Vm
open Go Go.Proofs
def QH:Prop:=∀a:List Int,I a<=1000000->(∀w∈a,ZB w)->VC Sol.prog 117 xk [.sl<|a.map vu] (.an [.sl<|(ZO a [] xw).1.map ZQ,vi (ZO a [] xw).2])
def QI:Prop:=∀(d:List Int) (a:List<|Int×Int),I d<=1000000->I a<=1000000->(∀w∈d,ZB w)->(∀x∈a,YJ x.1 x.2=xk)->
 VC Sol.prog 119 xk [.sl<|d.map vu,.sl<|a.map Wj] (.an [.sl<|(ZO d a xk).1.map ZQ,vi (ZO d a xk).2])
def Xm(s:Ck)(k:Int):List Ob×Int:=if k<=2 then ZO (Zx s.h k) [] xw else ZO (Zx s.h k) (TJ s.lm<|Zx s.h k) xk
def V0:List Int->Ck->Bool×Ck
 | [],s=>(xk,s)
 |k::l,s=>if(Xm s k).2=0 then V0 l (XN s k (Xm s k).1)else(xw,s)
def XW(s:Ck):Bool×Ck:=V0 [1,2,3,4] s
def Qf s k l:(XN s k l).h=s.h:=Z6o s k l
def Z6l{α l k x}{y:Int×α}(h:y∈XO l k x):y=(k,x)\/y∈l:=by
 grind [XO]
def Jl{h k}:∀ {l} {m:List (Int×(Int×Int))},(∀o∈l,YJ o.size o.M=xk)->(∀x∈m,YJ x.2.1 x.2.2=xk)->∀x∈Xw h k m l,YJ x.2.1 x.2.2=xk
 | [],m,_,a=>a
 |o::l,m,f,a=>by
  rw[Xw];refine Jl Ze8 ?_;split;intro x d;obtain rfl|d:=Z6l d;simp_all;grind;exact a
def LY{s}(a:s.h.ok){k}:(∀o∈(Xm s k).1,QG (I<|Zx s.h k) o/\ZB o.target)/\(Xm s k).1.length<=I (Zx s.h k):=by
 unfold Xm;split;exact⟨JS (XG a k).1,JT⟩;exact⟨JS (XG a k).1,JT⟩
def D8{lm ws}:∀ {f i} {a:List (Int×Int)},I a<=i->I a<=I ws->I (WP lm ws f i a)<=I ws
 |0,i,a,_,h=>h
 |f+1,i,a,j,h=>by
  rw[WP];cases g:ws[i]? with
  |none=>exact h
  |some w=>
   have d:=(Zf3.1 g).1;simp only;split;split;exact h;exact D8 Ze9 Ze9;split;exact D8 Z0 h;exact h
def Oh{lm ws}:I (TJ lm ws)<=I ws:=D8 Z1 Z1
def ja{lm ws}(d:∀x∈lm,YJ x.2.1 x.2.2=xk):∀ {f i} {a:List (Int×Int)},(∀x∈a,YJ x.1 x.2=xk)->∀x∈WP lm ws f i a,YJ x.1 x.2=xk
 |0,i,a,h=>h
 |f+1,i,a,h=>by
  rw[WP];cases g:ws[i]? with
  |none=>exact h
  |some w=>
   simp only;split;split;exact h;rename_i k j;refine ja d ?_;intro x g;obtain g|g:=Zfy.1 g;grind;simp at g;subst g;exact d _<|Gn j;split;exact ja d h;exact h
def Z97:IntKind.i64.wrap 4=4:=Zeo
def Z9g(F:QH)(B:QI){s}(G:s.h.ok)(D:∀x∈s.lm,YJ x.2.1 x.2.2=xk):Vl Sol.prog 105 [.mem zE] [.agg<|ZV s]<|.an [.bool (XW s).1,.agg<|ZV (XW s).2]:=by
 refine JQ Sol.func105 follows Z2 Z0K Z2 ?_;simp[M3];refine SE (λ(p:Nat×Ck)=>[(0,.m<|ZV p.2),(3,.v<|vi p.1)]) (λp=>p.1<=4/\p.2.h=s.h/\(∀x∈p.2.lm,YJ x.2.1 x.2.2=xk)/\XW s=V0 ([1,2,3,4].drop p.1) p.2) (Xe 3 4) (0,s) Z1 ⟨Z1,rfl,D,rfl⟩ ?_;rintro⟨i,q⟩ ⟨H,A,n,f⟩;simp only at H A n f;have d:=A▸G;have C:i=0\/i=1\/i=2\/i=3\/i=4:=Z0;have j:=λk K=>Pj (s:=q) (k:=k) K;have w:=λk=>Z82 (s:=q) n (XG d k).2 (XG d k).1;obtain rfl|rfl|rfl|rfl|rfl:=C;replace j:=j 1 Z0;have st:=LY d (k:=1);have t:=yU (s:=q) d (k:=1) Z0 (l:=(Xm q 1).1)<|ZfB st.2 (XG d 1).2;have k1:=F _ (XG d 1).2 (XG d 1).1;have g:=Jl (h:=q.h) (k:=1) (l:=(Xm q 1).1) (m:=q.lm) (λo y=>(st.1 o y).1.2) n;replace f:XW s=V0 (1:: [2,3,4]) q:=f;rw[V0]at f;have r:Xm q 1=ZO _ [] xw:=rfl;rw[<-r]at k1;generalize Xm q 1=z at*;let⟨l,e⟩:=z;simp only at k1 t f g st;unfold Xd ZV at j;unfold ZV at t;simp[ZV,LX];refine Zy j Z1 ?_;simp;refine Zy k1 Z1 ?_;simp;by_cases u:e=0;rw[if_pos u]at f;simp[u];refine VW t ?_;simp[Zz];exact⟨1,XN q 1 l,⟨Z0,by rw[Qf,A],λa b c h=>g _ h,f⟩,Z1,ZeY⟩;simp_all;replace j:=j 2 Z0;have st:=LY d (k:=2);have t:=yU (s:=q) d (k:=2) Z0 (l:=(Xm q 2).1)<|ZfB st.2 (XG d 2).2;have k1:=F _ (XG d 2).2 (XG d 2).1;have g:=Jl (h:=q.h) (k:=2) (l:=(Xm q 2).1) (m:=q.lm) (λo y=>(st.1 o y).1.2) n;replace f:XW s=V0 (2:: [3,4]) q:=f;rw[V0]at f;have r:Xm q 2=ZO _ [] xw:=rfl;rw[<-r]at k1;generalize Xm q 2=z at*;let⟨l,e⟩:=z;simp only at k1 t f g st;unfold Xd ZV at j;unfold ZV at t;simp[ZV,Qv];refine Zy j Z1 ?_;simp;refine Zy k1 Z1 ?_;simp;by_cases u:e=0;rw[if_pos u]at f;simp[u];refine VW t ?_;simp[Zz];exact⟨2,XN q 2 l,⟨Z0,by rw[Qf,A],λa b c h=>g _ h,f⟩,Z1,ZeY⟩;simp_all;replace j:=j 3 Z0;have st:=LY d (k:=3);have t:=yU (s:=q) d (k:=3) Z0 (l:=(Xm q 3).1)<|ZfB st.2 (XG d 3).2;have k1:=B _ _ (XG d 3).2 (ZfB Oh (XG d 3).2) (XG d 3).1<|ja n Z1;replace w:=w 3;have g:=Jl (h:=q.h) (k:=3) (l:=(Xm q 3).1) (m:=q.lm) (λo y=>(st.1 o y).1.2) n;replace f:XW s=V0 (3:: [4]) q:=f;rw[V0]at f;have r:Xm q 3=ZO _ _ xk:=rfl;rw[<-r]at k1;generalize Xm q 3=z at*;let⟨l,e⟩:=z;simp only at k1 t f g st;unfold Xd ZV at j w;unfold ZV at t;simp[ZV,Qw];refine Zy j Z1 ?_;simp;refine Zy j Z1 ?_;simp;refine Zy w Z1 ?_;simp;refine Zy k1 Z1 ?_;simp;by_cases u:e=0;rw[if_pos u]at f;simp[u];refine VW t ?_;simp[Zz];exact⟨3,XN q 3 l,⟨Z0,by rw[Qf,A],λa b c h=>g _ h,f⟩,Z1,ZeY⟩;simp_all;replace j:=j 4 Z0;have st:=LY d (k:=4);have t:=yU (s:=q) d (k:=4) Z0 (l:=(Xm q 4).1)<|ZfB st.2 (XG d 4).2;have k1:=B _ _ (XG d 4).2 (ZfB Oh (XG d 4).2) (XG d 4).1<|ja n Z1;replace w:=w 4;have g:=Jl (h:=q.h) (k:=4) (l:=(Xm q 4).1) (m:=q.lm) (λo y=>(st.1 o y).1.2) n;replace f:XW s=V0 (4:: []) q:=f;rw[V0]at f;have r:Xm q 4=ZO _ _ xk:=rfl;rw[<-r]at k1;generalize Xm q 4=z at*;let⟨l,e⟩:=z;simp only at k1 t f g st;unfold Xd ZV at j w;unfold ZV at t;simp[ZV,Z97];refine Zy j Z1 ?_;simp;refine Zy j Z1 ?_;simp;refine Zy w Z1 ?_;simp;refine Zy k1 Z1 ?_;simp;by_cases u:e=0;rw[if_pos u]at f;simp[u];refine VW t ?_;simp[Zz];exact⟨4,XN q 4 l,⟨Z0,by rw[Qf,A],λa b c h=>g _ h,f⟩,Z1,ZeY⟩;simp_all;replace f:XW s=(xk,q):=f;simp[f,ZV]
end Vm
namespace Vm
open Go Go.Proofs
def Z95{P f ks cs r}(hv:VC P f xw [.ptr cs] r)(G:r.be=xk)(l:I cs=I ks)(u:cs.all V.one=xk)(D:ks.all (λk=> !(k==.fq))=xk):
  Vl P f [.mem ks] [.agg cs] (.an [r,.agg cs]):=by
 let⟨Q,R⟩:=hv;refine⟨Q,λB w h vs a S=> ?_⟩;let⟨a3,a2,C⟩:=S;let⟨tk,j,z⟩:=C 0 _ _ rfl rfl;simp only[Wl]at j;rw[if_pos l]at j;simp at j;subst j;let⟨b,O,T,q,M,hh,o⟩:=z;have n:∀(ks:List CK) cs,I cs=I ks->YA [] (((ks.zip cs).map λy=>(y.1,E.c y.2)).map (·.2))=J cs:=by
  intro ks;induction ks with
  |nil=>simp
  |cons k ks ih=>
   intro cs hl;obtain _|⟨c,cs⟩:=cs;simp at hl;simp_all
 have hz:eval [] (.pt U (((ks.zip cs).map λy=>(y.1,E.c y.2)).map (·.2)))=J (.ptr cs):=by
  simp only[eval,n ks cs l,Zfd,Lo,u,Zg1]
 have Y:Wy ((ks.zip cs).map λy=>(y.1,E.c y.2))=xw:=by
  rw[Wy,Zi7];intro x N;obtain⟨y,A,rfl⟩:=Zfj.1 N;have:=Zfe.1 D y.1 (List.of_mem_zip A).1;simpa using this
 have a1:=KV (G':=λb=>h.F b\/∃t i,h.bl t i=J b) q hh o Y hz (λb d=>.inl d) λi b d=>.inr ⟨0,i,d⟩;refine Zi6 (R w (λb=>h.F b\/∃t i,h.bl t i=J b) vs (λb d=> ?_) Z0 λi x N=> ?_) λe w' Z=> ?_;obtain d|⟨t,i,d⟩:=d;exact a.bm b d;exact(a.aq t i b d).2.1;grind;obtain⟨v,rfl,g,L⟩:=Z;have p:=g.size;have X:=λb d=>g.block b<|a.bm b d;have W:=λt i b d=>g.block b (a.aq t i b d).2.1;have K:O.size=I cs:=by
  have:=o.1;simp at this;omega
 refine⟨v,r,[.agg cs],h,rfl,g.mono a.base,λb d=>g.block b<|a.cp b d,⟨ZfB a.base p,λb d=>Zfb (a.bm b d) p,a.cr,a.fa,λt i b d=> ?_,a.inj,λb d=>Zfb (a.cp b d) p,a.ci,a.fb⟩,rfl,L.gg G,⟨rfl,λi k y H a0 A=> ?_⟩,rfl⟩;let⟨q1,q2,q3⟩:=a.aq t i b d;grind;cases i with
 |zero=>
  simp at H A;subst H;subst A;refine⟨.mem _,by rw[Wl,if_pos l],b,O,T,q,M,?_,o.keep X Z1 Z1 λi b d=>W 0 _ b d⟩;grind
 |succ i=>simp at H
end Vm
namespace Vm
open Go Go.Proofs
def Ss:List FuncId:=[103,104,105,106,107,108,109,110]
def Ar(f:FuncId):V:=.agg [.fn f]
def Z7l:VC Sol.prog 82 xw []<|.sl<|Ss.map Ar:=by
 refine ZW Sol.func82 follows Z2 c82 rfl ?_;simp[ML,Ss,Ar]
def Sr(f:FuncId)(s:Ck):Bool×Ck:=
 if f=103 then(SM s,s)else if f=104 then(Qo s,s)else if f=105 then XW s
 else if f=106 then(RQ s,s)else if f=107 then(Qr s,s)else if f=108 then(Qu s,s)else if f=109 then(Q9 s,s)else(Qp s,s)
structure Ck.okk (s:Ck):Prop where
 ok:s.ok
 lm:∀x∈s.lm,YJ x.2.1 x.2.2=xk
def Ck.lz(s:Ck)k l(a:1<=k/\k<=4)j:(s.put k l).du j=if j=k\/(k=4/\¬(j=1\/j=2\/j=3))then l else s.du j:=by
 have:k=1\/k=2\/k=3\/k=4:=Z0;obtain rfl|rfl|rfl|rfl:=this<;>simp[Ck.put,Ck.du]<;>(split<;>simp_all)<;>(grind)<;>(grind)
def Z4U{s}(d:s.okk){k}(g:1<=k/\k<=4):(XN s k (Xm s k).1).okk:=by
 have st:=LY d.ok.h (k:=k);have l:=(XG d.ok.h k).2;have a:∀j,(XN s k (Xm s k).1).du j=((s.put k (Xm s k).1).du j):=λj=>rfl;refine⟨⟨by rw[Qf];exact d.ok.h,λj o f=> ?_,λj=> ?_⟩,Jl (λo f=>(st.1 o f).1.2) d.lm⟩;rw[Qf];rw[a,Ck.lz _ _ _ g]at f;split at f;rename_i h;have:Zx s.h j=Zx s.h k:=by
  obtain rfl|⟨rfl,h⟩:=h;rfl;simp_all[not_or,Zx]
 simp_all;exact d.ok.ob j o f;rw[a,Ck.lz _ _ _ g];split;omega;exact d.ok.len j
def Pb:∀ {l} {s:Ck},(∀k∈l,1<=k/\k<=4)->s.okk->(V0 l s).2.okk/\(V0 l s).2.h=s.h
 | [],s,_,a=>⟨a,rfl⟩
 |k::l,s,d,a=>by
  rw[V0];split;simp_all[Pb,Z4U,Qf];simp_all
def Z9e{s}(a:s.okk):(XW s).2.okk/\(XW s).2.h=s.h:=Pb Z1 a
def Z7j{s}(a:s.okk){f}:(Sr f s).2.okk/\(Sr f s).2.h=s.h:=by
 unfold Sr;repeat' split
 all_goals first|exact⟨a,rfl⟩|exact Z9e a
def Z7k(j:QH)(d:QI){s}(a:s.okk){f}(g:f∈Ss):Vl Sol.prog f [.mem zE] [.agg<|ZV s]<|.an [.bool (Sr f s).1,.agg<|ZV (Sr f s).2]:=by
 have go:∀ {f b},VC Sol.prog f xw [Xd s] _->Vl Sol.prog f [.mem zE] [.agg _] (.an [.bool b,.agg _]):=λh=>Z95 h rfl rfl rfl rfl;simp[Ss,Zib]at g;obtain rfl|rfl|rfl|rfl|rfl|rfl|rfl|rfl:=g;exact go<|Z0E a.ok.h;exact go Z77;exact Z9g j d a.ok.h a.lm;exact go<|Z1u a.ok;exact go<|Z81 a.ok;exact go<|Z90 a.ok;exact go<|Z3W a.ok;exact go<|Z7e a.ok
def yD:List FuncId->Ck->Option Ck
 | [],s=>J s
 |f::l,s=>if(Sr f s).1=xk then yD l (Sr f s).2 else U
def Xv(h:Hp):Ck:= {h:=h,o1:=[],o2:=[],o3:=[],o4:=[],pm:=[],lm:=[]}
def UY(h:Hp):Option Ck:=yD Ss<|Xv h
def Z3E{h}(a:h.ok):(Xv h).okk:=by
 have f:∀k,(Xv h).du k=[]:=λk=>by simp[Xv,Ck.du]
 refine⟨⟨a,λk o g=> ?_,λk=> ?_⟩,λx d=>(by simp[Xv]at d)⟩;simp_all;simp_all
def I2(r:QH)(k:QI){h}(u:h.ok):VC Sol.prog 51 xw [ZK h]<|.an [match UY h with|some s=>Xd s|none=>.lx 0,.bool (UY h).isSome]:=by
 refine ZW Sol.func51 follows Z2 c51 rfl ?_;have k1:=E9 (h:=h);have B:=Z7l;have a:I Ss=8:=rfl;unfold ZK at k1;simp[Mz];refine Zy k1 Z1 ?_;simp;refine Zy B Z1 ?_;simp;refine SE (λ(p:Nat×Ck)=>[(5,.m<|ZV p.2),(6,.v<|vi p.1)]) (λp=>p.1<=8/\p.2.okk/\UY h=yD (Ss.drop p.1) p.2) (Xe 6 8) (0,Xv h) ZeX ⟨Z1,Z3E u,rfl⟩ ?_;rintro⟨i,q⟩ ⟨w,l,g⟩;simp only at w l g;have z:=Zz (i+1) Z0 Z0;by_cases d:i<I Ss;have A:=Zf4 d;have t:=Zg7 d;have x:=Zfq d;generalize Ss[i]=f at*;rw[t,yD]at g;have o:=Z7k r k l x;have y:=(Z7j l (f:=f)).1;rw[a]at d;have j:(i:Int)<8:=Z0;simp[X7,d,j,Wm A,a,Ar,ZV];unfold ZV at o;refine VW o ?_;cases n:(Sr f q).1;rw[if_neg (by simp[n])]at g;simp[g];rw[if_pos n]at g;simp;exact⟨i+1,(Sr f q).2,Ze7,Ze8,ZeW⟩;have:i=8:=Z0;subst this;replace g:UY h=J q:=g;simp[a,g,ZV,Xd]
def PI(d:QH)(a:QI){h}(f:h.ok):VC Sol.prog 25 xw [ZK h]<|.bool (UY h).isSome:=by
 refine ZW Sol.func25 follows Z2 c25 rfl ?_;simp[Mm];refine Zy (I2 d a f) Z1 ?_;simp
def L8(h:Hp)(k:Int):List Ob×Int:=match UY h with
 |some s=>if 1<=k/\k<=4 then(s.du k,0)else([],1)
 |none=>([],1)
def PG(l:QH)(f:QI){h}(n:h.ok){k}:VC Sol.prog 27 xw [ZK h,vi k]<|.an [.sl<|(L8 h k).1.map ZQ,vi (L8 h k).2]:=by
 refine ZW Sol.func27 follows Z2 c27 rfl ?_;simp[Mn];refine Zy (I2 l f n) Z1 ?_;unfold L8;cases o:UY h with
 |none=>simp
 |some s=>
  by_cases g:1<=k;by_cases j:k<=4;have:k=1\/k=2\/k=3\/k=4:=Z0;obtain rfl|rfl|rfl|rfl:=this<;>simp[Y9,jr,LX,Qv,Qw,Ck.du];have a:¬k<1:=Z0;have d:4<k:=Z0;simp[g,j,a,d];have a:k<1:=Z0;simp[g,a]
end Vm
end
section
namespace Vm
open Go Go.Proofs
structure Stands (ws:List Int) (old:Bool) (o:Ob):Prop where
 iy:0<=o.Y
 shape:YJ o.size o.M=xk
 aw:o.Y+1+o.size<=I ws
 gd:XJ ((ws.drop<|o.Y.toNat+1).take o.size.toNat) o.gone o.M 0=xk
 word:∃w,ws[o.Y.toNat]?=J w/\(if o.gone then old=xk/\(adr w).2=0/\o.target=(adr w).1 else(old=xk->¬(adr w).2=0)/\ZR w=(o.size,o.M,0)/\o.target=0)
def Tiles(ws:List Int)(old:Bool):Nat->List Ob->Prop
 |a,[]=>I ws<=a
 |a,o::l=>o.Y=a/\Stands ws old o/\Tiles ws old (a+1+o.size.toNat) l
def Z4Z{ws shs old a g t w o}(k:ws[a]?=J w)(f:Wf shs old a g w=J (o,t))(h:¬(I ws:Int)<a+1+o.size)
  (j:¬XJ ((ws.drop<|a+1).take o.size.toNat) o.gone o.M 0=xw):o.Y=a/\Stands ws old o:=by
 have d:=yX f;refine⟨d.2,?_,d.1,?_,?_,w,?_,?_⟩;omega;omega;simp_all;simp_all;unfold Wf at f;grind
def P9{ws shs old}:∀f a j d l,Xl ws shs old f a j d=(l,0)->∃r,l=d++r/\Tiles ws old a r
 |0,_,_,_,_,h=>by simp[Xl]at h
 |f+1,a,j,d,l,h=>by
  unfold Xl at h;split at h;rename_i p;split at h;grind;simp[and_true]at h;subst h;exact⟨[],Z1,Zhi.1 p⟩;rename_i w x;split at h;grind;rename_i o t q;split at h;grind;rename_i k;split at h;grind;rename_i n;obtain⟨r,rfl,u⟩:=P9 f _ _ _ _ h;have g:=Z4Z x q k n;exact⟨o::r,Z1,g.1,g.2,u⟩
def SB{ws shs old l}(h:ZO ws shs old=(l,0)):Tiles ws old 0 l:=by
 let⟨r,a,d⟩:=P9 _ _ _ _ _ h;simp_all
def Tiles.ba{ws old}:∀ {a} {l:List Ob},Tiles ws old a l->∀o∈l,Stands ws old o/\a<=o.Y
 |_,[],_,_,h=>ZeK
 |a,o::l,h,x,d=>by
  obtain rfl|d:=Zfz.1 d;exact⟨h.2.1,by rw[h.1];omega⟩;have:=Tiles.ba h.2.2 x d;grind
def Tiles.apart{ws old}:∀ {a} {l:List Ob},Tiles ws old a l->∀o∈l,∀q∈l,o=q\/o.Y+1+o.size<=q.Y\/q.Y+1+q.size<=o.Y
 |_,[],_,_,h,_,_=>ZeK
 |a,x::l,h,o,f,q,d=>by
  have e:=h.1;obtain rfl|f:=Zfz.1 f;obtain rfl|d:=Zfz.1 d;simp;have:=(Tiles.ba h.2.2 q d).2;omega;obtain d|d:=Zfz.1 d;have:=(Tiles.ba h.2.2 o f).2;grind;exact Tiles.apart h.2.2 o f q d
structure RightH (h:Hp) (p:Pts):Prop where
 gw:Xp h=J p
 num:Ty h=xk
 ok:So h p=xk
 H:Tiles h.H xw 0 p.H
 ac:Tiles h.ac xw 0 p.ac
 ah:Tiles h.ah xk 0 p.ah
 aj:Tiles h.aj xk 0 p.aj
def Z78{h}(k:YI h=xk):∃p,RightH h p:=by
 let⟨p,a,g,j⟩:=Z7b k;refine⟨p,a,j,g,?_,?_,?_,?_⟩;all_goals
  unfold Xp at a;dsimp only at a;split at a;cases a;split at a;cases a;rename_i c2;cases a;have c3:(ZO h.H [] xw).2=0/\(ZO h.ac [] xw).2=0:=by
   refine⟨Z0,Z0⟩
  have c4:∀x:Int,¬x≠0->x=0:=Z0;have f:=c4 _ (λd=>c2<|.inr<|.inr<|.inr d);first|exact SB (ZhF rfl c3.1)|exact SB (ZhF rfl c3.2)|exact SB (ZhF rfl<|c4 _ (λd=>c2<|.inr<|.inr<|.inl d))|exact SB<|ZhF rfl f
def RightH.ak{h p}(r:RightH h p){k}(a:1<=k/\k<=4):Tiles (Zx h k) (decide (2<k)) 0<|p.at k:=by
 have:k=1\/k=2\/k=3\/k=4:=Z0;obtain rfl|rfl|rfl|rfl:=this;exact r.H;exact r.ac;exact r.ah;exact r.aj
def RightH.bf{h p}(r:RightH h p):ZI (Zu h)=xk:=by
 have:=r.num;simp_all[Ty,Zf6]
def ZM(l:Ly)(k a:Int):Int:=2*(fstL l k+a)+1
theorem Ud{l}(d:ZI l=xk){k a}(f:0<=a):adr (ZM l k a)=(fstL l k+a,0):=by
 have:=WQ d k;unfold adr ZM;grind
theorem RH{l}(g:ZI l=xk){k a}(f:1<=k/\k<=4)(d:0<=a/\a<YP l k):Y5 l k a=(fstL l k+a,0):=by
 simp_all[Y5,if_neg]
theorem QW{l}(g:ZI l=xk){k a}(j:1<=k/\k<=4)(d:0<=a/\a<YP l k):Yg l (fstL l k+a)=(k,a,0):=by
 have h:=Ww.1 g;have n:=jn g;unfold Yg X2;have f:k=1\/k=2\/k=3\/k=4:=Z0;obtain rfl|rfl|rfl|rfl:=f;grind;simp[fstL,YP]at d⊢;grind;simp[fstL,YP]at d⊢;grind;simp[fstL,YP]at d⊢;grind
end Vm
namespace Vm
open Go Go.Proofs
def Gk{g}(a:ZI (Zu g)=xk):fwd g 0=(0,g,0):=by simp[fwd,a]
def qH{l}(f:ZI l=xk){k a}(d:0<=a):¬ZM l k a=0:=by
 grind [ZM]
def fwd_here{g}(h:ZI (Zu g)=xk){k a:Int}(f:1<=k/\k<=2)(d:0<=a/\a< I (Zx g k)):fwd g (ZM (Zu g) k a)=(ZM (Zu g) k a,g,0):=by
 grind [Ud,QW,Td,fwd]
def fwd_gone{g}(d:ZI (Zu g)=xk){k}{a:Nat}(p:3<=k/\k<=4){u}(o:(Zx g k)[a]?=J u)(f:(adr u).2=0):fwd g (ZM (Zu g) k a)=(u,g,0):=by
 have q:a< I (Zx g k):=Ze7;have h:=qH d (k:=k) (a:=a) Z0;have j:=Ud d (k:=k) (a:=a) Z0;have l:=QW d (k:=k) (a:=a) Z0 (by rw[Td Z0];omega);have n:(Zx g k).getD a 0=u:=by simp[o]
 unfold fwd;simp[-List.getD_eq_getElem?_getD,d,h,j,l,show ¬k<3 by omega,n,f]
def Yi(g:Hp)(k:Int)(a n:Nat):Hp:=Xj (Xo g k a n) k<|(zr (Zx g k) a n).set a<|ZM (Zu g) 1<|I g.H
def Jh{g k a n}(d:a+n<=I (Zx g k)):Zu (Xo g k a n)= {Zu g with H:=(I g.H+n:Nat)}:=by
 simp_all[Zu,Xo,Ly.mk.injEq,true_and,and_true]
theorem Ih{g}(f:ZI (Zu g)=xk){k a n}(d:a+n<=I (Zx g k))(j:n<=XQ (Zu g)):ZI (Zu<|Xo g k a n)=xk:=by
 rw[Jh d];have e:XQ (Zu g)=(Zu g).cap- (Zu g).H- (Zu g).ac:=by unfold XQ;rw[f];rfl
 have h:(Zu g).H=I g.H:=rfl;grind [Ww]
def By{g k}(f:3<=k/\k<=4){a n}(d:a+n<=I (Zx g k)):Zu (Yi g k a n)= {Zu g with H:=(I g.H+n:Nat)}:=by
 rw[<-Jh d];apply DM;rw[Zh5,ju];have:k=3\/k=4:=Z0;obtain rfl|rfl:=this<;>rfl
def Z4A{g}(j:ZI (Zu g)=xk){k}(f:3<=k/\k<=4){a n}(d:a+n<=I (Zx g k))(h:n<=XQ (Zu g)):ZI (Zu<|Yi g k a n)=xk:=by
 rw[By f d,<-Jh d];grind [Ih]
def Z6S{g k}(d:3<=k/\k<=4){a n}(f:a+n<=I (Zx g k))j b:ZM (Zu<|Yi g k a n) j b=ZM (Zu g) j b:=by
 rw[By d f];rfl
def fwd_wait{g}(h:ZI (Zu g)=xk){k a}(C:3<=k/\k<=4){u}(B:(Zx g k)[a]?=J u)(q:¬(adr u).2=0){n:Nat}{pt}(p:ZR u=((n:Int),pt,0))
  (j:a+(n+1)<=I (Zx g k)) (A:((n+1:Nat):Int)<=XQ (Zu g)):fwd g (ZM (Zu g) k a)=(ZM (Zu g) 1<|I g.H,Yi g k a<|n+1,0):=by
 have r:=qH h (k:=k) (a:=a) Z0;have t:=Ud h (k:=k) (a:=a) Z0;have w:=QW h (k:=k) (a:=a) Z0 (by grind [Td]);have x:(Zx g k).getD a 0=u:=by simp[List.getD,B]
 have f:=Ih h j A;have y:Y5 (Zu<|Xo g k a<|n+1) 1 (I g.H)=(fstL (Zu g) 1+I g.H,0):=by
  have:=RH f (k:=1) (a:=(I g.H:Int)) Z0 (by rw[Jh j];simp[YP,Zg1];omega);rw[this,Jh j];rfl
 have d:=WQ f 1;rw[Jh j]at d;simp only[YP,Zg1]at d;have l:fstL {Zu g with H:=(I g.H+(n+1):Nat)} 1=fstL (Zu g) 1:=rfl;rw[l]at d;have z:XH (fstL (Zu g) 1+I g.H)=(ZM (Zu g) 1<|I g.H,0):=by
  unfold XH ZM;rw[if_neg Z0]
 unfold fwd;have o:¬k<3:=Z0;simp only[h,r,t,w,if_neg o,ZhR,Zg3,ne_eq,ZiP,Zfh,x,q,p];unfold R2;rw[if_neg Z0,if_neg Z0];simp[y,z];rfl
theorem DX{ws a}:∀n j,j<a\/a+n<=j->(zr ws a n)[j]?=ws[j]?
 |0,_,_=>rfl
 |n+1,j,h=>by
  unfold zr;rw[Zg6 Z0];exact DX n j Z0
def BA{g k}(o:3<=k/\k<=4){a n}(p:0<n){j}(l:3<=j/\j<=4){b}(h:j≠k\/b<a\/a+n<=b):(Zx (Yi g k a n) j)[b]?=(Zx g j)[b]? :=by
 have f:k=3\/k=4:=Z0;have d:j=3\/j=4:=Z0;obtain rfl|rfl:=f<;>obtain rfl|rfl:=d<;>simp[Yi,Xo,Li]
 grind [DX];grind [DX]
def Bz{g k}(l:3<=k/\k<=4){a n j}(h:3<=j/\j<=4):I (Zx (Yi g k a n) j)=I (Zx g j):=by
 have f:k=3\/k=4:=Z0;have d:j=3\/j=4:=Z0;obtain rfl|rfl:=f<;>obtain rfl|rfl:=d<;>simp[Yi,Xo]
def Z4z{g k}(h:3<=k/\k<=4){a n}(f:a+n<=I (Zx g k)):(Yi g k a n).H.length=I g.H+n/\(Yi g k a n).ac=g.ac:=by
 have d:k=3\/k=4:=Z0;obtain rfl|rfl:=d<;>simp[Li]at f<;>simp[Yi,Xo]<;>omega
end Vm
namespace Vm
open Go Go.Proofs
def Da{h ws low}:∀f i d l,V9 h ws low f i d=J l->∃r,l=d++r
 |0,_,_,_,a=>by simp[V9]at a
 |f+1,i,d,l,a=>by
  unfold V9 at a;split at a;cases a;exact⟨[],Z1⟩;split at a;split at a;cases a;let⟨r,g⟩:=Da f _ _ _ a;exact⟨_,by rw[g,ZfM]⟩;split at a;exact Da f _ _ _ a;cases a
def jc{h ws low}:∀f i d k,V9 h ws low f i d=J k->∀p g l,Xl ws k xk p i (I d) g=(l,0)->
  ∃r,l=g++r/\∀o∈r,o.gone=xk->∃q,Yz h 1 low o.target=J q/\q.size=o.size/\q.M=o.M
 |0,_,_,_,j=>by simp[V9]at j
 |f+1,i,d,k,j=>by
  intro p g l a;cases p with
  |zero=>simp[Xl]at a
  |succ p=>
   unfold V9 at j;unfold Xl at a;cases x:ws[i]? with
   |none=>
    simp_all
   |some w=>
    simp[x]at j a;by_cases t:(adr w).2=0;simp[t,Zg1]at j;cases B:Yz h 1 low (adr w).1 with
    |none=>simp_all
    |some q=>
     simp[B]at j;let⟨r,C⟩:=Da _ _ _ _ j;have D:k[I d]?=J (q.size,q.M):=by rw[C];simp
     unfold Wf at a;rw[if_pos ⟨rfl,t⟩]at a;simp[D]at a;by_cases u:YJ q.size q.M=xk;rw[if_pos u]at a;simp only at a;split at a;simp at a;split at a;simp at a;have n:I d+1=I (d++[(q.size,q.M)]):=Z1;rw[n]at a;let⟨F,z,A⟩:=jc f _ _ _ j _ _ _ a;grind;simp_all
    simp[t,Zg3]at j;by_cases y:(ZR w).2.2=0;simp[y,Zg1]at j;unfold Wf at a;rw[if_neg Z0,if_pos y]at a;simp only at a;split at a;simp at a;split at a;simp at a;let⟨F,z,A⟩:=jc f _ _ _ j _ _ _ a;simp_all;simp_all
def RightH.nw{h p}(r:RightH h p){k}(D:3<=k/\k<=4){o}(d:o∈p.at k)(A:o.gone=xk):∃q∈p.H,YW h 1 q.Y=o.target/\q.size=o.size/\q.M=o.M:=by
 have a:=r.gw;unfold Xp at a;dsimp only at a;split at a;cases a;split at a;cases a
 have f:∀g x,x=Vy h g (ZO h.H [] xw).1->¬x=U->(ZO g (x.getD []) xk).2=0->o∈(ZO g (x.getD []) xk).1->
   ∃q∈(ZO h.H [] xw).1,YW h 1 q.Y=o.target/\q.size=o.size/\q.M=o.M:=by
  intro g x C F n d;obtain _|j:=x;simp_all;simp[Zfw]at n d;let⟨H,l,t⟩:=jc _ _ _ _ C.symm _ [] (ZO g j xk).1<|ZhF rfl n;simp[ZfU]at l;rw[l]at d;let⟨q,B,G⟩:=t o d A;have:=Zit B;grind [EU]
 have u:¬Vy h h.ah (ZO h.H [] xw).1=U:=Ze8;have w:¬Vy h h.aj (ZO h.H [] xw).1=U:=Ze8;have y:(ZO h.ah ((Vy h h.ah (ZO h.H [] xw).1).getD []) xk).2=0:=Z0;have z:(ZO h.aj ((Vy h h.aj (ZO h.H [] xw).1).getD []) xk).2=0:=Z0;cases a;have:k=3\/k=4:=Z0;obtain rfl|rfl:=this;exact f _ _ rfl u y Zek;exact f _ _ rfl w z Zek
def Pt{l o}(h:o∈l):XY o<=Y1 l:=by
 unfold Y1;induction l with
 |nil=>simp at h
 |cons x l a=>
  grind
def Z9a{p k}(a:3<=k/\k<=4){o}(h:o∈p.at k):XY o<=Xb p:=by
 have:k=3\/k=4:=Z0;unfold Xb;obtain rfl|rfl:=this;have:=Pt (l:=p.ah) h;omega;have:=Pt (l:=p.aj) h;omega
def Z6R{l}(d:ZI l=xk){k j a b}(o:1<=k/\k<=4)(n:1<=j/\j<=4)(f:0<=a/\a<YP l k)(g:0<=b/\b<YP l j)(h:ZM l k a=ZM l j b):k=j/\a=b:=by
 have p:=QW d o f;have q:=QW d n g;have:fstL l k+a=fstL l j+b:=by unfold ZM at h;omega
 simp_all
def Pg{u a}(d:(adr u).2=0)(h:(adr u).1=a):u=2*a+1:=by
 unfold adr at d h;grind
def Ew{u}(h:(ZR u).2.2=0):¬(adr u).2=0:=by
 unfold ZR at h;split at h;rename_i a;unfold adr;grind;grind
end Vm
namespace Vm
open Go Go.Proofs
end Vm
end
