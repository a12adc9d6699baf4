import Derived.Test.YtjkmonbmpoegjaaChecked
import Derived.Carry
import Derived.ProofKit
import Derived.OpenShut
import Derived.WalkKit
import Derived.WalkSpells
import Derived.WalkLawsBesides
import Derived.StillTailTactics
import Derived.Deep.RegionHeld3
import Derived.Deep.AppendLies
import Derived.Deep.Onto
import Derived.Deep.RegionLaw
import Derived.Deep.OwnRows
import Derived.Lib.Hide
import Derived.Lib.AppendZerosOnto
import Derived.Lib.SliceRun
import Derived.Laws.CopyOwn
import Derived.Test.YtjkmonbmpoegjaaSMutatorBarrier3
set_option linter.unusedSimpArgs false
set_option linter.unusedVariables false
set_option linter.defProp false
def Zav:=@_root_.Iff.rfl
def Zb6:=@_root_.List.range_succ
def Z9t:=@_root_.List.append_nil
def Zc3:=@_root_.Option.some.inj
def Z9e:=@_root_.Int.tmod_eq_emod_of_nonneg
def Zbv:=@_root_.Int.tdiv_eq_ediv_of_nonneg
def Zbw:=@_root_.Int.fdiv_eq_ediv_of_nonneg
def Z9H:=@_root_.List.take_add_one
def Zc4:=@_root_.Int.emod_nonneg
def ZbB:=@_root_.Int.emod_lt_of_pos
def Zc5:=@_root_.List.set_append_right
def Z9W:=@_root_.List.set_cons_zero
def Zb1:=@_root_.List.map_set
def ZbC:=@_root_.List.mem_replicate
def Zar:=@_root_.Bool.true_eq_false
def ZbS:=@_root_.List.map_toArray
def Z9O:=@_root_.List.length_eq_zero_iff
def Z8I:=@_root_.Go.RowKit.Below.heap_setCell
def Z8r:=@_root_.Go.Lib.hid
def Z9X:=@_root_.Go.RowKit.Below.setCell
def Z8K:=@_root_.Go.bodyPost_ret
def Zch:=@_root_.Nat.mul_one
def Zbh:=@_root_.Array.ext
section
namespace Vm
open Go
open Go.Proofs
def sig(f:FuncId):Option (List OT):=
 if f=112 then some [.mem [.fz,.fz,.fz,.fz,.fz,.fz,.fz,.fz,.fz,.fz,.fz,.fz,.fz,.fz,.fz,.fz,.fz,.fz,.fz,.fz,.fz,.own 80,.own 81],.fz,.fz]else
 if f=97 then some [.mem [.fz,.fz,.fz,.fz,.fz,.fz,.fz,.fz,.fz,.fz,.fz,.fz,.fz,.fz,.fz,.fz,.fz,.fz,.fz,.fz,.fz,.own 80,.own 81]]else
 if f=1000076 then some [.mem [.fz,.fz,.fz,.fz,.fz,.fz,.fz,.fz,.fz,.fz,.fz,.fz,.fz,.fz,.fz,.fz,.fz,.fz,.fz,.fz,.fz,.own 80,.own 81]]else
 none
@[simp] def pI(n:Int):E:= .c (.int .i64 n)
@[simp] def pU(n:Int):E:= .c (.int .u64 n)
@[simp] def pF:E:= .c (.bool false)
@[simp] def pT:E:= .c (.bool true)
@[simp] def pN:E:= .c (.sl [])
@[simp] def pG(e:E):Nat→Nat→List E
 |_,0=> []
 |i,n+1=> .fld e i::pG e (i+1) n
@[simp] def pS(a n:Nat):OV:= .m (pG (.sz (.s a) n) 0 n)
@[simp] def pM(e:E)(n:Nat):OV:= .m (pG e 0 n)
@[simp] def pY:E:= .ag [pU 0,pI 0,pI 0,pF,pI 0,pN,pN,pN,pN,pN]
@[simp] def pZ:OV:= .m [pU 0,pI 0,pI 0,pF,pI 0,pN,pN,pN,pN,pN]
@[simp] def pR(l:List (Nat×OV)):Stm:= .reg ⟨[],[],l⟩
@[simp] def pC(e:List EF)(l:List (Nat×OV)):Stm:= .reg ⟨e,[],l⟩
@[simp] def pV(t:Nat)(e:E):Nat×OV:=(t,.v e)
@[simp] def pK(t f:Nat)(l:List E):EF:= .call t [] (.id f) false false l
@[simp] def pQ:List Stm→Stm→Stm
 | [],z=>z
 |a::l,z=> .seq a (pQ l z)
def fresh(f:FuncId):Bool:=f==108||f==110
theorem follows:Try.prog.follows .mixedOrders=true:=by kernel_rfl
end Vm
end
section
namespace Vm
open Go
open Go.Proofs
def Z1m(x:Option V)(A B:Prop):Prop:=
 match x with
 |some (.bool true)=>A
 |some (.bool false)=>B
 |_=>False
@[simp] theorem Z3W(b:Bool)(A B:Prop):Z1m (some (.bool b)) A B↔if b=true then A else B:=by cases b<;>simp[Z1m]
def onO{α:Type}(x:Option α)(K:α→Prop):Prop:=
 match x with
 |some x=>K x
 |none=>False
@[simp] theorem Z6A{α:Type}(x:α)(K:α→Prop):onO (some x) K↔K x:=Zav
@[simp] theorem Z6x{α:Type}(K:α→Prop):onO none K↔False:=Zav
@[simp] theorem Z7b{α β:Type}(f:α→β)(x:Option α)(K:β→Prop):onO (x.map f) K↔onO x (fun y=>K (f y)):=by cases x<;>rfl
@[simp] theorem Z6l{α β:Type}(f:α→Option β)(x:Option α)(K:β→Prop):onO (x.bind f) K↔onO x (fun y=>onO (f y) K):=by cases x<;>rfl
@[simp] theorem Z76{α:Type}(p:Prop) [Decidable p](x y:Option α)(K:α→Prop):onO (if p then x else y) K↔if p then onO x K else onO y K:=by split<;>rfl
def Kh(P:Program)(f:FuncId)(fr fl:Bool)(xs:List V)(K:V→Prop):Prop:= ∃r,VC P f fr xs r∧(fl=true→flV r=some r)∧K r
theorem Z0{P:Program}{f:FuncId}{fr fl:Bool}{xs:List V}{K:V→Prop}{r:V}(h:VC P f fr xs r)(hf:fl=true→flV r=some r)(hK:K r):Kh P f fr fl xs K:=⟨r,h,hf,hK⟩
def zD(P:Program)(f:FuncId)(ks:List OT)(xs:List V)(K:V→Prop):Prop:= ∃R,VCM P f ks xs R∧K R
theorem WV{P:Program}{f:FuncId}{ks:List OT}{xs:List V}{K:V→Prop}{R:V}(h:VCM P f ks xs R)(hK:K R):zD P f ks xs K:=⟨R,h,hK⟩
def kS(P:Program)(b:Stm)(N:St→Prop)(X:Nat→St→Prop)(R:St→Prop)(s:St):Prop:=wpS P b s N X R
def xB(id:Nat)(N:St→Prop)(X:Nat→St→Prop)(i:Nat)(s:St):Prop:=if i=id then N s else X i s
def kR(chks:List (Zg×E))(outs:List (Nat×OV))(K:St→Prop)(t:St):Prop:=wpC t chks∧wpO outs t t K
def kO(l:List (Nat×OV))(t u:St)(i:Nat)(K:St→Prop)(x:SV):Prop:=wpO l t (putS u i x) K
def kL(P:Program)(l:List EF)(s:St)(i:Nat)(K:St→Prop)(x:V):Prop:=wpE P l (putS s i (.v x)) K
def kA(P:Program)(f:FuncId)(fr fl:Bool)(K:V→Prop)(xs:List V):Prop:=Kh P f fr fl xs K
def kAE(P:Program)(fr fl:Bool)(K:V→Prop)(xs:List V)(v:V):Prop:=onO (cloV v) fun n=>Kh P n.1 fr fl (xs++n.2) K
def kAF(P:Program)(x:Option V)(fr fl:Bool)(K:V→Prop)(xs:List V):Prop:=onO x (kAE P fr fl K xs)
def kAM(P:Program)(f:Option FuncId)(ks:List OT)(K:V→Prop)(xs:List V):Prop:=onO f fun n=>zD P n ks xs K
def kW(P:Program)(l:List EF)(s:St)(i:Nat)(K:St→Prop)(os:List V):Prop:=if os= []then wpE P l s K else wpE P l (putS s i (.v (.tup (.bool false::os)))) K
def kT(_:V):Prop:=True
section
variable {P:Program} {N R:St→Prop} {X:Nat→St→Prop} {K:St→Prop} {s t u:St}
@[simp] theorem Z85(b:Stm):kS P b N X R s↔wpS P b s N X R:=Zav
@[simp] theorem Z7f(id:Nat):xB id N X id s↔N s:=by simp[xB]
theorem Vq(id i:Nat):xB id N X i s↔if i=id then N s else X i s:=Zav
@[simp] theorem Z8c{id i:Nat}(h:i≠id):xB id N X i s↔X i s:=by simp[xB,h]
@[simp] theorem Z8k(chks:List (Zg×E))(outs:List (Nat×OV)):kR chks outs K t↔wpC t chks∧wpO outs t t K:=Zav
@[simp] theorem Z8i(l:List (Nat×OV))(i:Nat)(x:SV):kO l t u i K x↔wpO l t (putS u i x) K:=Zav
@[simp] theorem Z8f(l:List EF)(i:Nat)(x:V):kL P l s i K x↔wpE P l (putS s i (.v x)) K:=Zav
@[simp] theorem Z8g(f:FuncId)(fr fl:Bool)(K:V→Prop)(xs:List V):kA P f fr fl K xs↔Kh P f fr fl xs K:=Zav
@[simp] theorem Z6H(v:V)(fr fl:Bool)(K:V→Prop)(xs:List V):kAF P (some v) fr fl K xs↔kAE P fr fl K xs v:=Zav
@[simp] theorem Z7Z(f:FuncId)(fr fl:Bool)(K:V→Prop)(xs:List V):kAE P fr fl K xs (.fn f)↔Kh P f fr fl xs K:=by simp[kAE,cloV]
@[simp] theorem Z7g(f:FuncId)(cs:List V)(fr fl:Bool)(K:V→Prop)(xs:List V):kAE P fr fl K xs (.clo f cs)↔Kh P f fr fl (xs++cs) K:=by simp[kAE,cloV]
@[simp] theorem Z6L(f:FuncId)(ks:List OT)(K:V→Prop)(xs:List V):kAM P (some f) ks K xs↔zD P f ks xs K:=Zav
@[simp] theorem Z82(l:List EF)(i:Nat):kW P l s i K []↔wpE P l s K:=by simp[kW]
@[simp] theorem Z72(l:List EF)(i:Nat)(x:V)(os:List V):kW P l s i K (x::os)↔wpE P l (putS s i (.v (.tup (.bool false::x::os)))) K:=by simp[kW]
@[simp] theorem Z8j(x:V):kT x↔True:=Zav
@[simp] theorem Z6N(r:Reg):wpS P (.reg r) s N X R↔wpR P r s N:=Zav
@[simp] theorem Z6k:wpS P .skip s N X R↔N s:=Zav
@[simp] theorem Z7K(a b:Stm):wpS P (.seq a b) s N X R↔wpS P a s (kS P b N X R) X R:=Zav
@[simp] theorem Z6o(c:E)(a b:Stm):wpS P (.cond c a b) s N X R↔Z1m (eval s c) (wpS P a s N X R) (wpS P b s N X R):=by
 simp only[wpS,Z1m];generalize eval s c=x;cases x with
 |none=>rfl
 |some v=>cases v<;>first|rfl| (rename_i q;cases q<;>rfl)
@[simp] theorem Z5R(id:Nat)(a:Stm):wpS P (.block id a) s N X R↔wpS P a s N (xB id N X) R:=Zav
@[simp] theorem Z67(id:Nat):wpS P (.exit id) s N X R↔X id s:=Zav
@[simp] theorem Z7J:wpS P .ret s N X R↔R s:=Zav
theorem QQ{keep:List Nat}{a:Stm}(I:St→Prop)(μ:St→Nat)(h0:I (Ys keep s))(h1: ∀s,I s→wpS P a s (fun s'=>I (Ys keep s')∧μ (Ys keep s') <μ s) X R):wpS P (.loop keep a) s N X R:=⟨I,μ,h0,h1⟩
@[simp] theorem Z7O(efs:List EF)(chks:List (Zg×E))(outs:List (Nat×OV)):wpR P ⟨efs,chks,outs⟩ s K↔wpE P efs s (kR chks outs K):=Zav
@[simp] theorem Z6Y:wpO [] t u K↔K u:=Zav
@[simp] theorem Z6v(i:Nat)(o:OV)(l:List (Nat×OV)):wpO ((i,o)::l) t u K↔onO (ovV t o) (kO l t u i K):=by
 simp only[wpO,onO,kO];cases ovV t o<;>rfl
@[simp] theorem Z7x:wpC t []↔True:=Zav
@[simp] theorem Z6q(C:Zg)(e:E)(l:List (Zg×E)):wpC t ((C,e)::l)↔(Wd t C=true→onO (eval t e) kT)∧wpC t l:=by
 simp only[wpC,onO,kT];cases eval t e<;>simp
@[simp] theorem Z73:wpE P [] s K↔K s:=Zav
@[simp] theorem Z7V(i:Nat)(C:Zg)(e:E)(l:List EF):wpE P (.lt i C e::l) s K↔if Wd s C=true then onO (eval s e) (kL P l s i K)else wpE P l s K:=by
 simp only[wpE,onO,kL];cases eval s e<;>rfl
@[simp] theorem Z6n(i:Nat)(C:Zg)(f:FuncId)(fr fl:Bool)(es:List E)(l:List EF):wpE P (.call i C (.id f) fr fl es::l) s K↔if Wd s C=true then onO (Y0 s es) (kA P f fr fl (kL P l s i K))else wpE P l s K:=by
 simp only[wpE,onO,kA,Kh,kL,fnV];cases Y0 s es<;>simp
@[simp] theorem Z5F(i:Nat)(C:Zg)(x:E)(fr fl:Bool)(es:List E)(l:List EF):wpE P (.call i C (.e x) fr fl es::l) s K↔if Wd s C=true then onO (Y0 s es) (kAF P (eval s x) fr fl (kL P l s i K))else wpE P l s K:=by
 simp only[wpE,onO,kAF,kAE,Kh,kL,fnV];cases Y0 s es with
 |none=>simp
 |some xs=>
  cases eval s x with
  |none=>simp
  |some v=>cases hv:cloV v<;>simp[hv]
@[simp] theorem Z3Z(i:Nat)(C:Zg)(f:FN)(ks:List OT)(es:List E)(l:List EF):wpE P (.callm i C f ks es::l) s K↔
  if Wd s C=true then onO (Y0 s es) (kAM P (fnOf s f) ks (kL P l s i K))
  else onO (oldV s ks es) (kW P l s i K):=by
 simp only[wpE,onO,zD,kAM,kL,kW];split
 ·cases Y0 s es<;>cases fnOf s f<;>simp
 ·cases oldV s ks es with
  |none=>simp
  |some os=>cases os<;>simp
@[simp] theorem Z8b(e:E):ovV t (.v e)=(eval t e).map .v:=rfl
@[simp] theorem Z89(l:List E):ovV t (.m l)=(Y0 t l).map .m:=rfl
@[simp] theorem Z7X:ovV t .no=some .no:=rfl
@[simp] theorem Z3S:Wd s []=true:=rfl
theorem KQ(i:Nat)(b:Bool)(C:Zg):Wd s ((i,b)::C)=((match get s i with| .v (.bool c)=>c==b|_=>false)&&Wd s C):=rfl
end
@[simp] theorem Z6b(x:SV)(s:St):get (x::s) 0=x:=rfl
@[simp] theorem Z6t(x:SV)(s:St)(n:Nat):get (x::s) (n+1)=get s n:=by simp[get]
@[simp] theorem Z5q(x y:SV)(s:St):putS (y::s) 0 x=x::s:=rfl
@[simp] theorem Z4L(x y:SV)(s:St)(n:Nat):putS (y::s) (n+1) x=y::putS s n x:=rfl
@[simp] theorem Z2q(x:SV):putS [] 0 x= [x]:=rfl
@[simp] theorem Z1R(x:SV)(n:Nat):putS [] (n+1) x= .no::putS [] n x:=rfl
@[simp] theorem Z4y(s:St):Ys [] s= []:=rfl
@[simp] theorem Z3U(i:Nat)(l:List Nat)(s:St):Ys (i::l) s=putS (Ys l s) i (get s i):=rfl
attribute [simp] ptV eval Y0 KQ resV Lj Sz finV SI Xc qL argS Ri fnOf oldV
section
variable {k:IntKind} {a b:Int} {x y:V} {l r:List V}
@[simp] theorem Z6a:binV .add (.int k a) (.int k b)=some (.int k (k.wrap (a+b))):=by simp[binV]
@[simp] theorem Z6e:binV .sub (.int k a) (.int k b)=some (.int k (k.wrap (a-b))):=by simp[binV]
@[simp] theorem Z6p:binV .mul (.int k a) (.int k b)=some (.int k (k.wrap (a*b))):=by simp[binV]
@[simp] theorem Z6s:binV .quo (.int k a) (.int k b)=if b≠0 then some (.int k (k.wrap (a.tdiv b)))else none:=by simp[binV]
@[simp] theorem Z6g:binV .rem (.int k a) (.int k b)=if b≠0 then some (.int k (a.tmod b))else none:=by simp[binV]
@[simp] theorem Z68:binV .eql (.int k a) (.int k b)=some (.bool (decide (a=b))):=by simp[binV];rfl
@[simp] theorem Z6f:binV .neq (.int k a) (.int k b)=some (.bool (!decide (a=b))):=by simp[binV];rfl
@[simp] theorem Z6z:binV .lss (.int k a) (.int k b)=some (.bool (decide (a<b))):=by simp[binV]
@[simp] theorem Z69:binV .leq (.int k a) (.int k b)=some (.bool (decide (a≤b))):=by simp[binV]
@[simp] theorem Z6i:binV .gtr (.int k a) (.int k b)=some (.bool (decide (b<a))):=by simp[binV]
@[simp] theorem Z6m:binV .geq (.int k a) (.int k b)=some (.bool (decide (b≤a))):=by simp[binV]
@[simp] theorem Z65(p q n:Bool):eqV n (.bool p) (.bool q)=some (.bool (n ^^ (p==q))):=rfl
@[simp] theorem Z7C:unV .neg (.int k a)=some (.int k (k.wrap (0-a))):=rfl
@[simp] theorem Z7d(p:Bool):unV .not (.bool p)=some (.bool !p):=rfl
@[simp] theorem Z5H(k':IntKind):qR k' (.int k a)=some (.int k' (k'.wrap a)):=rfl
@[simp] theorem Z6R:lenV (.sl l)=some (.int .i64 l.length):=rfl
@[simp] theorem Z66(id:Nat)(vs:List V):Jz (.mp id l vs)=some (.int .i64 l.length):=rfl
@[simp] theorem Z63(id:Nat)(vs:List V):Z05 (.mp id l vs)=some (.mp id [] []):=rfl
@[simp] theorem Z6I:minV (.int k a) (.int k b)=some (.int k (if b<a then b else a)):=rfl
@[simp] theorem Z6u:maxV (.int k a) (.int k b)=some (.int k (if b>a then b else a)):=rfl
@[simp] theorem Z64(i:Nat):extV (.tup l) i=l[i]? :=rfl
@[simp] theorem Z6r(i n:Nat):idxV (.sl l) (.int k (i:Int)) n=(l[i]?).bind fun z=>if z.cells.length=n then some z else none:=by simp[idxV]
@[simp] theorem Z4h:(V.int k a).cells= [V.int k a]:=rfl
@[simp] theorem Z3R(p:Bool):(V.bool p).cells= [V.bool p]:=rfl
@[simp] theorem Z4t(s:ByteArray):(V.str s).cells= [V.str s]:=rfl
@[simp] theorem Z6J:(V.sl l).cells= [V.sl l]:=rfl
@[simp] theorem Z5J:(V.agg l).cells=l:=rfl
@[simp] theorem Z6C(id:Nat):(V.mp id l r).cells= [V.mp id l r]:=rfl
@[simp] theorem Z6D(f:FuncId):(V.fn f).cells= [V.fn f]:=rfl
@[simp] theorem Z7q:(V.int k a).one=true:=rfl
@[simp] theorem Z6c(p:Bool):(V.bool p).one=true:=rfl
@[simp] theorem Z83:(V.sl l).one=true:=rfl
@[simp] theorem Z81(id:Nat):(V.mp id l r).one=true:=rfl
@[simp] theorem Z7U(f:FuncId):(V.fn f).one=true:=rfl
@[simp] theorem Z6U:(V.agg l).one=false:=rfl
@[simp] theorem Z6M:oneV (.int k a)=some (.int k a):=rfl
@[simp] theorem Z4X(p:Bool):oneV (.bool p)=some (.bool p):=rfl
@[simp] theorem Z6B(s:ByteArray):oneV (.str s)=some (.str s):=rfl
@[simp] theorem Z6V:oneV (.sl l)=some (.sl l):=rfl
@[simp] theorem Z70(id:Nat):oneV (.mp id l r)=some (.mp id l r):=rfl
@[simp] theorem Z6P(f:FuncId):oneV (.fn f)=some (.fn f):=rfl
@[simp] theorem Z6K(o:Nat):fldV (.agg l) o=(l[o]?).bind oneV:=rfl
@[simp] theorem Z6d:fldV (.int k a) 0=some (.int k a):=rfl
@[simp] theorem Z44(p:Bool):fldV (.bool p) 0=some (.bool p):=rfl
@[simp] theorem Z77:fldV (.sl l) 0=some (.sl l):=rfl
@[simp] theorem Z6E(s:ByteArray):fldV (.str s) 0=some (.str s):=rfl
@[simp] theorem Z5f(o n:Nat):SJ (.agg l) o n=if o+n≤l.length then some (.agg ((l.drop o).take n))else none:=rfl
@[simp] theorem Z7y(n:Nat):szV (.agg l) n=if l.length=n then some (.agg l)else none:=rfl
@[simp] theorem Z4e:KP (.agg l)=some (.agg l):=rfl
@[simp] theorem Z4q:Sr (.ptr l)=some (.agg l):=rfl
@[simp] theorem Z5l(p:Bool)(A B:Option V):iteV (.bool p) A B=if p=true then A else B:=by cases p<;>rfl
@[simp] theorem Z7N:agV l= .agg (flat l):=rfl
@[simp] theorem Z3N:flat (x::l)=x.cells++flat l:=rfl
@[simp] theorem Z4b:flat []= []:=rfl
@[simp] theorem Z79(n:Nat):appV n (.sl l) (.sl r)=if l.length+r.length≤lim∧Y7 n r=true then some (.sl (l++r))else none:=rfl
@[simp] theorem Z3T(n:Nat):Y7 n []=true:=rfl
@[simp] theorem Z3i(n:Nat):Y7 n (x::l)=(x.cells.length==n&&Y7 n l):=rfl
theorem Wx{α:Type}{f:α→V}{n:Nat}{l:List α}(h: ∀x,(f x).cells.length=n):Y7 n (l.map f)=true:=by
 simp[Y7,h]
@[simp] theorem WQ(l:List Int):Y7 1 (l.map (V.int k))=true:=Wx fun _=>rfl
@[simp] theorem Z7r(n:Nat):mkV x (.int k (n:Int))=if n≤lim then some (.sl (List.replicate n x))else none:=by
 simp only[mkV];have:((n:Int)≤(lim:Nat))↔n≤lim:=by omega
 simp[this]
@[simp] theorem Z18(i j n:Nat):slcV n (.sl l) (.int k (i:Int)) (.int k (j:Int))=if i≤j∧j≤l.length∧Y7 n l=true then some (.sl ((l.take j).drop i))else none:=by
 simp[slcV]
@[simp] theorem Z56(i n:Nat):qh n (.sl l) (.int k (i:Int))=if i≤l.length∧Y7 n l=true then some (.sl (l.drop i))else none:=by
 simp[qh]
@[simp] theorem Z6y(i o:Nat):updV (.sl l) (.int k (i:Int)) o y=(l[i]?).bind fun z=>if o+y.cells.length≤z.cells.length∧y.cells≠ []then some (.sl (l.set i (z.put o y.cells)))else none:=by
 simp[updV]
end
abbrev vi(n:Int):V:= .int .i64 n
abbrev vu(n:Int):V:= .int .u64 n
@[simp] theorem Z7a(n:Nat):((n:Int) <0)↔False:=⟨fun h=>absurd h (by omega),False.elim⟩
theorem Z1(n:Int)(h1: -9223372036854775808≤n)(h2:n≤9223372036854775807):IntKind.i64.wrap n=n:=by
 rw[IntKind.wrap_i64];omega
end Vm
end
section
namespace Vm
open Go Go.ChangeShapes Go.WideShapes Go.ChangeAt Go.RowKit
def K4(P:Program)(n:Nat):List Field→Nat→Bool
 | [],o=>o==n
 |f::l,o=>f.offset==o&&K4 P n l (o+P.cellsOf f.type)
def okTy(P:Program):Nat→TypeId→Bool
 |0,_=>false
 |n+1,t=>match P.underlying t with
  |some .bool|some (.int _) |some .string=>true
  |some (.slice e)=>okTy P n e&&decide (0<P.cellsOf e)
  |some (.struct fs)=>K4 P (P.cellsOf t) fs.toList 0&&fs.toList.all fun f=>okTy P n f.type
  |some (.array m e)=>okTy P n e&&m*P.cellsOf e==P.cellsOf t
  |_=>false
def tyV(P:Program):Nat→TypeId→V→Prop
 |0,_,_=>False
 |n+1,t,x=>match P.underlying t with
  |some .bool=> ∃b,x= .bool b
  |some (.int k)=> ∃m,x= .int k m∧(Lit.int k m).wf=true
  |some .string=> ∃s,x= .str s∧s.size≤maxLen
  |some (.slice e)=> ∃l,x= .sl l∧l.length≤maxLen∧ ∀y∈l,tyV P n e y
  |some (.struct fs)=> ∃ys,x= .agg (flat ys)∧ys.length=fs.toList.length∧ ∀(i:Nat) (f:Field) (y:V),fs.toList[i]? =some f→ys[i]? =some y→tyV P n f.type y
  |some (.array m e)=> ∃ys,x= .agg (flat ys)∧ys.length=m∧ ∀y∈ys,tyV P n e y
  |_=>False
def RdC(w:World)(G:Nat→Prop)(cs:List V)(vs:List Value):Prop:=
 vs.length=cs.length∧ ∀(i:Nat) (c:V),cs[i]? =some c→c.one=true∧ ∃u,vs[i]? =some u∧Rd w G c u
theorem RdC.nil{w:World}{G:Nat→Prop}:RdC w G [] []:=⟨rfl,fun i c h=>by simp at h⟩
theorem RdC.append{w:World}{G:Nat→Prop}{cs cs':List V}{vs vs':List Value}(h:RdC w G cs vs)(h':RdC w G cs' vs'):RdC w G (cs++cs') (vs++vs'):=by
 refine⟨by simp[h.1,h'.1],fun i c hi=> ?_⟩;rw[List.getElem?_append]at hi⊢;rw[h.1];split at hi
 ·rename_i hlt;rw[if_pos hlt];exact h.2 i c hi
 ·rename_i hlt;rw[if_neg hlt];exact h'.2 _ c hi
theorem RdC.one{w:World}{G:Nat→Prop}{c:V}{v:Value}(h1:c.one=true)(h:Rd w G c v):RdC w G [c] [v]:=
 ⟨rfl,fun i x hi=>by
  cases i with
  |zero=>simp at hi;subst hi;exact⟨h1,v,rfl,h⟩
  |succ i=>simp at hi⟩
theorem WG{α:Type}{Q:Nat→α→Prop}: ∀(n:Nat),(∀i,i<n→ ∃y,Q i y)→ ∃l:List α,l.length=n∧ ∀(i:Nat) (y:α),l[i]? =some y→Q i y
 |0,_=>⟨[],rfl,fun i y h=>by simp at h⟩
 |n+1,h=>by
  obtain⟨l,h1,h2⟩:=WG n fun i hi=>h i (by omega);obtain⟨y,hy⟩:=h n (by omega);refine⟨l++ [y],by simp[h1],fun i z hz=> ?_⟩;rw[List.getElem?_append]at hz;split at hz
  ·exact h2 i z hz
  ·rename_i hlt;rw[List.getElem?_singleton]at hz;split at hz
   ·rename_i he;have:i=n:=by omega
    subst this;simp only[Z8l]at hz;subst hz;exact hy
   ·cases hz
theorem UV{w:World}{b:Nat}{a:Addr}{n:Nat}{cs:List Value}(h:w.cells? b a n=some cs):cs.length=n∧ ∀i,i<n→w.cell? (a.add i)=cs[i]? :=by
 unfold World.cells? at h;split at h
 ·have h1:=mapM_some_length h;rw[Zbb]at h1;refine⟨h1,fun i hi=>mapM_some_get h i i ?_⟩;rw[Zbp hi]
 ·cases h
theorem Z3D{w:World}{a:Addr}{v:Value}(h:w.cell? a=some v):a.block<w.heap.size:=by
 unfold World.cell? at h;rcases Nat.lt_or_ge a.block w.heap.size with h1|h1
 ·exact h1
 ·have:w.heap[a.block]? =none:=by simp[h1]
  simp[this]at h
theorem QG{w:World}{G:Nat→Prop}: ∀ {ys:List V} {vss:List (List Value)},vss.length=ys.length→(∀(i:Nat) (y:V) (vs:List Value),ys[i]? =some y→vss[i]? =some vs→RdC w G y.cells vs)→RdC w G (flat ys) vss.flatten
 | [],[],_,_=>by simpa using RdC.nil
 | [],_::_,h,_=>by simp at h
 |_::_,[],h,_=>by simp at h
 |y::ys,vs::vss,h,hr=>by
  rw[X7,List.flatten_cons];exact(hr 0 y vs rfl rfl).append (QG (by simpa using h) fun i z us hz hu=>hr (i+1) z us (by simpa using hz) (by simpa using hu))
theorem yn{P:Program}{n:Nat}{cs:List Value}: ∀ {l:List Field} {o:Nat},K4 P n l o=true→o≤n∧(cs.length=n→cs.drop o=(l.map fun f=>(cs.drop f.offset).take (P.cellsOf f.type)).flatten)
 | [],o,h=>by
   simp only[K4,Z99]at h;subst h;exact⟨Z8v _,fun hc=>by simp[←hc]⟩
 |f::l,o,h=>by
  simp only[K4,Z8u,Z99]at h;obtain⟨h1,h2⟩:=h;obtain⟨h3,h4⟩:=yn (cs:=cs) h2;refine⟨by omega,fun hc=> ?_⟩;rw[Z8Q,List.flatten_cons,←h4 hc,h1,←List.drop_drop,Zaq]
theorem Z32{cs:List Value}{k:Nat}: ∀ {m:Nat},cs.length=m*k→cs=((List.range m).map fun i=>(cs.drop (i*k)).take k).flatten:=by
 have: ∀(m:Nat) (cs:List Value),cs.take (m*k)=((List.range m).map fun i=>(cs.drop (i*k)).take k).flatten:=by
  intro m
  induction m with
  |zero=>intro cs;simp
  |succ m ih=>
   intro cs;rw[Zb6,Z9Q,List.flatten_append,←ih,Z9M,List.take_add];simp
 intro m h;have h2:=this m cs;rw[Z9a (by omega)]at h2;exact h2
section
variable {H:Type} {enc:TypeId×Value→H} {P:Program} {w:World} {spare:Nat→Bool} {held:Bool}
theorem Ur: ∀ {n:Nat} {t:TypeId} {fuel:Nat} {cs:List Value} {d:DataW H×List MemPlace},okTy P n t=true→DataW.trod enc P w 0 spare held fuel t cs=some d→
  ∃x,tyV P n t x∧RdC w (fun b=>b<w.heap.size) x.cells cs
 |0,t,fuel,cs,d,hk,h=>by cases hk
 |n+1,t,fuel,cs,d,hk,h=>by
  unfold okTy at hk;unfold tyV;split at hk
  ·rename_i ht;obtain⟨b,rfl,_⟩:=DataW.trod_bool ht h;exact⟨.bool b,⟨b,rfl⟩,.one rfl (.bool b)⟩
  ·rename_i k ht;obtain⟨m,rfl,_,hw⟩:=DataW.trod_int ht h;exact⟨.int k m,⟨m,rfl,hw⟩,.one rfl (.int k m)⟩
  ·rename_i ht;obtain⟨s,rfl,_,hw⟩:=DataW.trod_string ht h;exact⟨.str s,⟨s,rfl,hw⟩,.one rfl (.str s)⟩
  ·rename_i e ht;simp only[Z8u,Z8L]at hk;obtain⟨hk1,hk2⟩:=hk;rcases DataW.trod_slice ht h with ⟨rfl,_⟩ | ⟨a,len,cap,elems,rest,m,_,rfl,_,_,hlc,hcm,hel,hat,_⟩
   ·exact⟨.sl [],⟨[],rfl,by simp,by simp⟩,.one rfl (.nil _ _ (Z9n _))⟩
   ·have heach: ∀i,i<len→ ∃y,tyV P n e y∧ ∃vs,w.cells? 0 (a.add (i*P.cellsOf e)) (P.cellsOf e)=some vs∧RdC w (fun b=>b<w.heap.size) y.cells vs:=by
     intro i hi;have h1:=hat i hi;rw[Z8n (by omega)]at h1;simp only[Z8m]at h1;obtain⟨vs,h2,h3⟩:=h1;obtain⟨y,hy,hr⟩:=Ur hk1 h3;exact⟨y,hy,vs,h2,hr⟩
    obtain⟨l,hl1,hl2⟩:=WG len heach
    have hty: ∀y∈l,tyV P n e y:=fun y hy=>by
     obtain⟨i,hi⟩:=Z8O hy;exact(hl2 i y hi).1
    refine⟨.sl l,⟨l,rfl,by omega,hty⟩,.one rfl ?_⟩;cases hlen:len with
    |zero=>
     have:l= []:=Z95 (by omega);subst this;exact .nil _ _ hcm
    |succ len'=>
     obtain⟨b,o,spot⟩:=a
     have hspot:spot=none:=by
      obtain⟨y,_,vs,hv,_⟩:=heach 0 (by omega);obtain⟨h1,h2⟩:=UV hv;have h3:=h2 0 hk2;rw[Z8n (by omega)]at h3;have h4:=World.cell?_spot h3;cases spot with
      |none=>rfl
      |some s=>simp[Addr.add]at h4
     subst hspot
     have hcell: ∀(i j:Nat) (y:V),l[i]? =some y→j<P.cellsOf e→ ∃(u:Value),w.cell? ⟨b,o+(i*P.cellsOf e+j),none⟩=some u∧ ∃c,y.cells[j]? =some c∧c.one=true∧Rd w (fun b=>b<w.heap.size) c u:=by
      intro i j y hy hj;obtain⟨_,vs,hv,hr⟩:=hl2 i y hy;obtain⟨h1,h2⟩:=UV hv;have h3:=h2 j hj;rw[Za0,Za0,Z8n (by omega)]at h3;have hyl:j<y.cells.length:=by rw[←hr.1];omega
      obtain⟨q1,u,q2,q3⟩:=hr.2 j y.cells[j] (Z8n hyl);rw[Z8n (by omega),Z8l]at q2;subst q2;exact⟨_,by rw[←Z9i];exact h3,_,Z8n hyl,q1,q3⟩
     have hfit: ∀y∈l,y.fits (P.cellsOf e):=fun y hy=>by
      obtain⟨i,hi⟩:=Z8O hy;obtain⟨_,vs,hv,hr⟩:=hl2 i y hi;refine⟨by rw[←hr.1,(UV hv).1],fun c hc=> ?_⟩;obtain⟨j,hj⟩:=Z8O hc;exact(hr.2 j c hj).1
     have hdiv: ∀i,i<l.length*P.cellsOf e→ ∃y,l[i / P.cellsOf e]? =some y∧i%P.cellsOf e<P.cellsOf e∧i=i / P.cellsOf e*P.cellsOf e+i%P.cellsOf e:=by
      intro i hi;have h1:i / P.cellsOf e<l.length:=(ZbX hk2).2 hi;exact⟨_,Z8n h1,Zca _ hk2,by rw[ZbY];exact(Nat.div_add_mod _ _).symm⟩
     have hb:b<w.heap.size:=by
      obtain⟨y,hy⟩: ∃y,l[0]? =some y:=⟨_,Z8n (by omega)⟩;obtain⟨u,hu,_⟩:=hcell 0 0 y hy hk2;exact Z3D hu
     have hsl:=Rd.sl (w:=w) (G:=fun b=>b<w.heap.size) l b o cap (P.cellsOf e) (fun i=>(w.cell? ⟨b,o+i,none⟩).getD undef) (by omega) hcm hb hfit (fun i hi=> ?_) (fun i c hi=> ?_)
     ·rw[hl1,hlen]at hsl;exact hsl
     ·obtain⟨y,h1,h2,h3⟩:=hdiv i hi;obtain⟨u,hu,_⟩:=hcell _ _ y h1 h2;rw[←h3]at hu;rw[hu];rfl
     ·have hil:i<l.length*P.cellsOf e:=by
       rw[←Y9 hfit];exact(Z8o.1 hi).1
      obtain⟨y,h1,h2,h3⟩:=hdiv i hil;obtain⟨u,hu,c',hc',_,hr⟩:=hcell _ _ y h1 h2;rw[←h3]at hu;rw[h3,WA hfit h1 _ h2,hc']at hi;cases hi;simp only[hu,Z91];exact hr
  ·rename_i fs ht;simp only[Z8u,Z8A]at hk;obtain⟨hk1,hk2⟩:=hk;obtain⟨xs,m,_,_,hcl,hxl,hat⟩:=DataW.trod_struct ht h
   obtain⟨ys,hy1,hy2⟩:=WG (Q:=fun i y=> ∀f,fs.toList[i]? =some f→tyV P n f.type y∧RdC w (fun b=>b<w.heap.size) y.cells ((cs.drop f.offset).take (P.cellsOf f.type))) fs.toList.length (by
    intro i hi;have hf:fs.toList[i]? =some fs.toList[i]:=Z8n hi;have h1:=hat i fs.toList[i] (by simp);rw[Z8n (by rw[hxl];exact hi)]at h1;obtain⟨y,hy,hr⟩:=Ur (hk2 _ (Z8M hi)) h1;exact⟨y,fun f h2=>by rw[hf]at h2;cases h2;exact⟨hy,hr⟩⟩)
   refine⟨.agg (flat ys),⟨ys,rfl,hy1,fun i f y hf hy=>(hy2 i y hy f hf).1⟩,?_⟩;have hcut:=(yn (cs:=cs) hk1).2 hcl;rw[List.drop_zero]at hcut;rw[hcut];refine QG (by simp[hy1]) fun i y vs hy hv=> ?_;rw[Z8D,Z8p]at hv;obtain⟨f,hf,rfl⟩:=hv;exact(hy2 i y hy f hf).2
  ·rename_i m e ht;simp only[Z8u,Z99]at hk;obtain⟨hk1,hk2⟩:=hk;obtain⟨xs,q,_,_,hcl,hxl,hat⟩:=DataW.trod_array ht h
   obtain⟨ys,hy1,hy2⟩:=WG (Q:=fun i y=>tyV P n e y∧RdC w (fun b=>b<w.heap.size) y.cells ((cs.drop (i*P.cellsOf e)).take (P.cellsOf e))) m (by
    intro i hi;have h1:=hat i hi;rw[Z8n (by omega)]at h1;exact Ur hk1 h1)
   refine⟨.agg (flat ys),⟨ys,rfl,hy1,fun y hy=> ?_⟩,?_⟩
   ·obtain⟨i,hi⟩:=Z8O hy;exact(hy2 i y hi).1
   ·rw[Z32 (cs:=cs) (k:=P.cellsOf e) (m:=m) (by omega)];refine QG (by simp[hy1]) fun i y vs hy hv=> ?_;rw[Z8D,Z8p]at hv;obtain⟨j,hj,rfl⟩:=hv
    have:j=i:=by
     rw[Z8o]at hj;obtain⟨_,hj⟩:=hj;simpa using hj.symm
    subst this;exact(hy2 j y hy).2
  ·cases hk
theorem Z1s{n:Nat}{t:TypeId}{v:Value}{d:DataW H}{ps:List MemPlace}{r:Reach}{b0:Nat}(hk:okTy P n t=true)(hval:Value.okWide P w r b0 t v)(h:DataW.Trod enc P w 0 spare held t v d ps):
  ∃x,tyV P n t x∧Rd w (fun b=>b<w.heap.size) x v:=by
 obtain⟨fuel,h⟩:=h;obtain⟨x,hx,hr⟩:=Ur hk h;refine⟨x,hx,?_⟩
 have h1: ∀ {c:V},x=c→c.cells= [c]→v.cells.toList= [v]→Rd w (fun b=>b<w.heap.size) x v:=by
  intro c he hc hv;subst he;rw[hc,hv]at hr;obtain⟨_,u,q1,q2⟩:=hr.2 0 x rfl;simp at q1;subst q1;exact q2
 have h2: ∀ {cs:List V} {vs:Array Value},x= .agg cs→v= .agg vs→Rd w (fun b=>b<w.heap.size) x v:=by
  intro cs vs he hv;subst he hv;refine .agg cs vs (by have:=hr.1;simpa[Value.cells]using this) (fun c hc=> ?_) fun i c hi=> ?_
  ·obtain⟨i,hi⟩:=Z8O hc;exact(hr.2 i c hi).1
  ·obtain⟨_,u,q1,q2⟩:=hr.2 i c hi
   have:vs.getD i undef=u:=by
    have q3:vs[i]? =some u:=by simpa[Value.cells]using q1
    simp[Z8q,q3]
   rw[this];exact q2
 cases n with
 |zero=>cases hk
 |succ n=>
  unfold okTy at hk;unfold tyV at hx;split at hk
  ·rename_i ht;rw[ht]at hx;obtain⟨b,rfl⟩:=hx;obtain⟨c,rfl⟩:=okWide_bool ht hval;exact h1 rfl rfl rfl
  ·rename_i k ht;rw[ht]at hx;obtain⟨b,rfl,_⟩:=hx;obtain⟨c,rfl⟩:=okWide_int ht hval;exact h1 rfl rfl rfl
  ·rename_i ht;rw[ht]at hx;obtain⟨b,rfl,_⟩:=hx;obtain⟨c,rfl⟩:=okWide_string ht hval;exact h1 rfl rfl rfl
  ·rename_i e ht;rw[ht]at hx;obtain⟨b,rfl,_⟩:=hx;obtain⟨c,_,_,rfl⟩:=okWide_slice ht hval;exact h1 rfl rfl rfl
  ·rename_i fs ht;rw[ht]at hx;obtain⟨b,rfl,_⟩:=hx;simp only[Value.okWide,ht]at hval;obtain⟨cs,rfl,_⟩:=hval;exact h2 rfl rfl
  ·rename_i m e ht;rw[ht]at hx;obtain⟨b,rfl,_⟩:=hx;simp only[Value.okWide,ht]at hval;obtain⟨cs,rfl,_⟩:=hval;exact h2 rfl rfl
  ·cases hk
theorem J7{n:Nat}{r:Reach}{b0:Nat}: ∀ {ts:List TypeId} {vs:List Value} {ds:List (DataW H)} {ps:List MemPlace},DataW.TrodAll enc P w 0 spare held ts vs ds ps→(∀t∈ts,okTy P n t=true)→
  (∀(j:Nat) t v,ts[j]? =some t→vs[j]? =some v→Value.okWide P w r b0 t v)→
  ∃xs:List V,xs.length=vs.length∧vs.length=ts.length∧ds.length=ts.length∧(∀(i:Nat) (t:TypeId) (x:V),ts[i]? =some t→xs[i]? =some x→tyV P n t x)∧ ∀(i:Nat) (x:V) (v:Value),xs[i]? =some x→vs[i]? =some v→Rd w (fun b=>b<w.heap.size) x v
 | [],vs,ds,ps,h,_,_=>by
   obtain⟨rfl,rfl,rfl⟩:=trodAll_nil h;exact⟨[],rfl,rfl,rfl,fun i t x h=>by simp at h,fun i x v h=>by simp at h⟩
 |t::ts,vs,ds,ps,h,hk,hval=>by
  obtain⟨v,vs',d,ds',p,q,rfl,rfl,rfl,h1,h2⟩:=trodAll_cons h;obtain⟨x,hx1,hx2⟩:=Z1s (hk t (by simp)) (hval 0 t v rfl rfl) h1;obtain⟨xs,q1,q2,q5,q3,q4⟩:=J7 h2 (fun t ht=>hk t (by simp[ht])) fun j t' v' ht hv=>hval (j+1) t' v' (by simpa using ht) (by simpa using hv);refine⟨x::xs,by simp[q1],by simp[q2],by simp[q5],fun i t' x' ht hx=> ?_,fun i x' v' hx hv=> ?_⟩
  ·cases i with
   |zero=>simp at ht hx;subst ht hx;exact hx1
   |succ i=>exact q3 i t' x' (by simpa using ht) (by simpa using hx)
  ·cases i with
   |zero=>simp at hv hx;subst hv hx;exact hx2
   |succ i=>exact q4 i x' v' (by simpa using hx) (by simpa using hv)
theorem K7{W W':World}(hl:laidOutB P=true)(hb:Below W.heap.size W W'): ∀ {ts:List TypeId} {vs:List Value} {ds:List (DataW H)} {ps:List MemPlace},DataW.TrodAll enc P W 0 (fun _=>true) true ts vs ds ps→
  (∀t∈ts,P.readableRec t=true∧t<P.types.size)→(∀x∈ps,x.block<W.heap.size)→DataW.TrodAll enc P W' 0 (fun b=>decide (b<W.heap.size)) true ts vs ds ps
 | [],vs,ds,ps,h,_,_=>by
   obtain⟨rfl,rfl,rfl⟩:=trodAll_nil h;exact trodAll_mk0
 |t::ts,vs,ds,ps,h,hk,hlt=>by
  obtain⟨v,vs',d,ds',p,q,rfl,rfl,rfl,h1,h2⟩:=trodAll_cons h;exact trodAll_cons_mk (Below.trod hl (hk t (by simp)).1 (hk t (by simp)).2 h1 hb fun x hx=>hlt x (by simp[hx])) (K7 hl hb h2 (fun t ht=>hk t (by simp[ht])) fun x hx=>hlt x (by simp[hx]))
end
theorem Jk{P:Program}{f:FuncId}{fn:Func}{s:ChangeSpec}{tb:TypeId}(n:Nat)(hl:laidOutB P=true)(hok:(fn.params.toList.all fun t=>okTy P n t)=true)(hread:(fn.params.toList.all fun t=>P.readableRec t&&decide (t<P.types.size))=true)
  (hvars:s.vars= []) (hres:fn.resultTypes= #[tb]) (hb:P.underlying tb=some .bool)
  (hfn: ∀(H:Type) (ds:List (DataW H)),ds.length=fn.params.toList.length→s.fn H ds= {results:= [.lit (.bool true)],args:=ds})
  (hlaw: ∀xs:List V,xs.length=fn.params.toList.length→(∀(i:Nat) (t:TypeId) (x:V),fn.params.toList[i]? =some t→xs[i]? =some x→tyV P n t x)→VC P f false xs (.bool true))
  (H:Type) (enc:TypeId×Value→H) (W:World) (base:Nat) (args:Array Value) (ds gs:List (DataW H)) (before:List MemPlace)
  (hval: ∀(j:Nat) t v,fn.params[j]? =some t→args[j]? =some v→Value.okWide P W .any base t v)
  (hW:DataW.Whole enc P fn.params.toList s.vars false W args.toList ds gs before):
  Calls P f args W fun e W'=> ∃v,e= .returned v∧s.post enc P fn false true false false W args v W':=by
 have hlt: ∀x∈before,x.block<W.heap.size:=fun x hx=>by simpa using hW.lt x hx
 have hW':=hW;obtain⟨p,q,hA,hV,rfl,_,_⟩:=hW;rw[hvars]at hV;obtain⟨rfl,rfl⟩:=trodVars_none hV;rw[Z9t]at hlt hW';obtain⟨xs,q1,q2,q5,q3,q4⟩:=J7 (n:=n) hA (Z8A.1 hok) fun j t v ht hv=>hval j t v (by simpa using ht) (by simpa using hv);obtain⟨_,hvc⟩:=hlaw xs (by rw[q1,q2]) q3;refine Zap (hvc W (fun b=>b<W.heap.size) args (fun b h=>h) (by simpa using q1.symm) fun i x hx=> ?_) fun e W' he=> ?_
 ·have hi:i<args.toList.length:=by rw[←q1];exact(Z8o.1 hx).1
  have:args.getD i undef=args.toList[i]:=by
   have hi2:i<args.size:=by simpa using hi
   simp[Z8q,hi2]
  rw[this];exact q4 i x _ hx (Z8n hi)
 ·obtain⟨v,rfl,hbel,hrd⟩:=he;cases hrd;refine⟨_,rfl,ds,[],p,[],p,[],hW',?_,?_,?_,hbel.frame _,fun h=>by cases h⟩
  ·rw[hfn H _ (by rw[Z9t];exact q5),hres];exact trodAll_mk1 (shut_bool hb true)
  ·rw[hfn H _ (by rw[Z9t];exact q5),Z9t];exact K7 hl hbel hA (fun t ht=>by simpa using Z8A.1 hread t ht) hlt
  ·rw[hvars,hfn H _ (by rw[Z9t];exact q5)];rfl
theorem jP{α:Type}{enc:α→V}{Q:α→Prop}: ∀ {l:List V},(∀y∈l,∃a,y=enc a∧Q a)→ ∃l':List α,l=l'.map enc∧ ∀a∈l',Q a
 | [],_=>⟨[],rfl,by simp⟩
 |y::l,h=>by
  obtain⟨a,rfl,ha⟩:=h y (by simp);obtain⟨l',rfl,hl⟩:=jP (l:=l) fun z hz=>h z (Z9h _ hz)
  exact⟨a::l',rfl,fun b hb=>by
   rcases Z8V.1 hb with rfl|hb
   ·exact ha
   ·exact hl b hb⟩
theorem Z2O{P:Program}{n:Nat}{t:TypeId}{x:V}{k:IntKind}(ht:P.underlying t=some (.int k))(h:tyV P (n+1) t x): ∃m,x= .int k m∧k.min≤m∧m≤k.max:=by
 unfold tyV at h;rw[ht]at h;obtain⟨m,rfl,hw⟩:=h;simp only[Lit.wf,Z8u,Z8L]at hw;exact⟨m,rfl,hw⟩
theorem QU{P:Program}{n:Nat}{t e:TypeId}{x:V}{α:Type}{enc:α→V}{Q:α→Prop}(ht:P.underlying t=some (.slice e))(h:tyV P (n+1) t x)(hQ: ∀y,tyV P n e y→ ∃a,y=enc a∧Q a): ∃l:List α,x= .sl (l.map enc)∧l.length≤maxLen∧ ∀a∈l,Q a:=by
 unfold tyV at h;rw[ht]at h;obtain⟨l,rfl,h1,h2⟩:=h;obtain⟨l',rfl,h3⟩:=jP fun y hy=>hQ y (h2 y hy);exact⟨l',rfl,by simpa using h1,h3⟩
theorem Ju{P:Program}{n:Nat}{t:TypeId}{x:V}{fs:Array Field}(ht:P.underlying t=some (.struct fs))(h:tyV P (n+1) t x): ∃ys,x= .agg (flat ys)∧ys.length=fs.toList.length∧ ∀(i:Nat) (f:Field) (y:V),fs.toList[i]? =some f→ys[i]? =some y→tyV P n f.type y:=by
 unfold tyV at h;rw[ht]at h;exact h
end Vm
end
section
namespace Vm
open Go
open Go.Proofs
def Ul(s:St):List (Nat×SV)→St
 | []=>s
 | (i,x)::l=>Ul (putS s i x) l
@[simp] theorem Z4Z(s:St):Ul s []=s:=rfl
@[simp] theorem Z3P(s:St)(i:Nat)(x:SV)(l:List (Nat×SV)):Ul s ((i,x)::l)=Ul (putS s i x) l:=rfl
section
variable {P:Program} {K K':St→Prop}
theorem LS(hK: ∀s,K s→K' s){t:St}: ∀ {l:List (Nat×OV)} {u:St},wpO l t u K→wpO l t u K'
 | [],_,h=>hK _ h
 | (i,o)::l,u,h=>by
   simp only[wpO]at h⊢;split
   ·rename_i x hx;rw[hx]at h;exact LS hK h
   ·rename_i hx;rw[hx]at h;exact h
theorem XO(hK: ∀s,K s→K' s): ∀ {l:List EF} {s:St},wpE P l s K→wpE P l s K'
 | [],_,h=>hK _ h
 | .lt i C e::l,s,h=>by
   simp only[wpE]at h⊢;split
   ·rename_i hc;rw[if_pos hc]at h;split
    ·rename_i x hx;rw[hx]at h;exact XO hK h
    ·rename_i hx;rw[hx]at h;exact h
   ·rename_i hc;rw[if_neg hc]at h;exact XO hK h
 | .call i C f fr fl es::l,s,h=>by
   simp only[wpE]at h⊢;split
   ·rename_i hc;rw[if_pos hc]at h;split
    ·rename_i x n hx hn;rw[hx,hn]at h;obtain⟨r,h1,h2,h3⟩:=h;exact⟨r,h1,h2,XO hK h3⟩
    ·rename_i hne;split at h
     ·rename_i x n hx hn;exact(hne x n hx hn).elim
     ·exact h
   ·rename_i hc;rw[if_neg hc]at h;exact XO hK h
 | .callm i C f ks es::l,s,h=>by
   simp only[wpE]at h⊢;split
   ·rename_i hc;rw[if_pos hc]at h;split
    ·rename_i x n hx hn;rw[hx,hn]at h;obtain⟨r,h1,h3⟩:=h;exact⟨r,h1,XO hK h3⟩
    ·rename_i hx;split at h
     ·rename_i x n h1 h2;exact(hx x n h1 h2).elim
     ·exact h
   ·rename_i hc;rw[if_neg hc]at h;split at h
    ·exact XO hK h
    ·exact XO hK h
    ·exact h.elim
theorem XP: ∀ {a:Stm} {s:St} {N N' R R':St→Prop} {X X':Nat→St→Prop},wpS P a s N X R→(∀s,N s→N' s)→(∀i s,X i s→X' i s)→(∀s,R s→R' s)→wpS P a s N' X' R'
 | .reg r,s,_,_,_,_,_,_,h,hN,_,_=>XO (fun t ht=>⟨ht.1,LS hN ht.2⟩) h
 | .skip,s,_,_,_,_,_,_,h,hN,_,_=>hN _ h
 | .seq a b,s,_,_,_,_,_,_,h,hN,hX,hR=>XP (a:=a) (s:=s) h (fun t ht=>XP (a:=b) (s:=t) ht hN hX hR) hX hR
 | .cond c a b,s,_,_,_,_,_,_,h,hN,hX,hR=>by
   simp only[wpS]at h⊢;split
   ·rename_i hc;rw[hc]at h;exact XP h hN hX hR
   ·rename_i hc;rw[hc]at h;exact XP h hN hX hR
   ·rename_i h1 h2;split at h
    ·rename_i hc;exact(h1 hc).elim
    ·rename_i hc;exact(h2 hc).elim
    ·exact h
 | .block id a,s,_,_,_,_,_,_,h,hN,hX,hR=>XP (a:=a) (s:=s) h hN (fun i t ht=>by
   split
   ·rename_i hi;rw[if_pos hi]at ht;exact hN _ ht
   ·rename_i hi;rw[if_neg hi]at ht;exact hX _ _ ht) hR
 | .loop keep a,s,_,_,_,_,_,_,h,hN,hX,hR=>by
   obtain⟨I,m,h1,h2⟩:=h;exact⟨I,m,h1,fun t ht=>XP (a:=a) (s:=t) (h2 t ht) (fun _ h=>h) hX hR⟩
 | .exit id,s,_,_,_,_,_,_,h,_,hX,_=>hX _ _ h
 | .ret,s,_,_,_,_,_,_,h,_,_,hR=>hR _ h
end
theorem YM{P:Program}{keep:List Nat}{a:Stm}{s:St}{N R:St→Prop}{X:Nat→St→Prop}{ι:Type}(L:ι→List (Nat×SV))(Inv:ι→Prop)(m:St→Nat)(p0:ι)
  (h0:Ys keep s=Ul (Ys keep s) (L p0)) (hI:Inv p0)
  (h1: ∀p,Inv p→wpS P a (Ul (Ys keep s) (L p)) (fun s'=> ∃q,Inv q∧Ys keep s'=Ul (Ys keep s) (L q)∧m (Ul (Ys keep s) (L q)) <m (Ul (Ys keep s) (L p))) X R):
  wpS P (.loop keep a) s N X R:=by
 refine⟨fun t=> ∃p,Inv p∧t=Ul (Ys keep s) (L p),m,⟨p0,hI,h0⟩,?_⟩;rintro t ⟨p,hp,rfl⟩;refine XP (h1 p hp) (fun s' hs=> ?_) (fun _ _ h=>h) (fun _ h=>h);obtain⟨q,hq,he,hm⟩:=hs;rw[he];exact⟨⟨q,hq,rfl⟩,hm⟩
def cnt(c:Nat)(n:Nat)(t:St):Nat:=match get t c with| .v (.int _ k)=>n-k.toNat|_=>0
theorem Xg{P:Program}{keep:List Nat}{a:Stm}{s:St}{N R:St→Prop}{X:Nat→St→Prop}(c n:Nat)(L:Nat→List (Nat×SV))(Inv:Nat→Prop)
  (h0:Ys keep s=Ul (Ys keep s) (L 0)) (hc: ∀i,get (Ul (Ys keep s) (L i)) c= .v (vi i)) (hI:Inv 0)
  (h1: ∀i,i≤n→Inv i→wpS P a (Ul (Ys keep s) (L i)) (fun s'=>i<n∧Inv (i+1)∧Ys keep s'=Ul (Ys keep s) (L (i+1))) X R):
  wpS P (.loop keep a) s N X R:=by
 refine YM L (fun i=>i≤n∧Inv i) (cnt c n) 0 h0 ⟨by omega,hI⟩ ?_;rintro i ⟨hi,hv⟩;refine XP (h1 i hi hv) (fun s' hs=> ?_) (fun _ _ h=>h) (fun _ h=>h);obtain⟨h,hv',he⟩:=hs;refine⟨i+1,⟨by omega,hv'⟩,he,?_⟩;simp only[cnt,hc];simp;omega
theorem UD{P:Program}{keep:List Nat}{a:Stm}{s:St}{N R:St→Prop}{X:Nat→St→Prop}(c n:Nat)(Inv:Nat→Prop)
  (h0:Ys keep s=putS (Ys keep s) c (.v (vi 0))) (hc: ∀x,get (putS (Ys keep s) c x) c=x) (hI:Inv 0)
  (h1: ∀i,i≤n→Inv i→wpS P a (putS (Ys keep s) c (.v (vi i))) (fun s'=>i<n∧Inv (i+1)∧Ys keep s'=putS (Ys keep s) c (.v (vi (i+1)))) X R):
  wpS P (.loop keep a) s N X R:=
 Xg c n (fun i=> [(c,.v (vi i))]) Inv h0 (fun i=>hc _) hI h1
end Vm
end
section
namespace Vm
open Go
open Go.Proofs
set_option maxRecDepth 100000
def p52:Fn:=⟨4,[0,2,3,9],
pQ [pR [pV 1 (pU 0),pV 2 (pI 0)],pQ [.reg ⟨[.lt 4 [] (.bin .lss (.s 0) (pU 1))],[([(4,false)],.bin .gtr (.s 0) (pU 9223372036854775807))],[pV 3 (.ite (.s 4) pT (.bin .gtr (.s 0) (pU 9223372036854775807)))]⟩] (.cond (.s 3) (pQ [pR [pV 1 (pU 0),pV 2 (pI 1)]] .ret) .skip),pR [pV 1 (.bin .add (.bin .mul (pU 2) (.s 0)) (pU 1)),pV 2 (pI 0)]] .ret,[(1,.v),(2,.v)]⟩
theorem c52:Zc Try.prog fresh sig [.fz] [] Try.f52=some p52:=by kernel_rfl
def p59:Fn:=⟨5,[0,2,3,5,12],
pQ [pR [pV 1 (pU 0),pV 2 (pI 0)],pQ [pR [pV 3 (.bin .eql (.s 0) (pU 0))]] (.cond (.s 3) (pQ [pR [pV 1 (pU 0),pV 2 (pI 6)]] .ret) .skip),pQ [.reg ⟨[.lt 5 [] (.bin .eql (.bin .rem (.s 0) (pU 2)) (pU 0))],[([(5,false)],.bin .eql (.s 0) (pU 1))],[pV 4 (.ite (.s 5) pT (.bin .eql (.s 0) (pU 1)))]⟩] (.cond (.s 4) (pQ [pR [pV 1 (pU 0),pV 2 (pI 3)]] .ret) .skip),pR [pV 1 (.bin .quo (.s 0) (pU 2)),pV 2 (pI 0)]] .ret,[(1,.v),(2,.v)]⟩
theorem c59:Zc Try.prog fresh sig [.fz] [] Try.f59=some p59:=by kernel_rfl
def p62:Fn:=⟨5,[0,2,3,4,20],
pQ [pR [(1,.m [pI 0,pI 0]),pV 2 (pI 0)],pR [(3,.m [.fld (.ag [.conv .i64 (.bin .rem (.bin .shr (.s 0) (pU 1)) (pU 65536)),.conv .i64 (.bin .shr (.s 0) (pU 17))]) 0,.fld (.ag [.conv .i64 (.bin .rem (.bin .shr (.s 0) (pU 1)) (pU 65536)),.conv .i64 (.bin .shr (.s 0) (pU 17))]) 1])],pQ [.reg ⟨[.lt 5 [] (.bin .neq (.bin .rem (.s 0) (pU 2)) (pU 0)),.call 6 [(5,false)] (.id 81) false false [.mm 3 0 2]],[([(5,false)],.un .not (.s 6))],[pV 4 (.ite (.s 5) pT (.un .not (.s 6)))]⟩] (.cond (.s 4) (pQ [pR [(1,.m [.fld (.ag [pI 0,pI 0]) 0,.fld (.ag [pI 0,pI 0]) 1]),pV 2 (pI 3)]] .ret) .skip),pR [(1,pM (.mm 3 0 2) 2),pV 2 (pI 0)]] .ret,[(1,(.ag 2)),(2,.v)]⟩
theorem c62:Zc Try.prog fresh sig [.fz] [] Try.f62=some p62:=by kernel_rfl
def p81:Fn:=⟨3,[0,1,2],
pQ [pR [(1,pS 0 2),pV 2 pF],.reg ⟨[.lt 3 [] (.bin .geq (.m 1 0) (pI 0)),.lt 4 [] (.ite (.s 3) (.bin .leq (.m 1 0) (pI 255)) pF),.lt 5 [] (.ite (.s 4) (.bin .geq (.m 1 1) (pI 0)) pF)],[([(3,true)],.bin .leq (.m 1 0) (pI 255)),([(4,true)],.bin .geq (.m 1 1) (pI 0)),([(5,true)],.bin .leq (.m 1 1) (.m 1 0))],[pV 2 (.ite (.s 5) (.bin .leq (.m 1 1) (.m 1 0)) pF)]⟩] .ret,[(2,.v)]⟩
theorem c81:Zc Try.prog fresh sig [.fz] [] Try.f81=some p81:=by kernel_rfl
def p85:Fn:=⟨6,[0,1,2,3,4,8],
pQ [pR [(1,pS 0 2),pV 2 (pU 0),pV 3 (pI 0)],pC [pK 6 106 [.mm 1 0 2]] [pV 4 (.s 6)],pQ [pR [pV 5 (.un .not (.s 4))]] (.cond (.s 5) (pQ [pR [pV 2 (pU 0),pV 3 (pI 1)]] .ret) .skip),pR [pV 2 (.bin .mul (pU 2) (.bin .add (.conv .u64 (.m 1 0)) (.bin .mul (pU 65536) (.conv .u64 (.m 1 1))))),pV 3 (pI 0)]] .ret,[(2,.v),(3,.v)]⟩
theorem c85:Zc Try.prog fresh sig [.fz] [] Try.f85=some p85:=by kernel_rfl
def p88:Fn:=⟨4,[0,2,3,9],
pQ [pR [pV 1 (pU 0),pV 2 (pI 0)],pQ [.reg ⟨[.lt 4 [] (.bin .lss (.s 0) (pU 1))],[([(4,false)],.bin .gtr (.s 0) (pU 9223372036854775807))],[pV 3 (.ite (.s 4) pT (.bin .gtr (.s 0) (pU 9223372036854775807)))]⟩] (.cond (.s 3) (pQ [pR [pV 1 (pU 0),pV 2 (pI 1)]] .ret) .skip),pR [pV 1 (.bin .add (.bin .mul (pU 2) (.s 0)) (pU 1)),pV 2 (pI 0)]] .ret,[(1,.v),(2,.v)]⟩
theorem c88:Zc Try.prog fresh sig [.fz] [] Try.f88=some p88:=by kernel_rfl
def p106:Fn:=⟨3,[0,1,2],
pQ [pR [(1,pS 0 2),pV 2 pF],.reg ⟨[.lt 3 [] (.bin .geq (.m 1 0) (pI 0)),.lt 4 [] (.ite (.s 3) (.bin .leq (.m 1 0) (pI 255)) pF),.lt 5 [] (.ite (.s 4) (.bin .geq (.m 1 1) (pI 0)) pF)],[([(3,true)],.bin .leq (.m 1 0) (pI 255)),([(4,true)],.bin .geq (.m 1 1) (pI 0)),([(5,true)],.bin .leq (.m 1 1) (.m 1 0))],[pV 2 (.ite (.s 5) (.bin .leq (.m 1 1) (.m 1 0)) pF)]⟩] .ret,[(2,.v)]⟩
theorem c106:Zc Try.prog fresh sig [.fz] [] Try.f106=some p106:=by kernel_rfl
end Vm
end
section
namespace Vm
open Go Go.Proofs
set_option maxRecDepth 100000
def Fit(n:Int):Prop:= -9223372036854775808≤n∧n≤9223372036854775807
def U64(n:Int):Prop:=0≤n∧n<18446744073709551616
theorem Zi(n:Int)(h1:0≤n)(h2:n≤18446744073709551615):IntKind.u64.wrap n=n:=by
 rw[IntKind.wrap_u64];omega
theorem ZM{α:Type}{l:List α}{i:Nat}{x:α}(h:l[i]? =some x): ∀hl:i<l.length,l[i]'hl=x:=fun hl=>by
 rw[Z8n hl]at h;exact Zc3 h
def Zo(size ptrs:Int):Bool:=decide (0≤size)&&decide (size≤255)&&decide (0≤ptrs)&&decide (ptrs≤size)
theorem Z4{s p:Int}:Zo s p=true↔0≤s∧s≤255∧0≤p∧p≤s:=by simp[Zo,and_assoc]
abbrev shV(s p:Int):V:= .agg [vi s,vi p]
theorem R4{s p:Int}:VC Try.prog 81 false [shV s p] (.bool (Zo s p)):=by
 refine Z6 Try.func81 follows (by kernel_rfl) c81 rfl ?_;by_cases h1:0≤s<;>by_cases h2:s≤255<;>by_cases h3:0≤p<;>by_cases h4:p≤s<;>simp[p81,Zo,h1,h2,h3,h4]
theorem Kg{s p:Int}:VC Try.prog 106 false [shV s p] (.bool (Zo s p)):=by
 refine Z6 Try.func106 follows (by kernel_rfl) c106 rfl ?_;by_cases h1:0≤s<;>by_cases h2:s≤255<;>by_cases h3:0≤p<;>by_cases h4:p≤s<;>simp[p106,Zo,h1,h2,h3,h4]
def adr(w:Int):Int×Int:=if w=0 then(0,6)else if w%2=0∨w=1 then(0,3)else(w / 2,0)
theorem Rr{w:Int}(hw:U64 w):VC Try.prog 59 false [vu w] (.tup [vu (adr w).1,vi (adr w).2]):=by
 refine Z6 Try.func59 follows (by kernel_rfl) c59 rfl ?_;obtain⟨h1,h2⟩:=hw;have e1:w.tmod 2=w%2:=Z9e h1;have e2:w.tdiv 2=w / 2:=Zbv h1;have e3:=Zi (w / 2) (by omega) (by omega);by_cases h0:w=0
 ·simp[p59,adr,h0]
 ·by_cases h3:w%2=0
  ·simp[p59,adr,h0,e1,h3]
  ·by_cases h4:w=1
   ·subst h4;simp[p59,adr]
   ·simp[p59,adr,h0,e1,e2,h3,h4,e3]
def YO(a:Int):Int×Int:=if a<1∨9223372036854775807<a then(0,1)else(2*a+1,0)
theorem Z10{a:Int}(hw:U64 a):VC Try.prog 52 false [vu a] (.tup [vu (YO a).1,vi (YO a).2]):=by
 refine Z6 Try.func52 follows (by kernel_rfl) c52 rfl ?_;obtain⟨h1,h2⟩:=hw;by_cases h3:a<1
 ·simp[p52,YO,h3]
 ·by_cases h4:9223372036854775807<a
  ·simp[p52,YO,h3,h4]
  ·have e1:=Zi (2*a) (by omega) (by omega);have e2:=Zi (2*a+1) (by omega) (by omega);simp[p52,YO,h3,h4,e1,e2]
theorem Lx{a:Int}(hw:U64 a):VC Try.prog 88 false [vu a] (.tup [vu (YO a).1,vi (YO a).2]):=by
 refine Z6 Try.func88 follows (by kernel_rfl) c88 rfl ?_;obtain⟨h1,h2⟩:=hw;by_cases h3:a<1
 ·simp[p88,YO,h3]
 ·by_cases h4:9223372036854775807<a
  ·simp[p88,YO,h3,h4]
  ·have e1:=Zi (2*a) (by omega) (by omega);have e2:=Zi (2*a+1) (by omega) (by omega);simp[p88,YO,h3,h4,e1,e2]
def Xd(s p:Int):Int×Int:=if Zo s p then(2*(s+65536*p),0)else(0,1)
theorem yY{s p:Int}:VC Try.prog 85 false [shV s p] (.tup [vu (Xd s p).1,vi (Xd s p).2]):=by
 refine Z6 Try.func85 follows (by kernel_rfl) c85 rfl ?_;simp[p85];refine Z0 Kg (by simp) ?_;cases h:Zo s p
 ·simp[Xd,h]
 ·obtain⟨h1,h2,h3,h4⟩:=Z4.1 h;have e1:=Zi s (by omega) (by omega);have e2:=Zi p (by omega) (by omega);have e3:=Zi (65536*p) (by omega) (by omega);have e4:=Zi (s+65536*p) (by omega) (by omega);have e5:=Zi (2*(s+65536*p)) (by omega) (by omega);simp[Xd,h,e1,e2,e3,e4,e5]
def unpk(w:Int):Int×Int×Int:=if w%2=0∧Zo (w / 2%65536) (w / 131072)=true then(w / 2%65536,w / 131072,0)else(0,0,3)
theorem KL{w:Int}(hw:U64 w):VC Try.prog 62 false [vu w] (.tup [shV (unpk w).1 (unpk w).2.1,vi (unpk w).2.2]):=by
 refine Z6 Try.func62 follows (by kernel_rfl) c62 rfl ?_;obtain⟨h1,h2⟩:=hw
 have s1:w.fdiv (2 ^ min 1 IntKind.u64.bits)=w / 2:=by
  rw[show(2:Int) ^ min 1 IntKind.u64.bits=2 by decide];exact Zbw _ (by omega)
 have s2:w.fdiv (2 ^ min 17 IntKind.u64.bits)=w / 131072:=by
  rw[show(2:Int) ^ min 17 IntKind.u64.bits=131072 by decide];exact Zbw _ (by omega)
 have m1:=Zi (w / 2) (by omega) (by omega);have m2:=Zi (w / 131072) (by omega) (by omega);have e1:w.tmod 2=w%2:=Z9e h1;have e2:(w / 2).tmod 65536=w / 2%65536:=Z9e (by omega);have e3:=Z1 (w / 2%65536) (by omega) (by omega);have e4:=Z1 (w / 131072) (by omega) (by omega);simp[p62,binV,s1,s2,e1,e2,e3,e4,m1,m2];by_cases h3:w%2=0
 ·simp[h3];refine Z0 R4 (by simp) ?_;cases h4:Zo (w / 2%65536) (w / 131072)
  ·simp[unpk,h3,h4]
  ·simp[unpk,h3,h4]
 ·simp[h3,unpk]
end Vm
end
section
namespace Vm
open Go
open Go.Proofs
set_option maxRecDepth 100000
def p24:Fn:=⟨4,[0,1,2,5],
pQ [pR [(1,pS 0 7),pV 2 (pI 0)],pQ [pC [pK 4 43 [.mm 1 0 7]] [pV 3 (.un .not (.s 4))]] (.cond (.s 3) (pQ [pR [pV 2 (pI 0)]] .ret) .skip),pR [pV 2 (.bin .sub (.bin .sub (.m 1 1) (.m 1 3)) (.m 1 4))]] .ret,[(2,.v)]⟩
theorem c24:Zc Try.prog fresh sig [.fz] [] Try.f24=some p24:=by kernel_rfl
def p43:Fn:=⟨4,[0,1,2,25],
pQ [pR [(1,pS 0 7),pV 2 pF],pQ [.reg ⟨[.lt 4 [] (.bin .lss (.m 1 1) (pI 0)),.lt 5 [] (.ite (.s 4) pT (.bin .gtr (.m 1 1) (pI 4096))),.lt 6 [] (.ite (.s 5) pT (.bin .lss (.m 1 0) (pU 1)))],[([(4,false)],.bin .gtr (.m 1 1) (pI 4096)),([(5,false)],.bin .lss (.m 1 0) (pU 1)),([(6,false)],.bin .gtr (.m 1 0) (.bin .sub (pU 9223372036854775808) (.bin .mul (pU 2) (.conv .u64 (.m 1 1)))))],[pV 3 (.ite (.s 6) pT (.bin .gtr (.m 1 0) (.bin .sub (pU 9223372036854775808) (.bin .mul (pU 2) (.conv .u64 (.m 1 1))))))]⟩] (.cond (.s 3) (pQ [pR [pV 2 pF]] .ret) .skip),.reg ⟨[.lt 7 [] (.bin .eql (.m 1 2) (pI 0)),.lt 8 [] (.ite (.s 7) pT (.bin .eql (.m 1 2) (pI 1))),.call 9 [(8,true)] (.id 77) false false [.m 1 3,.m 1 4,.m 1 1],.lt 10 [] (.ite (.s 8) (.s 9) pF),.call 11 [(10,true)] (.id 77) false false [.m 1 5,.m 1 6,.m 1 1]],[([(7,false)],.bin .eql (.m 1 2) (pI 1))],[pV 2 (.ite (.s 10) (.s 11) pF)]⟩] .ret,[(2,.v)]⟩
theorem c43:Zc Try.prog fresh sig [.fz] [] Try.f43=some p43:=by kernel_rfl
def p50:Fn:=⟨10,[0,1,2,3,4,5,9,17,6,33],
pQ [pR [(2,pS 0 7),(3,pS 1 2),pV 4 (pU 0),pV 5 (pI 0)],pQ [pC [pK 10 43 [.mm 2 0 7]] [pV 6 (.un .not (.s 10))]] (.cond (.s 6) (pQ [pR [pV 4 (pU 0),pV 5 (pI 1)]] .ret) .skip),pQ [.reg ⟨[.lt 11 [] (.bin .lss (.m 3 0) (pI 1))],[([(11,false)],.bin .gtr (.m 3 0) (pI 4))],[pV 7 (.ite (.s 11) pT (.bin .gtr (.m 3 0) (pI 4)))]⟩] (.cond (.s 7) (pQ [pR [pV 4 (pU 0),pV 5 (pI 6)]] .ret) .skip),pC [pK 12 83 [.mm 2 0 7]] [(8,pM (.sz (.ai (.s 12) (.bin .sub (.m 3 0) (pI 1)) 4 2 true) 2) 2)],pQ [.reg ⟨[.lt 13 [] (.bin .lss (.m 3 1) (pI 0))],[([(13,false)],.bin .geq (.m 3 1) (.m 8 1))],[pV 9 (.ite (.s 13) pT (.bin .geq (.m 3 1) (.m 8 1)))]⟩] (.cond (.s 9) (pQ [pR [pV 4 (pU 0),pV 5 (pI 6)]] .ret) .skip),pR [pV 4 (.bin .add (.m 8 0) (.conv .u64 (.m 3 1))),pV 5 (pI 0)]] .ret,[(4,.v),(5,.v)]⟩
theorem c50:Zc Try.prog fresh sig [.fz,.fz] [] Try.f50=some p50:=by kernel_rfl
def p60:Fn:=⟨12,[0,1,2,4,5,10,14,15,7,6,13,31],
pQ [pR [(2,pS 0 7),(3,.m [pI 0,pI 0]),pV 4 (pI 0)],pQ [pC [pK 12 43 [.mm 2 0 7]] [pV 5 (.un .not (.s 12))]] (.cond (.s 5) (pQ [pR [(3,.m [.fld (.ag [pI 0,pI 0]) 0,.fld (.ag [pI 0,pI 0]) 1]),pV 4 (pI 1)]] .ret) .skip),pQ [pC [pK 10 83 [.mm 2 0 7]] [pV 6 (pI 0)]] (.block 0 (.loop [0,1,2,3,4,5,6,10] (pQ [pR [pV 7 (.bin .lss (.s 6) (pI 4))],.cond (.s 7) .skip (.exit 0),.block 1 (pQ [pR [(8,pM (.sz (.ai (.s 10) (.s 6) 4 2 true) 2) 2),pV 9 (.s 6)],.reg ⟨[.lt 13 [] (.bin .geq (.s 1) (.m 8 0))],[([(13,true)],.bin .lss (.bin .sub (.s 1) (.m 8 0)) (.conv .u64 (.m 8 1)))],[pV 11 (.ite (.s 13) (.bin .lss (.bin .sub (.s 1) (.m 8 0)) (.conv .u64 (.m 8 1))) pF)]⟩] (.cond (.s 11) (pQ [pR [(3,.m [.fld (.ag [.bin .add (.s 9) (pI 1),.conv .i64 (.bin .sub (.s 1) (.m 8 0))]) 0,.fld (.ag [.bin .add (.s 9) (pI 1),.conv .i64 (.bin .sub (.s 1) (.m 8 0))]) 1]),pV 4 (pI 0)]] .ret) .skip))] (pR [pV 6 (.bin .add (.s 6) (pI 1))])))),pR [(3,.m [.fld (.ag [pI 0,pI 0]) 0,.fld (.ag [pI 0,pI 0]) 1]),pV 4 (pI 6)]] .ret,[(3,(.ag 2)),(4,.v)]⟩
theorem c60:Zc Try.prog fresh sig [.fz,.fz] [] Try.f60=some p60:=by kernel_rfl
def p71:Fn:=⟨5,[0,1,2,35,53],
pQ [pR [(1,pS 0 7),pV 2 pF],pQ [.reg ⟨[.lt 5 [] (.bin .lss (.m 1 0) (pU 1)),.lt 6 [] (.ite (.s 5) pT (.bin .lss (.m 1 1) (pI 0))),.lt 7 [] (.ite (.s 6) pT (.bin .gtr (.m 1 1) (pI 4096))),.lt 8 [] (.ite (.s 7) pT (.bin .gtr (.m 1 0) (.bin .sub (pU 9223372036854775808) (.bin .mul (pU 2) (.conv .u64 (.m 1 1)))))),.lt 9 [] (.ite (.s 8) pT (.bin .lss (.m 1 2) (pI 0)))],[([(5,false)],.bin .lss (.m 1 1) (pI 0)),([(6,false)],.bin .gtr (.m 1 1) (pI 4096)),([(7,false)],.bin .gtr (.m 1 0) (.bin .sub (pU 9223372036854775808) (.bin .mul (pU 2) (.conv .u64 (.m 1 1))))),([(8,false)],.bin .lss (.m 1 2) (pI 0)),([(9,false)],.bin .gtr (.m 1 2) (pI 1))],[pV 3 (.ite (.s 9) pT (.bin .gtr (.m 1 2) (pI 1)))]⟩] (.cond (.s 3) (pQ [pR [pV 2 pF]] .ret) .skip),pQ [.reg ⟨[.lt 10 [] (.bin .lss (.m 1 3) (pI 0)),.lt 11 [] (.ite (.s 10) pT (.bin .lss (.m 1 4) (pI 0))),.lt 12 [] (.ite (.s 11) pT (.bin .lss (.m 1 5) (pI 0)))],[([(10,false)],.bin .lss (.m 1 4) (pI 0)),([(11,false)],.bin .lss (.m 1 5) (pI 0)),([(12,false)],.bin .lss (.m 1 6) (pI 0))],[pV 4 (.ite (.s 12) pT (.bin .lss (.m 1 6) (pI 0)))]⟩] (.cond (.s 4) (pQ [pR [pV 2 pF]] .ret) .skip),.reg ⟨[.lt 13 [] (.bin .leq (.m 1 3) (.m 1 1)),.lt 14 [] (.ite (.s 13) (.bin .leq (.m 1 4) (.bin .sub (.m 1 1) (.m 1 3))) pF),.lt 15 [] (.ite (.s 14) (.bin .leq (.m 1 5) (.m 1 1)) pF)],[([(13,true)],.bin .leq (.m 1 4) (.bin .sub (.m 1 1) (.m 1 3))),([(14,true)],.bin .leq (.m 1 5) (.m 1 1)),([(15,true)],.bin .leq (.m 1 6) (.bin .sub (.m 1 1) (.m 1 5)))],[pV 2 (.ite (.s 15) (.bin .leq (.m 1 6) (.bin .sub (.m 1 1) (.m 1 5))) pF)]⟩] .ret,[(2,.v)]⟩
theorem c71:Zc Try.prog fresh sig [.fz] [] Try.f71=some p71:=by kernel_rfl
def p77:Fn:=⟨4,[0,1,2,6],
pQ [pR [pV 3 pF],.reg ⟨[.lt 4 [] (.bin .geq (.s 0) (pI 0)),.lt 5 [] (.ite (.s 4) (.bin .geq (.s 1) (pI 0)) pF),.lt 6 [] (.ite (.s 5) (.bin .leq (.s 0) (.s 2)) pF)],[([(4,true)],.bin .geq (.s 1) (pI 0)),([(5,true)],.bin .leq (.s 0) (.s 2)),([(6,true)],.bin .leq (.s 1) (.bin .sub (.s 2) (.s 0)))],[pV 3 (.ite (.s 6) (.bin .leq (.s 1) (.bin .sub (.s 2) (.s 0))) pF)]⟩] .ret,[(3,.v)]⟩
theorem c77:Zc Try.prog fresh sig [.fz,.fz,.fz] [] Try.f77=some p77:=by kernel_rfl
def p83:Fn:=⟨3,[0,1,2],
pQ [pR [(1,pS 0 7),(2,.m [pU 0,pI 0,pU 0,pI 0,pU 0,pI 0,pU 0,pI 0])],pC [pK 3 105 [.mm 1 0 7,pI 1],pK 4 105 [.mm 1 0 7,pI 2],pK 5 105 [.mm 1 0 7,pI 3],pK 6 105 [.mm 1 0 7,pI 4]] [(2,.m [.fld (.ag [.fld (.ag [.one (.s 3),.m 1 3]) 0,.fld (.ag [.one (.s 3),.m 1 3]) 1,.fld (.ag [.one (.s 4),.m 1 4]) 0,.fld (.ag [.one (.s 4),.m 1 4]) 1,.fld (.ag [.one (.s 5),.m 1 5]) 0,.fld (.ag [.one (.s 5),.m 1 5]) 1,.fld (.ag [.one (.s 6),.m 1 6]) 0,.fld (.ag [.one (.s 6),.m 1 6]) 1]) 0,.fld (.ag [.fld (.ag [.one (.s 3),.m 1 3]) 0,.fld (.ag [.one (.s 3),.m 1 3]) 1,.fld (.ag [.one (.s 4),.m 1 4]) 0,.fld (.ag [.one (.s 4),.m 1 4]) 1,.fld (.ag [.one (.s 5),.m 1 5]) 0,.fld (.ag [.one (.s 5),.m 1 5]) 1,.fld (.ag [.one (.s 6),.m 1 6]) 0,.fld (.ag [.one (.s 6),.m 1 6]) 1]) 1,.fld (.ag [.fld (.ag [.one (.s 3),.m 1 3]) 0,.fld (.ag [.one (.s 3),.m 1 3]) 1,.fld (.ag [.one (.s 4),.m 1 4]) 0,.fld (.ag [.one (.s 4),.m 1 4]) 1,.fld (.ag [.one (.s 5),.m 1 5]) 0,.fld (.ag [.one (.s 5),.m 1 5]) 1,.fld (.ag [.one (.s 6),.m 1 6]) 0,.fld (.ag [.one (.s 6),.m 1 6]) 1]) 2,.fld (.ag [.fld (.ag [.one (.s 3),.m 1 3]) 0,.fld (.ag [.one (.s 3),.m 1 3]) 1,.fld (.ag [.one (.s 4),.m 1 4]) 0,.fld (.ag [.one (.s 4),.m 1 4]) 1,.fld (.ag [.one (.s 5),.m 1 5]) 0,.fld (.ag [.one (.s 5),.m 1 5]) 1,.fld (.ag [.one (.s 6),.m 1 6]) 0,.fld (.ag [.one (.s 6),.m 1 6]) 1]) 3,.fld (.ag [.fld (.ag [.one (.s 3),.m 1 3]) 0,.fld (.ag [.one (.s 3),.m 1 3]) 1,.fld (.ag [.one (.s 4),.m 1 4]) 0,.fld (.ag [.one (.s 4),.m 1 4]) 1,.fld (.ag [.one (.s 5),.m 1 5]) 0,.fld (.ag [.one (.s 5),.m 1 5]) 1,.fld (.ag [.one (.s 6),.m 1 6]) 0,.fld (.ag [.one (.s 6),.m 1 6]) 1]) 4,.fld (.ag [.fld (.ag [.one (.s 3),.m 1 3]) 0,.fld (.ag [.one (.s 3),.m 1 3]) 1,.fld (.ag [.one (.s 4),.m 1 4]) 0,.fld (.ag [.one (.s 4),.m 1 4]) 1,.fld (.ag [.one (.s 5),.m 1 5]) 0,.fld (.ag [.one (.s 5),.m 1 5]) 1,.fld (.ag [.one (.s 6),.m 1 6]) 0,.fld (.ag [.one (.s 6),.m 1 6]) 1]) 5,.fld (.ag [.fld (.ag [.one (.s 3),.m 1 3]) 0,.fld (.ag [.one (.s 3),.m 1 3]) 1,.fld (.ag [.one (.s 4),.m 1 4]) 0,.fld (.ag [.one (.s 4),.m 1 4]) 1,.fld (.ag [.one (.s 5),.m 1 5]) 0,.fld (.ag [.one (.s 5),.m 1 5]) 1,.fld (.ag [.one (.s 6),.m 1 6]) 0,.fld (.ag [.one (.s 6),.m 1 6]) 1]) 6,.fld (.ag [.fld (.ag [.one (.s 3),.m 1 3]) 0,.fld (.ag [.one (.s 3),.m 1 3]) 1,.fld (.ag [.one (.s 4),.m 1 4]) 0,.fld (.ag [.one (.s 4),.m 1 4]) 1,.fld (.ag [.one (.s 5),.m 1 5]) 0,.fld (.ag [.one (.s 5),.m 1 5]) 1,.fld (.ag [.one (.s 6),.m 1 6]) 0,.fld (.ag [.one (.s 6),.m 1 6]) 1]) 7])]] .ret,[(2,(.ag 8))]⟩
theorem c83:Zc Try.prog fresh sig [.fz] [] Try.f83=some p83:=by kernel_rfl
def p87:Fn:=⟨11,[0,1,2,3,4,5,6,12,7,8,28],
pQ [pR [(2,pS 0 7),(3,pS 1 2),pV 4 (pU 0),pV 5 (pI 0)],pC [pK 11 71 [.mm 2 0 7]] [pV 6 (.s 11)],pQ [pR [pV 7 (.un .not (.s 6))]] (.cond (.s 7) (pQ [pR [pV 4 (pU 0),pV 5 (pI 1)]] .ret) .skip),pC [pK 12 93 [.mm 2 0 7,.m 3 0]] [pV 8 (.ext (.s 12) 0),pV 9 (.ext (.s 12) 1)],pQ [.reg ⟨[.lt 13 [] (.bin .lss (.m 3 1) (pI 0))],[([(13,false)],.bin .geq (.m 3 1) (.s 9))],[pV 10 (.ite (.s 13) pT (.bin .geq (.m 3 1) (.s 9)))]⟩] (.cond (.s 10) (pQ [pR [pV 4 (pU 0),pV 5 (pI 6)]] .ret) .skip),pR [pV 4 (.bin .add (.s 8) (.conv .u64 (.m 3 1))),pV 5 (pI 0)]] .ret,[(4,.v),(5,.v)]⟩
theorem c87:Zc Try.prog fresh sig [.fz,.fz] [] Try.f87=some p87:=by kernel_rfl
def p93:Fn:=⟨12,[0,1,2,4,5,6,7,28,27,33,45,50],
pQ [pR [(2,pS 0 7),pV 3 (pU 0),pV 4 (pI 0)],pR [pV 5 (.bin .add (.m 2 0) (.conv .u64 (.bin .mul (.m 2 2) (.m 2 1))))],pR [pV 6 (.bin .add (.m 2 0) (.conv .u64 (.bin .mul (.bin .sub (pI 1) (.m 2 2)) (.m 2 1))))],pQ [pR [pV 8 (.s 1)]] (.block 0 (pQ [pR [pV 7 (.bin .eql (.s 8) (pI 1))]] (.cond (.s 7) (pQ [pR [pV 3 (.s 5),pV 4 (.m 2 3)]] .ret) (pQ [pR [pV 9 (.bin .eql (.s 8) (pI 2))]] (.cond (.s 9) (pQ [pR [pV 3 (.bin .add (.s 5) (.conv .u64 (.bin .sub (.m 2 1) (.m 2 4)))),pV 4 (.m 2 4)]] .ret) (pQ [pR [pV 10 (.bin .eql (.s 8) (pI 3))]] (.cond (.s 10) (pQ [pR [pV 3 (.s 6),pV 4 (.m 2 5)]] .ret) (pQ [pR [pV 11 (.bin .eql (.s 8) (pI 4))]] (.cond (.s 11) (pQ [pR [pV 3 (.bin .add (.s 6) (.conv .u64 (.bin .sub (.m 2 1) (.m 2 6)))),pV 4 (.m 2 6)]] .ret) .skip))))))))),pR [pV 3 (pU 0),pV 4 (pI 0)]] .ret,[(3,.v),(4,.v)]⟩
theorem c93:Zc Try.prog fresh sig [.fz,.fz] [] Try.f93=some p93:=by kernel_rfl
def p105:Fn:=⟨10,[0,1,2,4,5,9,8,11,13,15],
pQ [pR [(2,pS 0 7),pV 3 (pU 0)],pR [pV 4 (.m 2 0)],pQ [pR [pV 6 (.s 1)]] (.block 0 (pQ [.block 4 (pQ [.block 3 (pQ [.block 2 (pQ [.block 1 (pQ [pQ [pQ [pR [pV 5 (.bin .eql (.s 6) (pI 2))]] (.cond (.s 5) (.exit 1) .skip),pQ [pR [pV 7 (.bin .eql (.s 6) (pI 1))]] (.cond (.s 7) (.exit 2) .skip),pQ [pR [pV 8 (.bin .eql (.s 6) (pI 4))]] (.cond (.s 8) (.exit 3) .skip),pR [pV 9 (.bin .eql (.s 6) (pI 3))]] (.cond (.s 9) (.exit 4) .skip)] (.exit 0))] (pR [pV 4 (.bin .add (.s 4) (.conv .u64 (.bin .sub (.m 2 1) (.m 2 4))))])),pR [pV 4 (.bin .add (.s 4) (.conv .u64 (.bin .mul (.m 2 2) (.m 2 1))))]] (.exit 0))] (pR [pV 4 (.bin .add (.s 4) (.conv .u64 (.bin .sub (.m 2 1) (.m 2 6))))])),pR [pV 4 (.bin .add (.s 4) (.conv .u64 (.bin .mul (.bin .sub (pI 1) (.m 2 2)) (.m 2 1))))]] (.exit 0))),pR [pV 3 (.s 4)]] .ret,[(3,.v)]⟩
theorem c105:Zc Try.prog fresh sig [.fz,.fz] [] Try.f105=some p105:=by kernel_rfl
end Vm
end
section
namespace Vm
open Go Go.Proofs
set_option maxRecDepth 100000
structure Ly where
 base:Int
 cap:Int
 to:Int
 low:Int
 high:Int
 old:Int
 far:Int
 deriving DecidableEq,Inhabited
def lyV(l:Ly):V:= .agg [vu l.base,vi l.cap,vi l.to,vi l.low,vi l.high,vi l.old,vi l.far]
@[simp] theorem Z7G(l:Ly):szV (lyV l) 7=some (lyV l):=rfl
@[simp] theorem Z42(l:Ly):(lyV l).cells= [vu l.base,vi l.cap,vi l.to,vi l.low,vi l.high,vi l.old,vi l.far]:=rfl
@[simp] theorem Z5V(l:Ly):fldV (lyV l) 0=some (vu l.base):=rfl
@[simp] theorem Z4K(l:Ly):fldV (lyV l) 1=some (vi l.cap):=rfl
@[simp] theorem Z4O(l:Ly):fldV (lyV l) 2=some (vi l.to):=rfl
@[simp] theorem Z4A(l:Ly):fldV (lyV l) 3=some (vi l.low):=rfl
@[simp] theorem Z5w(l:Ly):fldV (lyV l) 4=some (vi l.high):=rfl
@[simp] theorem Z4I(l:Ly):fldV (lyV l) 5=some (vi l.old):=rfl
@[simp] theorem Z5B(l:Ly):fldV (lyV l) 6=some (vi l.far):=rfl
def Ly.fits(l:Ly):Prop:=U64 l.base∧Fit l.cap∧Fit l.to∧Fit l.low∧Fit l.high∧Fit l.old∧Fit l.far
def Wg(a b words:Int):Bool:=decide (0≤a)&&decide (0≤b)&&decide (a≤words)&&decide (b≤words-a)
def Z8(l:Ly):Bool:=decide (0≤l.cap)&&decide (l.cap≤4096)&&decide (1≤l.base)&&decide (l.base≤9223372036854775808-2*l.cap)&&(decide (l.to=0)||decide (l.to=1))&&Wg l.low l.high l.cap&&Wg l.old l.far l.cap
theorem Zm{l:Ly}:Z8 l=true↔0≤l.cap∧l.cap≤4096∧1≤l.base∧l.base≤9223372036854775808-2*l.cap∧(l.to=0∨l.to=1)∧(0≤l.low∧0≤l.high∧l.low≤l.cap∧l.high≤l.cap-l.low)∧(0≤l.old∧0≤l.far∧l.old≤l.cap∧l.far≤l.cap-l.old):=by
 simp[Z8,Wg,and_assoc]
theorem ZA{l:Ly}:Z8 l=false↔ ¬(0≤l.cap∧l.cap≤4096∧1≤l.base∧l.base≤9223372036854775808-2*l.cap∧(l.to=0∨l.to=1)∧(0≤l.low∧0≤l.high∧l.low≤l.cap∧l.high≤l.cap-l.low)∧(0≤l.old∧0≤l.far∧l.old≤l.cap∧l.far≤l.cap-l.old)):=by
 rw[←Zm];simp
theorem Ku{a b w:Int}(ha:Fit a)(hb:Fit b)(hw:Fit w):VC Try.prog 77 false [vi a,vi b,vi w] (.bool (Wg a b w)):=by
 refine Z6 Try.func77 follows (by kernel_rfl) c77 rfl ?_;obtain⟨a1,a2⟩:=ha;obtain⟨w1,w2⟩:=hw;by_cases h1:0≤a
 ·by_cases h2:a≤w
  ·have e:=Z1 (w-a) (by omega) (by omega);by_cases h3:0≤b<;>simp[p77,Wg,h1,h2,h3,e]
  ·by_cases h3:0≤b<;>simp[p77,Wg,h1,h2,h3]
 ·simp[p77,Wg,h1]
theorem Va{l:Ly}(hl:l.fits):VC Try.prog 43 false [lyV l] (.bool (Z8 l)):=by
 refine Z6 Try.func43 follows (by kernel_rfl) c43 rfl ?_;obtain⟨⟨hb1,hb2⟩,hc,ht,h1,h2,h3,h4⟩:=hl;obtain⟨c1,c2⟩:=hc;simp[p43];by_cases g1:l.cap<0
 ·have:Z8 l=false:=ZA.2 (by omega);simp[g1,this]
 by_cases g2:4096<l.cap
 ·have:Z8 l=false:=ZA.2 (by omega);simp[g1,g2,this]
 by_cases g3:l.base<1
 ·have:Z8 l=false:=ZA.2 (by omega);simp[g1,g2,g3,this]
 have e1:=Zi l.cap (by omega) (by omega);have e2:=Zi (2*l.cap) (by omega) (by omega);have e3:=Zi (9223372036854775808-2*l.cap) (by omega) (by omega);by_cases g4:9223372036854775808-2*l.cap<l.base
 ·have:Z8 l=false:=ZA.2 (by omega);simp[g1,g2,g3,e1,e2,e3,g4,this]
 by_cases g5:l.to=0∨l.to=1
 ·have k1:=Ku h1 h2 ⟨c1,c2⟩;have k2:=Ku h3 h4 ⟨c1,c2⟩
  have hr:Z8 l=(Wg l.low l.high l.cap&&Wg l.old l.far l.cap):=by
   rcases g5 with h|h<;>simp[Z8,show 0≤l.cap by omega,show l.cap≤4096 by omega,show 1≤l.base by omega,show l.base≤9223372036854775808-2*l.cap by omega,h]
  rw[hr];rcases g5 with g5|g5
  all_goals
   cases hw:Wg l.low l.high l.cap
   ·rw[hw]at k1;simp[g1,g2,g3,e1,e2,e3,g4,g5];refine Z0 k1 (by simp) ?_;simp
   ·rw[hw]at k1;simp[g1,g2,g3,e1,e2,e3,g4,g5];refine Z0 k1 (by simp) ?_;simp;refine Z0 k2 (by simp) ?_;simp
 ·have:Z8 l=false:=ZA.2 (by omega);have g6: ¬l.to=0:=fun h=>g5 (.inl h);have g7: ¬l.to=1:=fun h=>g5 (.inr h);simp[g1,g2,g3,e1,e2,e3,g4,g6,g7,this]
theorem Kz{l:Ly}(hl:l.fits):VC Try.prog 71 false [lyV l] (.bool (Z8 l)):=by
 refine Z6 Try.func71 follows (by kernel_rfl) c71 rfl ?_;obtain⟨⟨hb1,hb2⟩,hc,ht,h1,h2,h3,h4⟩:=hl;obtain⟨c1,c2⟩:=hc;simp[p71];by_cases g3:l.base<1
 ·have:Z8 l=false:=ZA.2 (by omega);simp[g3,this]
 by_cases g1:l.cap<0
 ·have:Z8 l=false:=ZA.2 (by omega);simp[g1,g3,this]
 by_cases g2:4096<l.cap
 ·have:Z8 l=false:=ZA.2 (by omega);simp[g1,g2,g3,this]
 have e1:=Zi l.cap (by omega) (by omega);have e2:=Zi (2*l.cap) (by omega) (by omega);have e3:=Zi (9223372036854775808-2*l.cap) (by omega) (by omega);by_cases g4:9223372036854775808-2*l.cap<l.base
 ·have:Z8 l=false:=ZA.2 (by omega);simp[g1,g2,g3,e1,e2,e3,g4,this]
 by_cases g5:l.to<0
 ·have:Z8 l=false:=ZA.2 (by omega);simp[g1,g2,g3,e1,e2,e3,g4,g5,this]
 by_cases g6:1<l.to
 ·have:Z8 l=false:=ZA.2 (by omega);simp[g1,g2,g3,e1,e2,e3,g4,g5,g6,this]
 by_cases q1:l.low<0
 ·have:Z8 l=false:=ZA.2 (by omega);simp[g1,g2,g3,e1,e2,e3,g4,g5,g6,q1,this]
 by_cases q2:l.high<0
 ·have:Z8 l=false:=ZA.2 (by omega);simp[g1,g2,g3,e1,e2,e3,g4,g5,g6,q1,q2,this]
 by_cases q3:l.old<0
 ·have:Z8 l=false:=ZA.2 (by omega);simp[g1,g2,g3,e1,e2,e3,g4,g5,g6,q1,q2,q3,this]
 by_cases q4:l.far<0
 ·have:Z8 l=false:=ZA.2 (by omega);simp[g1,g2,g3,e1,e2,e3,g4,g5,g6,q1,q2,q3,q4,this]
 obtain⟨l1,l2⟩:=h1;obtain⟨o1,o2⟩:=h3;have w1:=Z1 (l.cap-l.low) (by omega) (by omega);have w2:=Z1 (l.cap-l.old) (by omega) (by omega);by_cases r1:l.low≤l.cap
 ·by_cases r2:l.high≤l.cap-l.low
  ·by_cases r3:l.old≤l.cap
   ·by_cases r4:l.far≤l.cap-l.old
    ·have:Z8 l=true:=Zm.2 (by omega);simp[g1,g2,g3,e1,e2,e3,g4,g5,g6,q1,q2,q3,q4,w1,w2,r1,r2,r3,r4,this]
    ·have:Z8 l=false:=ZA.2 (by omega);simp[g1,g2,g3,e1,e2,e3,g4,g5,g6,q1,q2,q3,q4,w1,w2,r1,r2,r3,r4,this]
   ·have:Z8 l=false:=ZA.2 (by omega);simp[g1,g2,g3,e1,e2,e3,g4,g5,g6,q1,q2,q3,q4,w1,w2,r1,r2,r3,this]
  ·have:Z8 l=false:=ZA.2 (by omega);simp[g1,g2,g3,e1,e2,e3,g4,g5,g6,q1,q2,q3,q4,w1,w2,r1,r2,this]
 ·have:Z8 l=false:=ZA.2 (by omega);simp[g1,g2,g3,e1,e2,e3,g4,g5,g6,q1,q2,q3,q4,w1,w2,r1,this]
def YZ(l:Ly):Int:=if Z8 l then l.cap-l.low-l.high else 0
theorem Z1K{l:Ly}(hl:l.fits):VC Try.prog 24 false [lyV l] (vi (YZ l)):=by
 refine Z6 Try.func24 follows (by kernel_rfl) c24 rfl ?_;simp[p24];refine Z0 (Va hl) (by simp) ?_;cases h:Z8 l
 ·simp[YZ,h]
 ·have h':=Zm.1 h;have e1:=Z1 (l.cap-l.low) (by omega) (by omega);have e2:=Z1 (l.cap-l.low-l.high) (by omega) (by omega);simp[YZ,h,e1,e2]
def fstL(l:Ly)(part:Int):Int:=
 if part=1 then l.base+l.to*l.cap else if part=2 then l.base+l.to*l.cap+(l.cap-l.high)else if part=3 then l.base+(1-l.to)*l.cap else l.base+(1-l.to)*l.cap+(l.cap-l.far)
def sizL(l:Ly)(part:Int):Int:=if part=1 then l.low else if part=2 then l.high else if part=3 then l.old else l.far
theorem Z1D{l:Ly}(hr:Z8 l=true):(l.to*l.cap=0∧(1-l.to)*l.cap=l.cap)∨(l.to*l.cap=l.cap∧(1-l.to)*l.cap=0):=by
 obtain⟨_,_,_,_,ht,_⟩:=Zm.1 hr;rcases ht with h|h
 ·rw[h];exact .inl ⟨by simp,by simp⟩
 ·rw[h];exact .inr ⟨by simp,by simp⟩
theorem Zv{l:Ly}(hr:Z8 l=true)(k:Int):1≤fstL l k∧fstL l k+sizL l k≤9223372036854775808∧0≤sizL l k∧sizL l k≤4096:=by
 have h:=Zm.1 hr;have ht:=Z1D hr;unfold fstL sizL;by_cases k1:k=1
 ·simp only[if_pos k1];omega
 by_cases k2:k=2
 ·simp only[if_neg k1,if_pos k2];omega
 by_cases k3:k=3
 ·simp only[if_neg k1,if_neg k2,if_pos k3];omega
 ·simp only[if_neg k1,if_neg k2,if_neg k3];omega
theorem TY{l:Ly}(hr:Z8 l=true){k:Int}(hk:1≤k∧k≤4):VC Try.prog 105 false [lyV l,vi k] (vu (fstL l k)):=by
 refine Z6 Try.func105 follows (by kernel_rfl) c105 rfl ?_;have h:=Zm.1 hr;have ht:=Z1D hr;have w1:=Z1 (l.to*l.cap) (by omega) (by omega);have w2:=Z1 (1-l.to) (by omega) (by omega);have w3:=Z1 ((1-l.to)*l.cap) (by omega) (by omega);have w4:=Z1 (l.cap-l.high) (by omega) (by omega);have w5:=Z1 (l.cap-l.far) (by omega) (by omega);have u1:=Zi (l.to*l.cap) (by omega) (by omega);have u3:=Zi ((1-l.to)*l.cap) (by omega) (by omega);have u4:=Zi (l.cap-l.high) (by omega) (by omega);have u5:=Zi (l.cap-l.far) (by omega) (by omega);have v1:=Zi (l.base+l.to*l.cap) (by omega) (by omega);have v2:=Zi (l.base+(l.cap-l.high)) (by omega) (by omega);have v3:=Zi (l.base+(l.cap-l.high)+l.to*l.cap) (by omega) (by omega);have v4:=Zi (l.base+(1-l.to)*l.cap) (by omega) (by omega);have v5:=Zi (l.base+(l.cap-l.far)) (by omega) (by omega);have v6:=Zi (l.base+(l.cap-l.far)+(1-l.to)*l.cap) (by omega) (by omega);have hk':k=1∨k=2∨k=3∨k=4:=by omega
 rcases hk' with rfl|rfl|rfl|rfl
 ·simp[p105,Vq,fstL,w1,u1,v1]
 ·simp[p105,Vq,fstL,w1,u1,w4,u4,v2,v3];omega
 ·simp[p105,Vq,fstL,w2,w3,u3,v4]
 ·simp[p105,Vq,fstL,w2,w3,u3,w5,u5,v5,v6];omega
def YG(l:Ly):V:= .agg [vu (fstL l 1),vi l.low,vu (fstL l 2),vi l.high,vu (fstL l 3),vi l.old,vu (fstL l 4),vi l.far]
theorem zL{l:Ly}(hr:Z8 l=true):VC Try.prog 83 false [lyV l] (YG l):=by
 refine Z6 Try.func83 follows (by kernel_rfl) c83 rfl ?_;simp[p83];refine Z0 (TY hr (k:=1) (by omega)) (by simp[lyV]) ?_;simp;refine Z0 (TY hr (k:=2) (by omega)) (by simp[lyV]) ?_;simp;refine Z0 (TY hr (k:=3) (by omega)) (by simp[lyV]) ?_;simp;refine Z0 (TY hr (k:=4) (by omega)) (by simp[lyV]) ?_;simp[YG]
@[simp] theorem Z00(l:Ly):sizL l 1=l.low:=rfl
@[simp] theorem jM(l:Ly):sizL l 2=l.high:=rfl
@[simp] theorem Z0v(l:Ly):sizL l 3=l.old:=rfl
@[simp] theorem Z0I(l:Ly):sizL l 4=l.far:=rfl
def ZC(l:Ly)(part at_:Int):Int×Int:=
 if Z8 l=false then(0,1)else if part<1∨4<part then(0,6)else if at_<0∨sizL l part≤at_ then(0,6)else(fstL l part+at_,0)
theorem za{l:Ly}(hl:l.fits){part at_:Int}:VC Try.prog 50 false [lyV l,.agg [vi part,vi at_]] (.tup [vu (ZC l part at_).1,vi (ZC l part at_).2]):=by
 refine Z6 Try.func50 follows (by kernel_rfl) c50 rfl ?_;simp[p50];refine Z0 (Va hl) (by simp) ?_;cases hr:Z8 l
 ·simp[ZC,hr]
 ·simp;by_cases h1:part<1
  ·simp[ZC,hr,h1]
  by_cases h2:4<part
  ·simp[ZC,hr,h1,h2]
  have hk:part=1∨part=2∨part=3∨part=4:=by omega
  simp[h1,h2];refine Z0 (zL hr) (by simp[YG]) ?_;rcases hk with rfl|rfl|rfl|rfl
  ·have hw:=Zv hr 1;simp only[Z00]at hw;simp[YG,aiV,Z1];by_cases h3:at_<0
   ·simp[ZC,hr,h3]
   by_cases h4:l.low≤at_
   ·simp[ZC,hr,h3,h4]
   ·have u1:=Zi at_ (by omega) (by omega);have u2:=Zi (fstL l 1+at_) (by omega) (by omega);simp[ZC,hr,h3,h4,u1,u2]
  ·have hw:=Zv hr 2;simp only[jM]at hw;simp[YG,aiV,Z1];by_cases h3:at_<0
   ·simp[ZC,hr,h3]
   by_cases h4:l.high≤at_
   ·simp[ZC,hr,h3,h4]
   ·have u1:=Zi at_ (by omega) (by omega);have u2:=Zi (fstL l 2+at_) (by omega) (by omega);simp[ZC,hr,h3,h4,u1,u2]
  ·have hw:=Zv hr 3;simp only[Z0v]at hw;simp[YG,aiV,Z1];by_cases h3:at_<0
   ·simp[ZC,hr,h3]
   by_cases h4:l.old≤at_
   ·simp[ZC,hr,h3,h4]
   ·have u1:=Zi at_ (by omega) (by omega);have u2:=Zi (fstL l 3+at_) (by omega) (by omega);simp[ZC,hr,h3,h4,u1,u2]
  ·have hw:=Zv hr 4;simp only[Z0I]at hw;simp[YG,aiV,Z1];by_cases h3:at_<0
   ·simp[ZC,hr,h3]
   by_cases h4:l.far≤at_
   ·simp[ZC,hr,h3,h4]
   ·have u1:=Zi at_ (by omega) (by omega);have u2:=Zi (fstL l 4+at_) (by omega) (by omega);simp[ZC,hr,h3,h4,u1,u2]
theorem YF{l:Ly}(hr:Z8 l=true){k:Int}(hk:1≤k∧k≤4):VC Try.prog 93 false [lyV l,vi k] (.tup [vu (fstL l k),vi (sizL l k)]):=by
 refine Z6 Try.func93 follows (by kernel_rfl) c93 rfl ?_;have h:=Zm.1 hr;have ht:=Z1D hr;have w1:=Z1 (l.to*l.cap) (by omega) (by omega);have w2:=Z1 (1-l.to) (by omega) (by omega);have w3:=Z1 ((1-l.to)*l.cap) (by omega) (by omega);have w4:=Z1 (l.cap-l.high) (by omega) (by omega);have w5:=Z1 (l.cap-l.far) (by omega) (by omega);have u1:=Zi (l.to*l.cap) (by omega) (by omega);have u3:=Zi ((1-l.to)*l.cap) (by omega) (by omega);have u4:=Zi (l.cap-l.high) (by omega) (by omega);have u5:=Zi (l.cap-l.far) (by omega) (by omega);have v1:=Zi (l.base+l.to*l.cap) (by omega) (by omega);have v2:=Zi (l.base+l.to*l.cap+(l.cap-l.high)) (by omega) (by omega);have v4:=Zi (l.base+(1-l.to)*l.cap) (by omega) (by omega);have v5:=Zi (l.base+(1-l.to)*l.cap+(l.cap-l.far)) (by omega) (by omega);have hk':k=1∨k=2∨k=3∨k=4:=by omega
 rcases hk' with rfl|rfl|rfl|rfl
 all_goals simp[p93,Vq,fstL,w1,u1,w2,w3,u3,w4,u4,w5,u5,v1,v2,v4,v5]
theorem Sj{l:Ly}(hr:Z8 l=true){k:Int}(hk:k<1∨4<k):VC Try.prog 93 false [lyV l,vi k] (.tup [vu 0,vi 0]):=by
 refine Z6 Try.func93 follows (by kernel_rfl) c93 rfl ?_;simp[p93,Vq,show k≠1 by omega,show k≠2 by omega,show k≠3 by omega,show k≠4 by omega]
theorem Lk{l:Ly}(hl:l.fits){part at_:Int}:VC Try.prog 87 false [lyV l,.agg [vi part,vi at_]] (.tup [vu (ZC l part at_).1,vi (ZC l part at_).2]):=by
 refine Z6 Try.func87 follows (by kernel_rfl) c87 rfl ?_;simp[p87];refine Z0 (Kz hl) (by simp) ?_;cases hr:Z8 l
 ·simp[ZC,hr]
 ·simp;by_cases hp:part<1∨4<part
  ·refine Z0 (Sj hr hp) (by simp) ?_;by_cases h3:at_<0
   ·simp[ZC,hr,hp,h3]
   ·simp[ZC,hr,hp,h3,show 0≤at_ by omega]
  have hk:part=1∨part=2∨part=3∨part=4:=by omega
  rcases hk with rfl|rfl|rfl|rfl
  ·have hw:=Zv hr 1;simp only[Z00]at hw;refine Z0 (YF hr (k:=1) (by omega)) (by simp) ?_;by_cases h3:at_<0
   ·simp[ZC,hr,h3]
   by_cases h4:l.low≤at_
   ·simp[ZC,hr,h3,h4]
   ·have u1:=Zi at_ (by omega) (by omega);have u2:=Zi (fstL l 1+at_) (by omega) (by omega);simp[ZC,hr,h3,h4,u1,u2]
  ·have hw:=Zv hr 2;simp only[jM]at hw;refine Z0 (YF hr (k:=2) (by omega)) (by simp) ?_;by_cases h3:at_<0
   ·simp[ZC,hr,h3]
   by_cases h4:l.high≤at_
   ·simp[ZC,hr,h3,h4]
   ·have u1:=Zi at_ (by omega) (by omega);have u2:=Zi (fstL l 2+at_) (by omega) (by omega);simp[ZC,hr,h3,h4,u1,u2]
  ·have hw:=Zv hr 3;simp only[Z0v]at hw;refine Z0 (YF hr (k:=3) (by omega)) (by simp) ?_;by_cases h3:at_<0
   ·simp[ZC,hr,h3]
   by_cases h4:l.old≤at_
   ·simp[ZC,hr,h3,h4]
   ·have u1:=Zi at_ (by omega) (by omega);have u2:=Zi (fstL l 3+at_) (by omega) (by omega);simp[ZC,hr,h3,h4,u1,u2]
  ·have hw:=Zv hr 4;simp only[Z0I]at hw;refine Z0 (YF hr (k:=4) (by omega)) (by simp) ?_;by_cases h3:at_<0
   ·simp[ZC,hr,h3]
   by_cases h4:l.far≤at_
   ·simp[ZC,hr,h3,h4]
   ·have u1:=Zi at_ (by omega) (by omega);have u2:=Zi (fstL l 4+at_) (by omega) (by omega);simp[ZC,hr,h3,h4,u1,u2]
def inL(l:Ly)(a k:Int):Bool:=decide (fstL l k≤a)&&decide (a<fstL l k+sizL l k)
theorem WJ{l:Ly}{a k:Int}:inL l a k=true↔fstL l k≤a∧a<fstL l k+sizL l k:=by simp[inL]
theorem zN{l:Ly}{a k:Int}:inL l a k=false↔ ¬(fstL l k≤a∧a<fstL l k+sizL l k):=by rw[←WJ];simp
def ZJ(l:Ly)(a:Int):Int×Int×Int:=
 if Z8 l=false then(0,0,1)else if inL l a 1 then(1,a-fstL l 1,0)else if inL l a 2 then(2,a-fstL l 2,0)else if inL l a 3 then(3,a-fstL l 3,0)else if inL l a 4 then(4,a-fstL l 4,0)else(0,0,6)
theorem ye{l:Ly}(hl:l.fits){a:Int}(ha:U64 a):VC Try.prog 60 false [lyV l,vu a] (.tup [.agg [vi (ZJ l a).1,vi (ZJ l a).2.1],vi (ZJ l a).2.2]):=by
 refine Z6 Try.func60 follows (by kernel_rfl) c60 rfl ?_;simp[p60];refine Z0 (Va hl) (by simp) ?_;cases hr:Z8 l
 ·simp[ZJ,hr]
 ·obtain⟨a1,a2⟩:=ha;simp;refine Z0 (zL hr) (by simp[lyV]) ?_;simp;have hw: ∀k,1≤fstL l k∧fstL l k+sizL l k≤9223372036854775808∧0≤sizL l k∧sizL l k≤4096:=fun k=>Zv hr k;have w1:=hw 1;have w2:=hw 2;have w3:=hw 3;have w4:=hw 4;simp only[Z00,jM,Z0v,Z0I]at w1 w2 w3 w4;refine UD 6 4 (fun i=>(0<i→inL l a 1=false)∧(1<i→inL l a 2=false)∧(2<i→inL l a 3=false)∧(3<i→inL l a 4=false)) (by simp) (by simp) (by simp) ?_;rintro i hi ⟨i1,i2,i3,i4⟩;have hi':i=0∨i=1∨i=2∨i=3∨i=4:=by omega
  rcases hi' with rfl|rfl|rfl|rfl|rfl
  ·have u0:=Zi l.low (by omega) (by omega);by_cases h1:fstL l 1≤a
   ·have u1:=Zi (a-fstL l 1) (by omega) (by omega);by_cases h2:a-fstL l 1<l.low
    ·have u2:=Z1 (a-fstL l 1) (by omega) (by omega);have hin:inL l a 1=true:=WJ.2 ⟨h1,by rw[Z00];omega⟩;simp[YG,aiV,Z1,h1,u0,u1,h2,u2,ZJ,hr,hin]
    ·have hin:inL l a 1=false:=zN.2 (by rw[Z00];omega);simp[YG,aiV,Z1,h1,u0,u1,h2,hin]
   ·have hin:inL l a 1=false:=by simp[inL,h1]
    simp[YG,aiV,Z1,h1,hin]
  ·have u0:=Zi l.high (by omega) (by omega);by_cases h1:fstL l 2≤a
   ·have u1:=Zi (a-fstL l 2) (by omega) (by omega);by_cases h2:a-fstL l 2<l.high
    ·have u2:=Z1 (a-fstL l 2) (by omega) (by omega);have hin:inL l a 2=true:=WJ.2 ⟨h1,by rw[jM];omega⟩;simp[YG,aiV,Z1,h1,u0,u1,h2,u2,ZJ,hr,hin,i1 (by omega)]
    ·have hin:inL l a 2=false:=zN.2 (by rw[jM];omega);simp[YG,aiV,Z1,h1,u0,u1,h2,hin,i1 (by omega)]
   ·have hin:inL l a 2=false:=by simp[inL,h1]
    simp[YG,aiV,Z1,h1,hin,i1 (by omega)]
  ·have u0:=Zi l.old (by omega) (by omega);by_cases h1:fstL l 3≤a
   ·have u1:=Zi (a-fstL l 3) (by omega) (by omega);by_cases h2:a-fstL l 3<l.old
    ·have u2:=Z1 (a-fstL l 3) (by omega) (by omega);have hin:inL l a 3=true:=WJ.2 ⟨h1,by rw[Z0v];omega⟩;simp[YG,aiV,Z1,h1,u0,u1,h2,u2,ZJ,hr,hin,i1 (by omega),i2 (by omega)]
    ·have hin:inL l a 3=false:=zN.2 (by rw[Z0v];omega);simp[YG,aiV,Z1,h1,u0,u1,h2,hin,i1 (by omega),i2 (by omega)]
   ·have hin:inL l a 3=false:=by simp[inL,h1]
    simp[YG,aiV,Z1,h1,hin,i1 (by omega),i2 (by omega)]
  ·have u0:=Zi l.far (by omega) (by omega);by_cases h1:fstL l 4≤a
   ·have u1:=Zi (a-fstL l 4) (by omega) (by omega);by_cases h2:a-fstL l 4<l.far
    ·have u2:=Z1 (a-fstL l 4) (by omega) (by omega);have hin:inL l a 4=true:=WJ.2 ⟨h1,by rw[Z0I];omega⟩;simp[YG,aiV,Z1,h1,u0,u1,h2,u2,ZJ,hr,hin,i1 (by omega),i2 (by omega),i3 (by omega)]
    ·have hin:inL l a 4=false:=zN.2 (by rw[Z0I];omega);simp[YG,aiV,Z1,h1,u0,u1,h2,hin,i1 (by omega),i2 (by omega),i3 (by omega)]
   ·have hin:inL l a 4=false:=by simp[inL,h1]
    simp[YG,aiV,Z1,h1,hin,i1 (by omega),i2 (by omega),i3 (by omega)]
  ·simp[ZJ,hr,i1 (by omega),i2 (by omega),i3 (by omega),i4 (by omega)]
end Vm
end
section
namespace Vm
open Go
open Go.Proofs
set_option maxRecDepth 100000
def p12:Fn:=⟨9,[0,1,2,3,6,10,7,14,18],
pQ [pR [(3,pS 0 10),(4,pZ)],pQ [pR [pV 6 (.s 1)]] (.block 0 (pQ [pR [pV 5 (.bin .eql (.s 6) (pI 1))]] (.cond (.s 5) (pR [(3,.m [.m 3 0,.m 3 1,.m 3 2,.m 3 3,.m 3 4,.one (.s 2),.m 3 6,.m 3 7,.m 3 8,.m 3 9])]) (pQ [pR [pV 7 (.bin .eql (.s 6) (pI 2))]] (.cond (.s 7) (pR [(3,.m [.m 3 0,.m 3 1,.m 3 2,.m 3 3,.m 3 4,.m 3 5,.one (.s 2),.m 3 7,.m 3 8,.m 3 9])]) (pQ [pR [pV 8 (.bin .eql (.s 6) (pI 3))]] (.cond (.s 8) (pR [(3,.m [.m 3 0,.m 3 1,.m 3 2,.m 3 3,.m 3 4,.m 3 5,.m 3 6,.one (.s 2),.m 3 8,.m 3 9])]) (pR [(3,.m [.m 3 0,.m 3 1,.m 3 2,.m 3 3,.m 3 4,.m 3 5,.m 3 6,.m 3 7,.one (.s 2),.m 3 9])])))))))),pR [(4,pM (.mm 3 0 10) 10)]] .ret,[(4,(.ag 10))]⟩
theorem c12:Zc Try.prog fresh sig [.fz,.fz,.fz] [] Try.f12=some p12:=by kernel_rfl
def p13:Fn:=⟨8,[0,1,2,4,6,5,10,14],
pQ [pR [(2,pS 0 10),pV 3 pN],pQ [pR [pV 5 (.s 1)]] (.block 0 (pQ [pR [pV 4 (.bin .eql (.s 5) (pI 1))]] (.cond (.s 4) (pQ [pR [pV 3 (.m 2 5)]] .ret) (pQ [pR [pV 6 (.bin .eql (.s 5) (pI 2))]] (.cond (.s 6) (pQ [pR [pV 3 (.m 2 6)]] .ret) (pQ [pR [pV 7 (.bin .eql (.s 5) (pI 3))]] (.cond (.s 7) (pQ [pR [pV 3 (.m 2 7)]] .ret) .skip))))))),pR [pV 3 (.m 2 8)]] .ret,[(3,.v)]⟩
theorem c13:Zc Try.prog fresh sig [.fz,.fz] [] Try.f13=some p13:=by kernel_rfl
def p19:Fn:=⟨10,[0,1,2,3,4,39,5,41,6,52],
pQ [pR [(2,pS 0 10),(3,pS 1 10),pV 4 pF],pQ [.reg ⟨[.lt 10 [] (.bin .neq (.m 2 0) (.m 3 0)),.lt 11 [] (.ite (.s 10) pT (.bin .neq (.m 2 1) (.m 3 1))),.lt 12 [] (.ite (.s 11) pT (.bin .neq (.m 2 2) (.m 3 2))),.lt 13 [] (.ite (.s 12) pT (.eqv true (.m 2 3) (.m 3 3)))],[([(10,false)],.bin .neq (.m 2 1) (.m 3 1)),([(11,false)],.bin .neq (.m 2 2) (.m 3 2)),([(12,false)],.eqv true (.m 2 3) (.m 3 3)),([(13,false)],.bin .neq (.m 2 4) (.m 3 4))],[pV 5 (.ite (.s 13) pT (.bin .neq (.m 2 4) (.m 3 4)))]⟩] (.cond (.s 5) (pQ [pR [pV 4 pF]] .ret) .skip),pQ [pR [pV 6 (pI 1)]] (.block 0 (.loop [0,1,2,3,4,5,6] (pQ [pQ [pR [pV 7 (.bin .leq (.s 6) (pI 4))]] (.cond (.s 7) .skip (.exit 0)),.block 1 (pQ [pC [pK 14 13 [.mm 2 0 10,.s 6],pK 15 13 [.mm 3 0 10,.s 6],pK 16 23 [.s 14,.s 15]] [pV 8 (.s 16)],pR [pV 9 (.un .not (.s 8))]] (.cond (.s 9) (pQ [pR [pV 4 pF]] .ret) .skip))] (pR [pV 6 (.bin .add (.s 6) (pI 1))])))),pC [pK 17 23 [.m 2 9,.m 3 9]] [pV 4 (.s 17)]] .ret,[(4,.v)]⟩
theorem c19:Zc Try.prog fresh sig [.fz,.fz] [] Try.f19=some p19:=by kernel_rfl
def p23:Fn:=⟨7,[0,1,4,10,5,14,25],
pQ [pR [pV 2 pF],pQ [pR [pV 3 (.bin .neq (.len (.s 0)) (.len (.s 1)))]] (.cond (.s 3) (pQ [pR [pV 2 pF]] .ret) .skip),pQ [pR [pV 4 (pI 0)]] (.block 0 (.loop [0,1,2,3,4] (pQ [pQ [pR [pV 5 (.bin .lss (.s 4) (.len (.s 0)))]] (.cond (.s 5) .skip (.exit 0)),.block 1 (pQ [pR [pV 6 (.bin .neq (.fld (.idx (.s 0) (.s 4) 1) 0) (.fld (.idx (.s 1) (.s 4) 1) 0))]] (.cond (.s 6) (pQ [pR [pV 2 pF]] .ret) .skip))] (pR [pV 4 (.bin .add (.s 4) (pI 1))])))),pR [pV 2 pT]] .ret,[(2,.v)]⟩
theorem c23:Zc Try.prog fresh sig [.fz,.fz] [] Try.f23=some p23:=by kernel_rfl
def p25:Fn:=⟨3,[0,1,2],
pQ [pR [(1,pS 0 10),(2,.m [pU 0,pI 0,pI 0,pI 0,pI 0,pI 0,pI 0])],pR [(2,.m [.fld (.ag [.m 1 0,.m 1 1,.m 1 2,.len (.m 1 5),.len (.m 1 6),.len (.m 1 7),.len (.m 1 8)]) 0,.fld (.ag [.m 1 0,.m 1 1,.m 1 2,.len (.m 1 5),.len (.m 1 6),.len (.m 1 7),.len (.m 1 8)]) 1,.fld (.ag [.m 1 0,.m 1 1,.m 1 2,.len (.m 1 5),.len (.m 1 6),.len (.m 1 7),.len (.m 1 8)]) 2,.fld (.ag [.m 1 0,.m 1 1,.m 1 2,.len (.m 1 5),.len (.m 1 6),.len (.m 1 7),.len (.m 1 8)]) 3,.fld (.ag [.m 1 0,.m 1 1,.m 1 2,.len (.m 1 5),.len (.m 1 6),.len (.m 1 7),.len (.m 1 8)]) 4,.fld (.ag [.m 1 0,.m 1 1,.m 1 2,.len (.m 1 5),.len (.m 1 6),.len (.m 1 7),.len (.m 1 8)]) 5,.fld (.ag [.m 1 0,.m 1 1,.m 1 2,.len (.m 1 5),.len (.m 1 6),.len (.m 1 7),.len (.m 1 8)]) 6])]] .ret,[(2,(.ag 7))]⟩
theorem c25:Zc Try.prog fresh sig [.fz] [] Try.f25=some p25:=by kernel_rfl
def p37:Fn:=⟨4,[0,1,4,6],
pQ [pR [pV 2 (pI 0)],pQ [pR [pV 3 (.bin .lss (.s 0) (pI 0))]] (.cond (.s 3) (pR [pV 0 (.un .neg (.bin .add (.s 0) (pI 1)))]) .skip),pR [pV 2 (.bin .rem (.s 0) (.s 1))]] .ret,[(2,.v)]⟩
theorem c37:Zc Try.prog fresh sig [.fz,.fz] [] Try.f37=some p37:=by kernel_rfl
def p51:Fn:=⟨3,[0,1,2],
pQ [pR [(1,pS 0 10),(2,.m [pU 0,pI 0,pI 0,pI 0,pI 0,pI 0,pI 0])],pR [(2,.m [.fld (.ag [.m 1 0,.m 1 1,.m 1 2,.len (.m 1 5),.len (.m 1 6),.len (.m 1 7),.len (.m 1 8)]) 0,.fld (.ag [.m 1 0,.m 1 1,.m 1 2,.len (.m 1 5),.len (.m 1 6),.len (.m 1 7),.len (.m 1 8)]) 1,.fld (.ag [.m 1 0,.m 1 1,.m 1 2,.len (.m 1 5),.len (.m 1 6),.len (.m 1 7),.len (.m 1 8)]) 2,.fld (.ag [.m 1 0,.m 1 1,.m 1 2,.len (.m 1 5),.len (.m 1 6),.len (.m 1 7),.len (.m 1 8)]) 3,.fld (.ag [.m 1 0,.m 1 1,.m 1 2,.len (.m 1 5),.len (.m 1 6),.len (.m 1 7),.len (.m 1 8)]) 4,.fld (.ag [.m 1 0,.m 1 1,.m 1 2,.len (.m 1 5),.len (.m 1 6),.len (.m 1 7),.len (.m 1 8)]) 5,.fld (.ag [.m 1 0,.m 1 1,.m 1 2,.len (.m 1 5),.len (.m 1 6),.len (.m 1 7),.len (.m 1 8)]) 6])]] .ret,[(2,(.ag 7))]⟩
theorem c51:Zc Try.prog fresh sig [.fz] [] Try.f51=some p51:=by kernel_rfl
def p84:Fn:=⟨4,[0,1,4,6],
pQ [pR [pV 2 (pI 0)],pQ [pR [pV 3 (.bin .lss (.s 0) (pI 0))]] (.cond (.s 3) (pR [pV 0 (.un .neg (.bin .add (.s 0) (pI 1)))]) .skip),pR [pV 2 (.bin .rem (.s 0) (.s 1))]] .ret,[(2,.v)]⟩
theorem c84:Zc Try.prog fresh sig [.fz,.fz] [] Try.f84=some p84:=by kernel_rfl
end Vm
end
section
namespace Vm
open Go Go.Proofs
set_option maxRecDepth 100000
structure Hp where
 base:Int
 cap:Int
 to:Int
 cycle:Bool
 scan:Int
 low:List Int
 high:List Int
 old:List Int
 far:List Int
 roots:List Int
 deriving DecidableEq,Inhabited
def hpV(h:Hp):V:= .agg [vu h.base,vi h.cap,vi h.to,.bool h.cycle,vi h.scan,.sl (h.low.map vu),.sl (h.high.map vu),.sl (h.old.map vu),.sl (h.far.map vu),.sl (h.roots.map vu)]
@[simp] theorem Z7D(h:Hp):szV (hpV h) 10=some (hpV h):=rfl
@[simp] theorem Z4k(h:Hp):(hpV h).cells= [vu h.base,vi h.cap,vi h.to,.bool h.cycle,vi h.scan,.sl (h.low.map vu),.sl (h.high.map vu),.sl (h.old.map vu),.sl (h.far.map vu),.sl (h.roots.map vu)]:=rfl
@[simp] theorem Z4r(h:Hp):fldV (hpV h) 0=some (vu h.base):=rfl
@[simp] theorem Z5Q(h:Hp):fldV (hpV h) 1=some (vi h.cap):=rfl
@[simp] theorem Z5K(h:Hp):fldV (hpV h) 2=some (vi h.to):=rfl
@[simp] theorem Z5C(h:Hp):fldV (hpV h) 3=some (.bool h.cycle):=rfl
@[simp] theorem Z5y(h:Hp):fldV (hpV h) 4=some (vi h.scan):=rfl
@[simp] theorem Z55(h:Hp):fldV (hpV h) 5=some (.sl (h.low.map vu)):=rfl
@[simp] theorem Z5k(h:Hp):fldV (hpV h) 6=some (.sl (h.high.map vu)):=rfl
@[simp] theorem Z4j(h:Hp):fldV (hpV h) 7=some (.sl (h.old.map vu)):=rfl
@[simp] theorem Z5I(h:Hp):fldV (hpV h) 8=some (.sl (h.far.map vu)):=rfl
@[simp] theorem Z5x(h:Hp):fldV (hpV h) 9=some (.sl (h.roots.map vu)):=rfl
def layH(h:Hp):Ly:=⟨h.base,h.cap,h.to,h.low.length,h.high.length,h.old.length,h.far.length⟩
structure Hp.ok (h:Hp):Prop where
 base:U64 h.base
 cap:Fit h.cap
 to:Fit h.to
 scan:Fit h.scan
 low:h.low.length≤1000000
 high:h.high.length≤1000000
 old:h.old.length≤1000000
 far:h.far.length≤1000000
 roots:h.roots.length≤1000000
 lowW: ∀w∈h.low,U64 w
 highW: ∀w∈h.high,U64 w
 oldW: ∀w∈h.old,U64 w
 farW: ∀w∈h.far,U64 w
 rootsW: ∀w∈h.roots,U64 w
theorem QB{α:Type}{l:List α}(h:l.length≤1000000):Fit (l.length:Int):=⟨by omega,by omega⟩
theorem Hp.ok.lay{h:Hp}(hh:h.ok):(layH h).fits:=⟨hh.base,hh.cap,hh.to,QB hh.low,QB hh.high,QB hh.old,QB hh.far⟩
theorem SK{h:Hp}:VC Try.prog 51 false [hpV h] (lyV (layH h)):=by
 refine Z6 Try.func51 follows (by kernel_rfl) c51 rfl ?_;simp[p51,lyV,layH]
theorem Jd{h:Hp}:VC Try.prog 25 false [hpV h] (lyV (layH h)):=by
 refine Z6 Try.func25 follows (by kernel_rfl) c25 rfl ?_;simp[p25,lyV,layH]
def Z5(h:Hp)(n:Int):List Int:=if n=1 then h.low else if n=2 then h.high else if n=3 then h.old else h.far
@[simp] theorem YQ(h:Hp):Z5 h 1=h.low:=rfl
@[simp] theorem Kt(h:Hp):Z5 h 2=h.high:=rfl
@[simp] theorem zj(h:Hp):Z5 h 3=h.old:=rfl
@[simp] theorem yi(h:Hp):Z5 h 4=h.far:=rfl
theorem Wh{h:Hp}{n:Int}:VC Try.prog 13 false [hpV h,vi n] (.sl ((Z5 h n).map vu)):=by
 refine Z6 Try.func13 follows (by kernel_rfl) c13 rfl ?_;by_cases h1:n=1
 ·simp[p13,Z5,h1]
 by_cases h2:n=2
 ·simp[p13,Z5,h2]
 by_cases h3:n=3<;>simp[p13,Z5,h1,h2,h3]
def YE(h:Hp)(n:Int)(l:List Int):Hp:=if n=1 then {h with low:=l}else if n=2 then {h with high:=l}else if n=3 then {h with old:=l}else {h with far:=l}
@[simp] theorem Z7M(h:Hp)(l:List Int):YE h 1 l= {h with low:=l}:=rfl
@[simp] theorem Z7S(h:Hp)(l:List Int):YE h 2 l= {h with high:=l}:=rfl
@[simp] theorem Z4D(h:Hp)(l:List Int):YE h 3 l= {h with old:=l}:=rfl
@[simp] theorem Z54(h:Hp)(l:List Int):YE h 4 l= {h with far:=l}:=rfl
theorem Z0c{h:Hp}{n:Int}{l:List Int}:VC Try.prog 12 false [hpV h,vi n,.sl (l.map vu)] (hpV (YE h n l)):=by
 refine Z6 Try.func12 follows (by kernel_rfl) c12 rfl ?_;by_cases h1:n=1
 ·simp[p12,YE,h1,hpV]
 by_cases h2:n=2
 ·simp[p12,YE,h2,hpV]
 by_cases h3:n=3<;>simp[p12,YE,h1,h2,h3,hpV]
theorem Jm{α:Type}{a b:List α}{i:Nat}(h:a.take i=b.take i)(hx:a[i]? =b[i]?):a.take (i+1)=b.take (i+1):=by
 rw[Z9H,Z9H,h,hx]
theorem Z7E{α:Type}{a b:List α}{i:Nat}(h:a[i]? ≠b[i]?):a≠b:=fun e=>h (by rw[e])
theorem Se{a b:List Int}(ha:a.length≤1000000):VC Try.prog 23 false [.sl (a.map vu),.sl (b.map vu)] (.bool (decide (a=b))):=by
 refine Z6 Try.func23 follows (by kernel_rfl) c23 rfl ?_;by_cases hl:a.length=b.length
 ·simp[p23,hl];refine UD 4 b.length (fun i=>a.take i=b.take i) (by simp) (by simp) (by simp) ?_;intro i hi heq;have hw:=Z1 ((i:Int)+1) (by omega) (by omega);by_cases h:i<b.length
  ·have h':i<a.length:=by omega
   by_cases hx:a[i]=b[i]
   ·simp[h,h',hx,hw];exact Jm heq (by simp[h,h',hx])
   ·simp[h,h',hx];exact Z7E (i:=i) (by simp[h,h',hx])
  ·have:i=b.length:=by omega
   subst this;rw[Za1,Z9a (by omega)]at heq;simp[heq]
 ·simp[p23,show ¬((a.length:Int)=(b.length:Int))by omega];intro e;subst e;exact hl rfl
theorem zq{a b:Hp}(ha:a.ok):VC Try.prog 19 false [hpV a,hpV b] (.bool (decide (a=b))):=by
 refine Z6 Try.func19 follows (by kernel_rfl) c19 rfl ?_;simp[p19]
 have hp: ∀k,(Z5 a k).length≤1000000:=fun k=>by
  unfold Z5;split
  ·exact ha.low
  split
  ·exact ha.high
  split
  ·exact ha.old
  ·exact ha.far
 by_cases g1:a.base=b.base
 case neg=>
  have:a≠b:=fun e=>g1 (by rw[e]);simp[g1,this]
 by_cases g2:a.cap=b.cap
 case neg=>
  have:a≠b:=fun e=>g2 (by rw[e]);simp[g1,g2,this]
 by_cases g3:a.to=b.to
 case neg=>
  have:a≠b:=fun e=>g3 (by rw[e]);simp[g1,g2,g3,this]
 by_cases g4:a.cycle=b.cycle
 case neg=>
  have:a≠b:=fun e=>g4 (by rw[e]);have g4':(a.cycle==b.cycle)=false:=by simpa using g4
  simp[g1,g2,g3,g4,g4',this]
 by_cases g5:a.scan=b.scan
 case neg=>
  have:a≠b:=fun e=>g5 (by rw[e]);simp[g1,g2,g3,g4,g5,this]
 simp[g1,g2,g3,g4,g5];refine YM (fun(i:Nat)=> [(6,.v (vi ((i+1:Nat):Int)))]) (fun i=>i≤4∧(0<i→a.low=b.low)∧(1<i→a.high=b.high)∧(2<i→a.old=b.old)∧(3<i→a.far=b.far)) (cnt 6 5) 0 (by simp) (by simp) ?_;rintro i ⟨hi,i1,i2,i3,i4⟩;have hi':i=0∨i=1∨i=2∨i=3∨i=4:=by omega
 rcases hi' with rfl|rfl|rfl|rfl|rfl
 ·simp;refine Z0 (Wh (h:=⟨b.base,b.cap,b.to,b.cycle,b.scan,a.low,a.high,a.old,a.far,a.roots⟩) (n:=1)) (by simp[hpV]) ?_;simp;refine Z0 (Wh (h:=b) (n:=1)) (by simp[hpV]) ?_;simp;refine Z0 (Se (b:=b.low) (hp 1)) (by simp) ?_;by_cases hx:a.low=b.low
  ·simp[hx,Z1];exact⟨1,by simp[hx],by simp,by simp[cnt]⟩
  ·have:a≠b:=fun e=>hx (by rw[e]);simp[hx,this]
 ·simp;refine Z0 (Wh (h:=⟨b.base,b.cap,b.to,b.cycle,b.scan,a.low,a.high,a.old,a.far,a.roots⟩) (n:=2)) (by simp[hpV]) ?_;simp;refine Z0 (Wh (h:=b) (n:=2)) (by simp[hpV]) ?_;simp;refine Z0 (Se (b:=b.high) (hp 2)) (by simp) ?_;by_cases hx:a.high=b.high
  ·simp[hx,Z1];exact⟨2,by simp[hx,i1 (by omega)],by simp,by simp[cnt]⟩
  ·have:a≠b:=fun e=>hx (by rw[e]);simp[hx,this]
 ·simp;refine Z0 (Wh (h:=⟨b.base,b.cap,b.to,b.cycle,b.scan,a.low,a.high,a.old,a.far,a.roots⟩) (n:=3)) (by simp[hpV]) ?_;simp;refine Z0 (Wh (h:=b) (n:=3)) (by simp[hpV]) ?_;simp;refine Z0 (Se (b:=b.old) (hp 3)) (by simp) ?_;by_cases hx:a.old=b.old
  ·simp[hx,Z1];exact⟨3,by simp[hx,i1 (by omega),i2 (by omega)],by simp,by simp[cnt]⟩
  ·have:a≠b:=fun e=>hx (by rw[e]);simp[hx,this]
 ·simp;refine Z0 (Wh (h:=⟨b.base,b.cap,b.to,b.cycle,b.scan,a.low,a.high,a.old,a.far,a.roots⟩) (n:=4)) (by simp[hpV]) ?_;simp;refine Z0 (Wh (h:=b) (n:=4)) (by simp[hpV]) ?_;simp;refine Z0 (Se (b:=b.far) (hp 4)) (by simp) ?_;by_cases hx:a.far=b.far
  ·simp[hx,Z1];exact⟨4,by simp[hx,i1 (by omega),i2 (by omega),i3 (by omega)],by simp,by simp[cnt]⟩
  ·have:a≠b:=fun e=>hx (by rw[e]);simp[hx,this]
 ·simp;refine Z0 (Se (b:=b.roots) ha.roots) (by simp) ?_;by_cases hx:a.roots=b.roots
  ·have:a=b:=by
    have h1:=i1 (by omega);have h2:=i2 (by omega);have h3:=i3 (by omega);have h4:=i4 (by omega);obtain⟨_,_,_,_,_,_,_,_,_,_⟩:=a;obtain⟨_,_,_,_,_,_,_,_,_,_⟩:=b;simp only at g1 g2 g3 g4 g5 h1 h2 h3 h4 hx;subst g1 g2 g3 g4 g5 h1 h2 h3 h4 hx;rfl
   subst this;simp
  ·have:a≠b:=fun e=>hx (by rw[e]);simp[hx,this]
def pick(c n:Int):Int:=(if c<0 then-(c+1)else c) %n
theorem X1{c n:Int}(hn:0<n):0≤pick c n∧pick c n<n:=⟨Zc4 _ (by omega),ZbB _ hn⟩
theorem Vh{c n:Int}(hc:Fit c)(hn:0<n):VC Try.prog 37 false [vi c,vi n] (vi (pick c n)):=by
 refine Z6 Try.func37 follows (by kernel_rfl) c37 rfl ?_;obtain⟨h1,h2⟩:=hc;by_cases h:c<0
 ·simp[p37,h];simp(disch:=omega) only[Z1];refine⟨by omega,?_⟩;unfold pick;rw[if_pos h,Z9e (by omega)]
 ·simp[p37,h];refine⟨by omega,?_⟩;unfold pick;rw[if_neg h,Z9e (by omega)]
theorem Kx{c n:Int}(hc:Fit c)(hn:0<n):VC Try.prog 84 false [vi c,vi n] (vi (pick c n)):=by
 refine Z6 Try.func84 follows (by kernel_rfl) c84 rfl ?_;obtain⟨h1,h2⟩:=hc;by_cases h:c<0
 ·simp[p84,h];simp(disch:=omega) only[Z1];refine⟨by omega,?_⟩;unfold pick;rw[if_pos h,Z9e (by omega)]
 ·simp[p84,h];refine⟨by omega,?_⟩;unfold pick;rw[if_neg h,Z9e (by omega)]
end Vm
end
section
namespace Vm
open Go
open Go.Proofs
set_option maxRecDepth 100000
def p55:Fn:=⟨13,[0,1,4,5,6,7,16,8,9,30,10,78,97],
pQ [pR [(2,.m [pN,pN])],pR [pV 3 (.mn (.len (.s 0)) (pI 10))],pR [(4,.m [pN,pN])],pQ [pR [pV 5 (pI 0)]] (.block 0 (.loop [0,1,2,3,4,5] (pQ [pQ [pR [pV 6 (.bin .lss (.s 5) (.s 3))]] (.cond (.s 6) .skip (.exit 0)),.block 1 (pQ [pR [(7,.m [pN,pN])],pQ [pR [pV 8 (pI 0)]] (.block 2 (.loop [0,1,2,3,4,5,6,7,8] (pQ [pQ [.reg ⟨[.lt 13 [] (.bin .lss (.s 8) (.len (.fld (.idx (.s 0) (.s 5) 2) 0)))],[([(13,true)],.bin .lss (.s 8) (pI 4))],[pV 9 (.ite (.s 13) (.bin .lss (.s 8) (pI 4)) pF)]⟩] (.cond (.s 9) .skip (.exit 2)),.block 3 (pC [pK 14 84 [.fld (.idx (.fld (.idx (.s 0) (.s 5) 2) 0) (.s 8) 1) 0,.bin .add (.s 3) (pI 1)]] [(7,.m [.app (.m 7 0) (.lit [.bin .sub (.s 14) (pI 1)]) 1,.m 7 1])])] (pR [pV 8 (.bin .add (.s 8) (pI 1))])))),pR [(7,.m [.m 7 0,.app pN (.slc (.fld (.idx (.s 0) (.s 5) 2) 1) (pI 0) (.mn (.len (.fld (.idx (.s 0) (.s 5) 2) 1)) (pI 4)) 1) 1])]] (pR [(4,.m [.app (.m 4 0) (.lit [.mm 7 0 2]) 2,.m 4 1])]))] (pR [pV 5 (.bin .add (.s 5) (pI 1))])))),pQ [pR [pV 10 (pI 0)]] (.block 4 (.loop [0,1,2,3,4,5,6,10] (pQ [pQ [.reg ⟨[.lt 15 [] (.bin .lss (.s 10) (.len (.s 1)))],[([(15,true)],.bin .lss (.s 10) (pI 5))],[pV 11 (.ite (.s 15) (.bin .lss (.s 10) (pI 5)) pF)]⟩] (.cond (.s 11) .skip (.exit 4)),.block 5 (pC [pK 16 84 [.fld (.idx (.s 1) (.s 10) 1) 0,.bin .add (.s 3) (pI 1)]] [(4,.m [.m 4 0,.app (.m 4 1) (.lit [.bin .sub (.s 16) (pI 1)]) 1])])] (pR [pV 10 (.bin .add (.s 10) (pI 1))])))),pQ [pR [pV 12 (.bin .eql (.len (.m 4 1)) (pI 0))]] (.cond (.s 12) (pR [(4,.m [.m 4 0,.app (.m 4 1) (.lit [.bin .sub (.s 3) (pI 1)]) 1])]) .skip),pR [(2,pM (.mm 4 0 2) 2)]] .ret,[(2,(.ag 2))]⟩
theorem c55:Zc Try.prog fresh sig [.fz,.fz] [] Try.f55=some p55:=by kernel_rfl
def p56:Fn:=⟨10,[0,1,2,3,6,7,8,14,9,31],
pQ [pR [(3,pS 0 7),pV 4 (pI 0),pV 5 pF],pR [pV 6 (.s 1)],pQ [pR [pV 7 (.bin .gtr (.len (.m 3 2)) (pI 0))]] (.cond (.s 7) (pR [pV 6 (.fld (.idx (.m 3 2) (.bin .rem (.s 1) (.len (.m 3 2))) 1) 0)]) .skip),pC [pK 10 37 [.s 6,pI 3]] [pV 8 (.s 10)],pQ [.reg ⟨[.lt 11 [] (.bin .eql (.s 8) (pI 2))],[([(11,true)],.un .not (.s 2))],[pV 9 (.ite (.s 11) (.un .not (.s 2)) pF)]⟩] (.cond (.s 9) (pR [pV 8 (pI 1)]) .skip),pC [pK 12 37 [.bin .quo (.s 6) (pI 3),pI 2]] [pV 4 (.s 8),pV 5 (.bin .eql (.s 12) (pI 1))]] .ret,[(4,.v),(5,.v)]⟩
theorem c56:Zc Try.prog fresh sig [.fz,.fz,.fz] [] Try.f56=some p56:=by kernel_rfl
def p57:Fn:=⟨15,[0,1,2,3,4,5,6,8,9,10,11,12,44,13,76],
pQ [pR [(4,pS 0 14),(5,pS 1 2),(6,pS 2 2),(7,.m [pU 0,pI 0,pI 0,pF,pI 0,pN,pN,pN,pN,pN,pN,pN,pN,pN])],pC [pK 15 13 [.mm 4 0 10,.m 5 0]] [pV 8 (.app pN (.s 15) 1)],pC [pK 16 85 [.ag [.bin .add (.len (.m 6 0)) (.len (.m 6 1)),.len (.m 6 0)]]] [pV 9 (.ext (.s 16) 0),pV 10 (.ext (.s 16) 1)],.reg ⟨[],[([],.idx (.s 8) (.m 5 1) 1)],[pV 8 (.upd (.s 8) (.m 5 1) 0 (.one (.s 9)))]⟩,pQ [pR [pV 11 (pI 0)]] (.block 0 (.loop [0,1,2,3,4,5,6,7,8,9,10,11] (pQ [pQ [pR [pV 12 (.bin .lss (.s 11) (.len (.m 6 0)))]] (.cond (.s 12) .skip (.exit 0)),.block 1 (.reg ⟨[pK 17 86 [.mm 4 0 14,.ag [.m 5 0,.bin .add (.bin .add (.m 5 1) (pI 1)) (.s 11)],.fld (.idx (.m 6 0) (.s 11) 1) 0,.bin .add (.s 3) (.s 11)]],[([],.idx (.s 8) (.bin .add (.bin .add (.m 5 1) (pI 1)) (.s 11)) 1)],[pV 8 (.upd (.s 8) (.bin .add (.bin .add (.m 5 1) (pI 1)) (.s 11)) 0 (.one (.s 17)))]⟩)] (pR [pV 11 (.bin .add (.s 11) (pI 1))])))),pQ [pR [pV 13 (pI 0)]] (.block 2 (.loop [0,1,2,3,4,5,6,7,8,9,10,11,12,13] (pQ [pQ [pR [pV 14 (.bin .lss (.s 13) (.len (.m 6 1)))]] (.cond (.s 14) .skip (.exit 2)),.block 3 (.reg ⟨[],[([],.idx (.s 8) (.bin .add (.bin .add (.bin .add (.m 5 1) (pI 1)) (.len (.m 6 0))) (.s 13)) 1)],[pV 8 (.upd (.s 8) (.bin .add (.bin .add (.bin .add (.m 5 1) (pI 1)) (.len (.m 6 0))) (.s 13)) 0 (.fld (.idx (.m 6 1) (.s 13) 1) 0))]⟩)] (pR [pV 13 (.bin .add (.s 13) (pI 1))])))),pC [pK 18 12 [.mm 4 0 10,.m 5 0,.s 8]] [(4,.m [.fld (.sz (.s 18) 10) 0,.fld (.sz (.s 18) 10) 1,.fld (.sz (.s 18) 10) 2,.fld (.sz (.s 18) 10) 3,.fld (.sz (.s 18) 10) 4,.fld (.sz (.s 18) 10) 5,.fld (.sz (.s 18) 10) 6,.fld (.sz (.s 18) 10) 7,.fld (.sz (.s 18) 10) 8,.fld (.sz (.s 18) 10) 9,.m 4 10,.m 4 11,.m 4 12,.m 4 13])],pR [(7,pM (.mm 4 0 14) 14)]] .ret,[(7,(.ag 14))]⟩
theorem c57:Zc Try.prog fresh sig [.fz,.fz,.fz,.fz] [] Try.f57=some p57:=by kernel_rfl
def p58:Fn:=⟨10,[0,1,2,3,4,11,5,6,7,8],
pQ [pR [(2,pS 0 14),(3,pS 1 2),pV 4 (pU 0)],pQ [pR [pV 5 (.bin .eql (.m 3 0) (pI 0))]] (.cond (.s 5) (pQ [pR [pV 4 (pU 0)]] .ret) .skip),pC [pK 10 25 [.mm 2 0 10],pK 11 87 [.s 10,.mm 3 0 2]] [pV 6 (.ext (.s 11) 0),pV 7 (.ext (.s 11) 1)],pC [pK 12 88 [.s 6]] [pV 8 (.ext (.s 12) 0),pV 9 (.ext (.s 12) 1)],pR [pV 4 (.s 8)]] .ret,[(4,.v)]⟩
theorem c58:Zc Try.prog fresh sig [.fz,.fz] [] Try.f58=some p58:=by kernel_rfl
def p86:Fn:=⟨10,[0,1,2,3,4,5,8,10,13,54],
pQ [pR [(4,pS 0 14),(5,pS 1 2),pV 6 (pU 0)],pQ [pR [pV 7 (.bin .lss (.s 2) (pI 0))]] (.cond (.s 7) (pQ [pR [pV 6 (pU 0)]] .ret) .skip),pQ [pR [pV 8 (.bin .gtr (.m 5 0) (pI 2))]] (.cond (.s 8) (pQ [pC [pK 10 58 [.mm 4 0 14,.flds (.idx (.m 4 13) (.s 2) 2) 0 2]] [pV 6 (.s 10)]] .ret) .skip),pQ [.reg ⟨[.lt 11 [] (.bin .eql (.m 5 0) (pI 1)),.lt 12 [] (.ite (.s 11) (.bin .geq (.m 5 1) (.m 4 4)) pF),.lt 13 [(12,true)] (.bin .eql (.fld (.idx (.m 4 12) (.s 2) 2) 0) (pI 0)),.lt 14 [(12,true),(13,false)] (.bin .gtr (.fld (.idx (.m 4 13) (.s 2) 2) 0) (pI 0))],[([(11,true)],.bin .geq (.m 5 1) (.m 4 4)),([(12,true),(13,false),(14,true)],.bin .eql (.bin .rem (.s 3) (pI 2)) (pI 0)),([(12,true),(13,false)],.ite (.s 14) (.bin .eql (.bin .rem (.s 3) (pI 2)) (pI 0)) pF),([(12,true)],.ite (.s 13) pT (.ite (.s 14) (.bin .eql (.bin .rem (.s 3) (pI 2)) (pI 0)) pF))],[pV 9 (.ite (.s 12) (.ite (.s 13) pT (.ite (.s 14) (.bin .eql (.bin .rem (.s 3) (pI 2)) (pI 0)) pF)) pF)]⟩] (.cond (.s 9) (pQ [pC [pK 15 58 [.mm 4 0 14,.flds (.idx (.m 4 13) (.s 2) 2) 0 2]] [pV 6 (.s 15)]] .ret) .skip),pC [pK 16 58 [.mm 4 0 14,.flds (.idx (.m 4 12) (.s 2) 2) 0 2]] [pV 6 (.s 16)]] .ret,[(6,.v)]⟩
theorem c86:Zc Try.prog fresh sig [.fz,.fz,.fz,.fz] [] Try.f86=some p86:=by kernel_rfl
end Vm
end
section
namespace Vm
open Go Go.Proofs
set_option maxRecDepth 100000
structure Nd where
 ptrs:List Int
 data:List Int
 deriving DecidableEq,Inhabited
structure Gr where
 nodes:List Nd
 roots:List Int
 deriving DecidableEq,Inhabited
def ndV(n:Nd):V:= .agg [.sl (n.ptrs.map vi),.sl (n.data.map vu)]
def grV(g:Gr):V:= .agg [.sl (g.nodes.map ndV),.sl (g.roots.map vi)]
@[simp] theorem Z49(n:Nd):(ndV n).cells= [.sl (n.ptrs.map vi),.sl (n.data.map vu)]:=rfl
@[simp] theorem Z3Q(l:List Nd):Y7 2 (l.map ndV)=true:=Wx fun _=>rfl
@[simp] theorem Z4E(n:Nd):SJ (ndV n) 0 2=some (ndV n):=rfl
@[simp] theorem Z4z(n:Nd):fldV (ndV n) 0=some (.sl (n.ptrs.map vi)):=rfl
@[simp] theorem Z4i(n:Nd):fldV (ndV n) 1=some (.sl (n.data.map vu)):=rfl
@[simp] theorem Z7j(n:Nd):szV (ndV n) 2=some (ndV n):=rfl
@[simp] theorem Z4M(g:Gr):SJ (grV g) 0 2=some (grV g):=rfl
@[simp] theorem Z5W(g:Gr):fldV (grV g) 0=some (.sl (g.nodes.map ndV)):=rfl
@[simp] theorem Z58(g:Gr):fldV (grV g) 1=some (.sl (g.roots.map vi)):=rfl
@[simp] theorem Z74(g:Gr):szV (grV g) 2=some (grV g):=rfl
@[simp] theorem Z5e(g:Gr):(grV g).cells= [.sl (g.nodes.map ndV),.sl (g.roots.map vi)]:=rfl
@[simp] theorem Z4V{k:IntKind}{l:List V}(j n:Nat):slcV n (.sl l) (.int k 0) (.int k (j:Int))=if j≤l.length∧Y7 n l=true then some (.sl (l.take j))else none:=by
 have:=Z18 (k:=k) (l:=l) 0 j n;simpa using this
def rp(n:Nat)(p:Int):Int:=pick p (n+1) -1
def mkNd(n:Nat)(x:Nd):Nd:=⟨(x.ptrs.take 4).map (rp n),x.data.take 4⟩
def mkN(l:List Nd):Nat:=min l.length 10
def mkG(l:List Nd)(roots:List Int):Gr:=⟨(l.take (mkN l)).map (mkNd (mkN l)),if roots.take 5= []then [(mkN l:Int) -1]else(roots.take 5).map (rp (mkN l))⟩
theorem Z1Q{l:List Nd}{roots:List Int}(hl: ∀x∈l,∀p∈x.ptrs,Fit p)(hr: ∀p∈roots,Fit p):VC Try.prog 55 false [.sl (l.map ndV),.sl (roots.map vi)] (grV (mkG l roots)):=by
 refine Z6 Try.func55 follows (by kernel_rfl) c55 rfl ?_;have hn10:mkN l≤10:=by unfold mkN;omega
 have hnl:mkN l≤l.length:=by unfold mkN;omega
 have hmin:(if(10:Int) < (l.length:Int)then(10:Int)else(l.length:Int))=(mkN l:Int):=by
  unfold mkN;split<;>omega
 simp[p55,hmin];generalize hn:mkN l=n at*;have hwn:=Z1 ((n:Int)+1) (by omega) (by omega);refine QQ (fun t=> ∃i:Nat,i≤n∧t= [.v (.sl (l.map ndV)),.v (.sl (roots.map vi)),.m [.sl [],.sl []],.v (vi n),.m [.sl (((l.take i).map (mkNd n)).map ndV),.sl []],.v (vi i)]) (fun t=>match get t 5 with| .v (.int _ i)=>n-i.toNat|_=>0) ?_ ?_
 ·exact⟨0,by simp,by simp⟩
 ·rintro t ⟨i,hi,rfl⟩;have hw:=Z1 ((i:Int)+1) (by omega) (by omega);by_cases h:i<n
  ·have hil:i<l.length:=by omega
   have hx:l[i]? =some l[i]:=Z8n hil;simp[h];generalize hnd:l[i]=x at hx;have hxp: ∀p∈x.ptrs,Fit p:=hl x (Z8x hx);have hdm:(if(4:Int) < (x.data.length:Int)then(4:Int)else(x.data.length:Int))=((min x.data.length 4:Nat):Int):=by split<;>omega
   refine QQ (fun t=> ∃k:Nat,k≤x.ptrs.length∧k≤4∧t= [.v (.sl (l.map ndV)),.v (.sl (roots.map vi)),.m [.sl [],.sl []],.v (vi n),.m [.sl (((l.take i).map (mkNd n)).map ndV),.sl []],.v (vi i),.v (.bool true),.m [.sl (((x.ptrs.take k).map (rp n)).map vi),.sl []],.v (vi k)]) (fun t=>match get t 8 with| .v (.int _ i)=>4-i.toNat|_=>0) ?_ ?_
   ·exact⟨0,by simp,by simp,by simp⟩
   ·rintro t ⟨k,hk,hk4,rfl⟩;have hwk:=Z1 ((k:Int)+1) (by omega) (by omega);by_cases h4:k<x.ptrs.length∧k<4
    ·obtain⟨ha,hb⟩:=h4;have hp:x.ptrs[k]? =some x.ptrs[k]:=Z8n ha;have hkb:(k:Int) <4:=by omega
     simp[hil,hnd,ha,hkb,hwn];refine Z0 (Kx (hxp _ (Z8M ha)) (by omega)) (by simp) ?_;have hpl:=X1 (c:=x.ptrs[k]) (n:=(n:Int)+1) (by omega);have hwp:=Z1 (pick x.ptrs[k] ((n:Int)+1) -1) (by omega) (by omega);simp[hwk,hwp];refine⟨by simp[lim];omega,⟨k+1,by omega,by omega,?_,by simp⟩,by omega⟩;rw[Z9H,Z8D,hp];rfl
    ·have hend:(x.ptrs.take k)=x.ptrs.take 4:=by
      by_cases ha:k<x.ptrs.length
      ·have:k=4:=by omega
       rw[this]
      ·rw[Z9a (by omega),Z9a (by omega)]
     have hfin:(l.take (i+1)).map (ndV∘mkNd n)=(l.take i).map (ndV∘mkNd n)++ [V.agg [.sl ((x.ptrs.take k).map (vi∘rp n)),.sl ((x.data.take (min x.data.length 4)).map vu)]]:=by
      rw[Z9H,hx,Z9Q,hend]
      have hmd:x.data.take (min x.data.length 4)=x.data.take 4:=by
       by_cases hd:x.data.length≤4
       ·rw[Z9a (by omega),Z9a (by omega)]
       ·congr 1;omega
      rw[hmd];simp[ndV,mkNd]
     have hsz:Y7 1 ((x.data.take (min x.data.length 4)).map vu)=true:=WQ _;have hl1:min x.data.length 4≤lim:=by simp[lim];omega
     have hl2:min i l.length+1≤lim:=by simp[lim];omega
     have hl3:min x.data.length 4≤x.data.length:=by omega
     simp only[List.map_take]at hfin hsz;have hkb:k<x.ptrs.length→ ¬(k:Int) <4:=by omega
     by_cases ha:k<x.ptrs.length
     all_goals (
      simp[hil,hnd,ha,hkb,hdm,hl1,hl2,hsz,hw,hl3];exact⟨⟨i+1,by omega,hfin.symm,by simp⟩,by omega⟩)
  ·have:i=n:=by omega
   subst this;simp;have hwn1:=Z1 ((i:Int) -1) (by omega) (by omega);refine QQ (fun t=> ∃k:Nat,k≤roots.length∧k≤5∧t= [.v (.sl (l.map ndV)),.v (.sl (roots.map vi)),.m [.sl [],.sl []],.v (vi i),.m [.sl ((l.take i).map (ndV∘mkNd i)),.sl ((roots.take k).map (vi∘rp i))],.v (vi i),.v (.bool false),.no,.no,.no,.v (vi k)]) (fun t=>match get t 10 with| .v (.int _ i)=>5-i.toNat|_=>0) ?_ ?_
   ·exact⟨0,by simp,by simp,by simp⟩
   ·rintro t ⟨k,hk,hk5,rfl⟩;have hwk:=Z1 ((k:Int)+1) (by omega) (by omega);by_cases h5:k<roots.length∧k<5
    ·obtain⟨ha,hb⟩:=h5;have hp:roots[k]? =some roots[k]:=Z8n ha;have hkb:(k:Int) <5:=by omega
     simp[ha,hkb,hwn];refine Z0 (Kx (hr _ (Z8M ha)) (by omega)) (by simp) ?_;have hpl:=X1 (c:=roots[k]) (n:=(i:Int)+1) (by omega);have hwp:=Z1 (pick roots[k] ((i:Int)+1) -1) (by omega) (by omega);simp[hwk,hwp];refine⟨by simp[lim];omega,⟨k+1,by omega,by omega,?_,by simp⟩,by omega⟩;rw[Z9H,Z8D,hp];rfl
    ·have hend:(roots.take k)=roots.take 5:=by
      by_cases ha:k<roots.length
      ·have:k=5:=by omega
       rw[this]
      ·rw[Z9a (by omega),Z9a (by omega)]
     have hkb:k<roots.length→ ¬(k:Int) <5:=by omega
     have hg:mkG l roots=⟨(l.take i).map (mkNd i),if roots.take 5= []then [(i:Int) -1]else(roots.take 5).map (rp i)⟩:=by
      unfold mkG;rw[hn]
     have hlen:(roots.take k).length=k:=by rw[Z9N];omega
     by_cases hz:k=0
     ·subst hz;have hnil:roots.take 5= []:=by rw[←hend];rfl
      rw[hg,if_pos hnil];have ha: ¬0<roots.length:=by omega
      have hl1:1≤lim:=by simp[lim]
      simp[ha,grV,hwn1,hl1]
     ·have hnil:roots.take 5≠ []:=by
       rw[←hend];intro h;rw[h]at hlen;simp at hlen;omega
      rw[hg,if_neg hnil,←hend];have hr0: ¬roots= []:=by intro h;rw[h]at hk;simp at hk;omega
      by_cases ha:k<roots.length
      all_goals simp[ha,hkb,grV,hz,hr0]
theorem Z5c{n:Nat}{p:Int}: -1≤rp n p∧rp n p<n:=by
 have:=X1 (c:=p) (n:=(n:Int)+1) (by omega);unfold rp;omega
theorem Uy(l:List Nd)(roots:List Int):(mkG l roots).nodes.length=mkN l:=by
 simp[mkG,mkN]
theorem UL(l:List Nd)(roots:List Int):mkN l≤10∧(mkG l roots).roots.length≤5∧ ∀x∈(mkG l roots).nodes,x.ptrs.length≤4∧x.data.length≤4:=by
 refine⟨by unfold mkN;omega,?_,fun x hx=> ?_⟩
 ·simp only[mkG];split
  ·simp
  ·simp;omega
 ·simp only[mkG,Z8S]at hx;obtain⟨y,_,rfl⟩:=hx;simp only[mkNd,Z8P,Z9N];omega
end Vm
end
section
namespace Vm
open Go
open Go.Proofs
set_option maxRecDepth 100000
def p14:Fn:=⟨5,[0,1,2,3,10],
pQ [pR [(1,pS 0 7),(2,pZ)],pC [pK 5 35 [.mm 1 0 7,pT]] [(3,pS 5 14)],pQ [pR [pV 4 (.bin .eql (.len (.m 3 5)) (pI 0))]] (.cond (.s 4) (pQ [pC [pK 6 15 [.mm 1 0 7]] [(2,pS 6 10)]] .ret) .skip),pC [pK 7 36 [.mm 3 0 14,.mm 1 0 7]] [(2,pS 7 10)]] .ret,[(2,(.ag 10))]⟩
theorem c14:Zc Try.prog fresh sig [.fz] [] Try.f14=some p14:=by kernel_rfl
def p15:Fn:=⟨3,[0,1,2],
pQ [pR [(1,pS 0 7),(2,pZ)],pC [pK 3 35 [.mm 1 0 7,pF],pK 4 36 [.s 3,.mm 1 0 7]] [(2,pS 4 10)]] .ret,[(2,(.ag 10))]⟩
theorem c15:Zc Try.prog fresh sig [.fz] [] Try.f15=some p15:=by kernel_rfl
def p35:Fn:=⟨19,[0,1,2,4,5,6,7,8,26,9,10,11,12,13,57,81,14,82,165],
pQ [pR [(2,pS 0 7),(3,.m [pU 0,pI 0,pI 0,pF,pI 0,pN,pN,pN,pN,pN,pN,pN,pN,pN])],.reg ⟨[pK 19 55 [.m 2 0,.m 2 1]],[([],.ag [pU 0,pI 0,pI 0,pF,pI 0,pN,pN,pN,pN,pN,.fld (.sz (.s 19) 2) 0,.fld (.sz (.s 19) 2) 1,pN,pN])],[(4,.m [pU 0,pI 0,pI 0,pF,pI 0,pN,pN,pN,pN,pN,.fld (.sz (.s 19) 2) 0,.fld (.sz (.s 19) 2) 1,pN,pN])]⟩,pR [(5,.m [pI 0,pI 0,pI 0,pI 0,pI 0])],pR [pV 6 (pI 0)],pQ [pR [pV 7 (pI 0)]] (.block 0 (.loop [0,1,2,3,4,5,6,7] (pQ [pQ [pR [pV 8 (.bin .lss (.s 7) (.len (.m 4 10)))]] (.cond (.s 8) .skip (.exit 0)),.block 1 (pQ [pC [pK 20 56 [.mm 2 0 7,.s 7,.s 1]] [pV 9 (.ext (.s 20) 0),pV 10 (.ext (.s 20) 1)],pR [pV 11 (.bin .add (.bin .add (pI 1) (.len (.fld (.idx (.m 4 10) (.s 7) 2) 0))) (.len (.fld (.idx (.m 4 10) (.s 7) 2) 1)))],pR [(12,.m [.fld (.ag [pI 0,pI 0]) 0,.fld (.ag [pI 0,pI 0]) 1])],pR [(13,.m [.fld (.ag [pI 0,pI 0]) 0,.fld (.ag [pI 0,pI 0]) 1])],pQ [pR [pV 14 (.bin .lss (.s 9) (pI 2))]] (.cond (.s 14) (pQ [.reg ⟨[],[([],.ai (.c (.agg [(.bool true),(.bool true),(.bool true),(.bool true),(.bool true)])) (.bin .sub (pI 2) (.s 9)) 5 1 false)],[(12,.m [.fld (.ag [.bin .sub (pI 2) (.s 9),.one (.ai (.mm 5 0 5) (.bin .sub (pI 2) (.s 9)) 5 1 false)]) 0,.fld (.ag [.bin .sub (pI 2) (.s 9),.one (.ai (.mm 5 0 5) (.bin .sub (pI 2) (.s 9)) 5 1 false)]) 1])]⟩] (.reg ⟨[],[([],.ai (.c (.agg [(.bool true),(.bool true),(.bool true),(.bool true),(.bool true)])) (.bin .sub (pI 2) (.s 9)) 5 1 false)],[(5,pM (.aput (.mm 5 0 5) (.bin .sub (pI 2) (.s 9)) 5 1 (.bin .add (.ai (.mm 5 0 5) (.bin .sub (pI 2) (.s 9)) 5 1 false) (.s 11))) 5)]⟩)) (pR [pV 6 (.bin .add (.s 6) (.s 11))])),pQ [pC [.lt 21 [] (.bin .gtr (.s 9) (pI 0))] [pV 15 (.ite (.s 21) (.s 1) pF)]] (.cond (.s 15) (pQ [pR [pV 16 (pI 3)],pQ [pR [pV 17 (.s 10)]] (.cond (.s 17) (pR [pV 16 (pI 4)]) .skip),.reg ⟨[],[([],.ai (.c (.agg [(.bool true),(.bool true),(.bool true),(.bool true),(.bool true)])) (.s 16) 5 1 false)],[(13,.m [.fld (.ag [.one (.s 16),.one (.ai (.mm 5 0 5) (.s 16) 5 1 false)]) 0,.fld (.ag [.one (.s 16),.one (.ai (.mm 5 0 5) (.s 16) 5 1 false)]) 1])]⟩] (.reg ⟨[],[([],.ai (.c (.agg [(.bool true),(.bool true),(.bool true),(.bool true),(.bool true)])) (.s 16) 5 1 false)],[(5,pM (.aput (.mm 5 0 5) (.s 16) 5 1 (.bin .add (.ai (.mm 5 0 5) (.s 16) 5 1 false) (.s 11))) 5)]⟩)) .skip),pR [(4,.m [.m 4 0,.m 4 1,.m 4 2,.m 4 3,.m 4 4,.m 4 5,.m 4 6,.m 4 7,.m 4 8,.m 4 9,.m 4 10,.m 4 11,.app (.m 4 12) (.lit [.mm 12 0 2]) 2,.m 4 13])]] (pR [(4,.m [.m 4 0,.m 4 1,.m 4 2,.m 4 3,.m 4 4,.m 4 5,.m 4 6,.m 4 7,.m 4 8,.m 4 9,.m 4 10,.m 4 11,.m 4 12,.app (.m 4 13) (.lit [.mm 13 0 2]) 2])]))] (pR [pV 7 (.bin .add (.s 7) (pI 1))])))),.reg ⟨[pK 22 37 [.m 2 6,pI 2]],[([],.ai (.c (.agg [(.bool true),(.bool true),(.bool true),(.bool true),(.bool true)])) (pI 1) 5 1 false),([],.ai (.c (.agg [(.bool true),(.bool true),(.bool true),(.bool true),(.bool true)])) (pI 2) 5 1 false),([],.ai (.c (.agg [(.bool true),(.bool true),(.bool true),(.bool true),(.bool true)])) (pI 3) 5 1 false),([],.ai (.c (.agg [(.bool true),(.bool true),(.bool true),(.bool true),(.bool true)])) (pI 4) 5 1 false),([],.ag [pU 0,pI 0,.one (.s 22),.one (.s 1),pI 0,.mk (.int .u64 0) (.ai (.mm 5 0 5) (pI 1) 5 1 false),.mk (.int .u64 0) (.ai (.mm 5 0 5) (pI 2) 5 1 false),.mk (.int .u64 0) (.ai (.mm 5 0 5) (pI 3) 5 1 false),.mk (.int .u64 0) (.ai (.mm 5 0 5) (pI 4) 5 1 false),pN])],[(4,.m [pU 0,pI 0,.one (.s 22),.one (.s 1),pI 0,.mk (.int .u64 0) (.ai (.mm 5 0 5) (pI 1) 5 1 false),.mk (.int .u64 0) (.ai (.mm 5 0 5) (pI 2) 5 1 false),.mk (.int .u64 0) (.ai (.mm 5 0 5) (pI 3) 5 1 false),.mk (.int .u64 0) (.ai (.mm 5 0 5) (pI 4) 5 1 false),pN,.m 4 10,.m 4 11,.m 4 12,.m 4 13])]⟩,.reg ⟨[pK 23 37 [.m 2 4,pI 12]],[([],.ai (.c (.agg [(.bool true),(.bool true),(.bool true),(.bool true),(.bool true)])) (pI 1) 5 1 false),([],.ai (.c (.agg [(.bool true),(.bool true),(.bool true),(.bool true),(.bool true)])) (pI 2) 5 1 false),([],.ai (.c (.agg [(.bool true),(.bool true),(.bool true),(.bool true),(.bool true)])) (pI 3) 5 1 false),([],.ai (.c (.agg [(.bool true),(.bool true),(.bool true),(.bool true),(.bool true)])) (pI 4) 5 1 false)],[(4,.m [.m 4 0,.bin .add (.mx (.bin .add (.bin .add (.ai (.mm 5 0 5) (pI 1) 5 1 false) (.ai (.mm 5 0 5) (pI 2) 5 1 false)) (.s 6)) (.bin .add (.ai (.mm 5 0 5) (pI 3) 5 1 false) (.ai (.mm 5 0 5) (pI 4) 5 1 false))) (.s 23),.m 4 2,.m 4 3,.m 4 4,.m 4 5,.m 4 6,.m 4 7,.m 4 8,.m 4 9,.m 4 10,.m 4 11,.m 4 12,.m 4 13])]⟩,pR [(4,.m [.bin .add (pU 1) (.bin .rem (.m 2 3) (.bin .sub (pU 9223372036854775808) (.bin .mul (pU 2) (.conv .u64 (.m 4 1))))),.m 4 1,.m 4 2,.m 4 3,.m 4 4,.m 4 5,.m 4 6,.m 4 7,.m 4 8,.m 4 9,.m 4 10,.m 4 11,.m 4 12,.m 4 13])],.reg ⟨[],[([],.ai (.c (.agg [(.bool true),(.bool true),(.bool true),(.bool true),(.bool true)])) (pI 1) 5 1 false)],[(4,.m [.m 4 0,.m 4 1,.m 4 2,.m 4 3,.one (.ai (.mm 5 0 5) (pI 1) 5 1 false),.m 4 5,.m 4 6,.m 4 7,.m 4 8,.m 4 9,.m 4 10,.m 4 11,.m 4 12,.m 4 13])]⟩,pQ [.reg ⟨[.lt 24 [] (.s 1)],[([(24,true)],.ai (.c (.agg [(.bool true),(.bool true),(.bool true),(.bool true),(.bool true)])) (pI 1) 5 1 false),([(24,true)],.bin .gtr (.ai (.mm 5 0 5) (pI 1) 5 1 false) (pI 0))],[pV 18 (.ite (.s 24) (.bin .gtr (.ai (.mm 5 0 5) (pI 1) 5 1 false) (pI 0)) pF)]⟩] (.cond (.s 18) (.reg ⟨[pK 25 37 [.m 2 5,.ai (.mm 5 0 5) (pI 1) 5 1 false]],[([],.ai (.c (.agg [(.bool true),(.bool true),(.bool true),(.bool true),(.bool true)])) (pI 1) 5 1 false)],[(4,.m [.m 4 0,.m 4 1,.m 4 2,.m 4 3,.one (.s 25),.m 4 5,.m 4 6,.m 4 7,.m 4 8,.m 4 9,.m 4 10,.m 4 11,.m 4 12,.m 4 13])]⟩) .skip),pR [(3,pM (.mm 4 0 14) 14)]] .ret,[(3,(.ag 14))]⟩
theorem c35:Zc Try.prog fresh sig [.fz,.fz] [] Try.f35=some p35:=by kernel_rfl
def p36:Fn:=⟨17,[0,1,2,3,4,5,16,6,31,59,83,7,8,9,125,10,134],
pQ [pR [(2,pS 0 14),(3,pS 1 7),(4,pZ)],pQ [pR [pV 5 (pI 0)]] (.block 0 (.loop [0,1,2,3,4,5] (pQ [pQ [pR [pV 6 (.bin .lss (.s 5) (.len (.m 2 10)))]] (.cond (.s 6) .skip (.exit 0)),.block 1 (pQ [pR [(7,pM (.flds (.idx (.m 2 10) (.s 5) 2) 0 2) 2)],pQ [pR [pV 8 (.bin .gtr (.fld (.idx (.m 2 12) (.s 5) 2) 0) (pI 0))]] (.cond (.s 8) (pC [pK 17 57 [.mm 2 0 14,.flds (.idx (.m 2 12) (.s 5) 2) 0 2,.mm 7 0 2,.bin .add (.m 3 4) (.s 5)]] [(2,pS 17 14)]) .skip),pQ [.reg ⟨[.lt 18 [] (.bin .gtr (.fld (.idx (.m 2 13) (.s 5) 2) 0) (pI 0))],[([(18,true)],.bin .eql (.fld (.idx (.m 2 12) (.s 5) 2) 0) (pI 0))],[pV 9 (.ite (.s 18) (.bin .eql (.fld (.idx (.m 2 12) (.s 5) 2) 0) (pI 0)) pF)]⟩] (.cond (.s 9) (pC [pK 19 57 [.mm 2 0 14,.flds (.idx (.m 2 13) (.s 5) 2) 0 2,.mm 7 0 2,pI 0]] [(2,pS 19 14)]) .skip),.reg ⟨[.lt 20 [] (.bin .gtr (.fld (.idx (.m 2 13) (.s 5) 2) 0) (pI 0))],[([(20,true)],.bin .gtr (.fld (.idx (.m 2 12) (.s 5) 2) 0) (pI 0))],[pV 10 (.ite (.s 20) (.bin .gtr (.fld (.idx (.m 2 12) (.s 5) 2) 0) (pI 0)) pF)]⟩] (.cond (.s 10) (pQ [pC [pK 21 13 [.mm 2 0 10,.fld (.idx (.m 2 13) (.s 5) 2) 0]] [pV 11 (.app pN (.s 21) 1)],.reg ⟨[pK 22 58 [.mm 2 0 14,.flds (.idx (.m 2 12) (.s 5) 2) 0 2]],[([],.idx (.s 11) (.fld (.idx (.m 2 13) (.s 5) 2) 1) 1)],[pV 11 (.upd (.s 11) (.fld (.idx (.m 2 13) (.s 5) 2) 1) 0 (.one (.s 22)))]⟩] (pC [pK 23 12 [.mm 2 0 10,.fld (.idx (.m 2 13) (.s 5) 2) 0,.s 11]] [(2,.m [.fld (.sz (.s 23) 10) 0,.fld (.sz (.s 23) 10) 1,.fld (.sz (.s 23) 10) 2,.fld (.sz (.s 23) 10) 3,.fld (.sz (.s 23) 10) 4,.fld (.sz (.s 23) 10) 5,.fld (.sz (.s 23) 10) 6,.fld (.sz (.s 23) 10) 7,.fld (.sz (.s 23) 10) 8,.fld (.sz (.s 23) 10) 9,.m 2 10,.m 2 11,.m 2 12,.m 2 13])])) .skip))] (pR [pV 5 (.bin .add (.s 5) (pI 1))])))),pR [pV 12 pN],pQ [pR [pV 13 (pI 0)]] (.block 2 (.loop [0,1,2,3,4,5,6,12,13] (pQ [pQ [pR [pV 14 (.bin .lss (.s 13) (.len (.m 2 11)))]] (.cond (.s 14) .skip (.exit 2)),.block 3 (pQ [pR [pV 15 (pU 0)],pQ [pR [pV 16 (.bin .geq (.fld (.idx (.m 2 11) (.s 13) 1) 0) (pI 0))]] (.cond (.s 16) (pC [pK 24 58 [.mm 2 0 14,.flds (.idx (.m 2 12) (.fld (.idx (.m 2 11) (.s 13) 1) 0) 2) 0 2]] [pV 15 (.s 24)]) .skip)] (pR [pV 12 (.app (.s 12) (.lit [.one (.s 15)]) 1)]))] (pR [pV 13 (.bin .add (.s 13) (pI 1))])))),pR [(2,.m [.m 2 0,.m 2 1,.m 2 2,.m 2 3,.m 2 4,.m 2 5,.m 2 6,.m 2 7,.m 2 8,.one (.s 12),.m 2 10,.m 2 11,.m 2 12,.m 2 13])],pR [(4,pM (.mm 2 0 10) 10)]] .ret,[(4,(.ag 10))]⟩
theorem c36:Zc Try.prog fresh sig [.fz,.fz] [] Try.f36=some p36:=by kernel_rfl
end Vm
end
section
namespace Vm
open Go Go.Proofs
set_option maxRecDepth 100000
set_option maxHeartbeats 1000000
structure Pl where
 part:Int
 at_:Int
 deriving DecidableEq,Inhabited
def plV(p:Pl):V:= .agg [vi p.part,vi p.at_]
@[simp] theorem Z4P(p:Pl):(plV p).cells= [vi p.part,vi p.at_]:=rfl
@[simp] theorem Z3X(p:Pl):SJ (plV p) 0 2=some (plV p):=rfl
@[simp] theorem Z52(p:Pl):fldV (plV p) 0=some (vi p.part):=rfl
@[simp] theorem Z4Q(p:Pl):fldV (plV p) 1=some (vi p.at_):=rfl
@[simp] theorem Z6X(p:Pl):szV (plV p) 2=some (plV p):=rfl
@[simp] theorem Z3V(l:List Pl):Y7 2 (l.map plV)=true:=Wx fun _=>rfl
structure Rw where
 nodes:List Nd
 roots:List Int
 cls:List Int
 base:Int
 slack:Int
 scan:Int
 to:Int
 deriving Inhabited
def rwV(x:Rw):V:= .agg [.sl (x.nodes.map ndV),.sl (x.roots.map vi),.sl (x.cls.map vi),vu x.base,vi x.slack,vi x.scan,vi x.to]
@[simp] theorem Z7t(x:Rw):szV (rwV x) 7=some (rwV x):=rfl
@[simp] theorem Z4n(x:Rw):(rwV x).cells= [.sl (x.nodes.map ndV),.sl (x.roots.map vi),.sl (x.cls.map vi),vu x.base,vi x.slack,vi x.scan,vi x.to]:=rfl
@[simp] theorem Z5d(x:Rw):fldV (rwV x) 0=some (.sl (x.nodes.map ndV)):=rfl
@[simp] theorem Z61(x:Rw):fldV (rwV x) 1=some (.sl (x.roots.map vi)):=rfl
@[simp] theorem Z51(x:Rw):fldV (rwV x) 2=some (.sl (x.cls.map vi)):=rfl
@[simp] theorem Z4Y(x:Rw):fldV (rwV x) 3=some (vu x.base):=rfl
@[simp] theorem Z4B(x:Rw):fldV (rwV x) 4=some (vi x.slack):=rfl
@[simp] theorem Z45(x:Rw):fldV (rwV x) 5=some (vi x.scan):=rfl
@[simp] theorem Z57(x:Rw):fldV (rwV x) 6=some (vi x.to):=rfl
structure Rw.ok (x:Rw):Prop where
 ptrs: ∀n∈x.nodes,∀p∈n.ptrs,Fit p
 data: ∀n∈x.nodes,∀p∈n.data,U64 p
 roots: ∀p∈x.roots,Fit p
 cls: ∀p∈x.cls,Fit p
 base:U64 x.base
 slack:Fit x.slack
 scan:Fit x.scan
 to:Fit x.to
def rawC(x:Rw)(i:Nat):Int:=if x.cls.length=0 then i else(x.cls[i%x.cls.length]?).getD 0
def clsK(x:Rw)(i:Nat)(cycle:Bool):Int:=if pick (rawC x i) 3=2∧cycle=false then 1 else pick (rawC x i) 3
def clsF(x:Rw)(i:Nat):Bool:=decide (pick ((rawC x i).tdiv 3) 2=1)
theorem YB(x:Rw)(i:Nat)(cycle:Bool):clsK x i cycle=0∨clsK x i cycle=1∨(clsK x i cycle=2∧cycle=true):=by
 have:=X1 (c:=rawC x i) (n:=3) (by omega);unfold clsK;split
 ·exact .inr (.inl rfl)
 ·rename_i h;cases cycle
  ·simp at h;omega
  ·simp;omega
theorem Z2i{x:Rw}(hx:x.ok){i:Nat}(hi:i≤1000){cycle:Bool}:VC Try.prog 56 false [rwV x,vi i,.bool cycle] (.tup [vi (clsK x i cycle),.bool (clsF x i)]):=by
 refine Z6 Try.func56 follows (by kernel_rfl) c56 rfl ?_
 have hc:Fit (rawC x i):=by
  unfold rawC;split
  ·exact⟨by omega,by omega⟩
  ·rename_i h;have:i%x.cls.length<x.cls.length:=Zca _ (by omega);rw[Z8n this];exact hx.cls _ (Z8M this)
 have hp3:=Vh (c:=rawC x i) (n:=3) hc (by omega)
 have hd:Fit ((rawC x i).tdiv 3):=by
  obtain⟨h1,h2⟩:=hc;unfold Fit;rw[Int.tdiv_eq_ediv];have:Int.sign 3=1:=rfl;split<;>omega
 have hwd:=Z1 _ hd.1 hd.2;have hp2:=Vh (c:=(rawC x i).tdiv 3) (n:=2) hd (by omega);have fin: ∀(b:Bool),(decide (pick ((rawC x i).tdiv 3) 2=1)=b)→clsF x i=b:=fun b h=>h;by_cases hl:x.cls.length=0
 ·have hr:rawC x i=i:=by simp[rawC,hl]
  rw[hr]at hp3 hp2 hwd;rw[Zbv (by omega)]at hp2 hwd;simp[p56,hl];refine Z0 hp3 (by simp) ?_;by_cases h2:pick (i:Int) 3=2
  ·cases cycle
   ·simp[h2,hwd];refine Z0 hp2 (by simp) ?_;simp[clsK,clsF,hr,h2]
   ·simp[h2,hwd];refine Z0 hp2 (by simp) ?_;simp[clsK,clsF,hr,h2]
  ·simp[h2,hwd];refine Z0 hp2 (by simp) ?_;simp[clsK,clsF,hr,h2]
 ·have hlt:i%x.cls.length<x.cls.length:=Zca _ (by omega);have hg:x.cls[i%x.cls.length]? =some x.cls[i%x.cls.length]:=Z8n hlt;have hr:rawC x i=x.cls[i%x.cls.length]:=by simp[rawC,hl,hg]
  have hm:(i:Int).tmod (x.cls.length:Int)=((i%x.cls.length:Nat):Int):=by
   rw[Z9e (by omega)];rfl
  rw[hr]at hp3 hp2 hwd;have h0:0<x.cls.length:=by omega
  have hne:x.cls≠ []:=fun e=>by rw[e]at h0;simp at h0
  have hm':((i:Int) % (x.cls.length:Int))=((i%x.cls.length:Nat):Int):=rfl;generalize hcc:x.cls[i%x.cls.length]=c at*;generalize hii:i%x.cls.length=j at*;simp[p56,h0,hne,hm,hlt,hcc];refine Z0 hp3 (by simp) ?_;by_cases h2:pick c 3=2
  ·cases cycle
   ·simp[h2,hwd];refine Z0 hp2 (by simp) ?_;simp[clsK,clsF,hr,h2]
   ·simp[h2,hwd];refine Z0 hp2 (by simp) ?_;simp[clsK,clsF,hr,h2]
  ·simp[h2,hwd];refine Z0 hp2 (by simp) ?_;simp[clsK,clsF,hr,h2]
def sizN(n:Nd):Nat:=1+n.ptrs.length+n.data.length
structure St8 where
 n1:Nat
 n2:Nat
 n3:Nat
 n4:Nat
 wt:Nat
 here:List Pl
 old:List Pl
def ZN(x:Rw)(cycle:Bool)(sz:Nat)(i:Nat)(s:St8):St8:=
 let k:=clsK x i cycle
 let far:=clsF x i
 let o:Bool:=decide (0<k)&&cycle
 {n1:=if k=1 then s.n1+sz else s.n1
  n2:=if k=0 then s.n2+sz else s.n2
  n3:=if o&& !far then s.n3+sz else s.n3
  n4:=if o&&far then s.n4+sz else s.n4
  wt:=if k=2 then s.wt+sz else s.wt
  here:=s.here++ [if k=0 then⟨2,s.n2⟩else if k=1 then⟨1,s.n1⟩else⟨0,0⟩]
  old:=s.old++ [if o then(if far then⟨4,s.n4⟩else⟨3,s.n3⟩)else⟨0,0⟩]}
def stN(x:Rw)(cycle:Bool)(g:Gr):Nat→St8
 |0=>⟨0,0,0,0,0,[],[]⟩
 |i+1=>ZN x cycle (sizN ((g.nodes[i]?).getD default)) i (stN x cycle g i)
theorem Jb{x:Rw}{cycle:Bool}{sz i:Nat}(hs:sz≤9)(s:St8)(h1:s.n1+s.n2+s.wt≤9*i)(h2:s.n3+s.n4≤9*i)(h3:s.here.length=i)(h4:s.old.length=i):
  (ZN x cycle sz i s).n1+(ZN x cycle sz i s).n2+(ZN x cycle sz i s).wt≤9*(i+1)∧(ZN x cycle sz i s).n3+(ZN x cycle sz i s).n4≤9*(i+1)∧(ZN x cycle sz i s).here.length=i+1∧(ZN x cycle sz i s).old.length=i+1:=by
 rcases YB x i cycle with hk|hk| ⟨hk,rfl⟩
 ·simp[ZN,hk,h3,h4];omega
 ·cases cycle<;>cases hf:clsF x i<;>simp[ZN,hk,hf,h3,h4]<;>omega
 ·cases hf:clsF x i<;>simp[ZN,hk,hf,h3,h4]<;>omega
theorem WT{x:Rw}{cycle:Bool}{g:Gr}(hg: ∀n∈g.nodes,sizN n≤9): ∀i,i≤g.nodes.length→(stN x cycle g i).n1+(stN x cycle g i).n2+(stN x cycle g i).wt≤9*i∧(stN x cycle g i).n3+(stN x cycle g i).n4≤9*i∧(stN x cycle g i).here.length=i∧(stN x cycle g i).old.length=i
 |0,_=>by simp[stN]
 |i+1,hi=>by
  obtain⟨h1,h2,h3,h4⟩:=WT (x:=x) (cycle:=cycle) hg i (by omega);have hn:=hg _ (Z8M (show i<g.nodes.length by omega));simp only[stN,Z8n (show i<g.nodes.length by omega),Z91];exact Jb hn _ h1 h2 h3 h4
structure Bt where
 h:Hp
 g:Gr
 here:List Pl
 old:List Pl
def btC(b:Bt):List V:= [vu b.h.base,vi b.h.cap,vi b.h.to,.bool b.h.cycle,vi b.h.scan,.sl (b.h.low.map vu),.sl (b.h.high.map vu),.sl (b.h.old.map vu),.sl (b.h.far.map vu),.sl (b.h.roots.map vu),.sl (b.g.nodes.map ndV),.sl (b.g.roots.map vi),.sl (b.here.map plV),.sl (b.old.map plV)]
def btV(b:Bt):V:= .agg [vu b.h.base,vi b.h.cap,vi b.h.to,.bool b.h.cycle,vi b.h.scan,.sl (b.h.low.map vu),.sl (b.h.high.map vu),.sl (b.h.old.map vu),.sl (b.h.far.map vu),.sl (b.h.roots.map vu),.sl (b.g.nodes.map ndV),.sl (b.g.roots.map vi),.sl (b.here.map plV),.sl (b.old.map plV)]
def Zw(x:Rw)(cycle:Bool):Bt:=
 let g:=mkG x.nodes x.roots
 let s:=stN x cycle g g.nodes.length
 let cap:Int:=max ((s.n1:Int)+s.n2+s.wt) ((s.n3:Int)+s.n4)+pick x.slack 12
 ⟨⟨1+x.base% (9223372036854775808-2*cap),cap,pick x.to 2,cycle,if cycle=true∧0<s.n1 then pick x.scan s.n1 else s.n1,List.replicate s.n1 0,List.replicate s.n2 0,List.replicate s.n3 0,List.replicate s.n4 0,[]⟩,g,s.here,s.old⟩
theorem yr{x:Rw}(hx:x.ok){cycle:Bool}:VC Try.prog 35 false [rwV x,.bool cycle] (btV (Zw x cycle)):=by
 refine Z6 Try.func35 follows (by kernel_rfl) c35 rfl ?_;simp[p35];refine Z0 (Z1Q hx.ptrs hx.roots) (by simp) ?_;obtain⟨hb1,hb2,hb3⟩:=UL x.nodes x.roots;have hb5:=Uy x.nodes x.roots;unfold Zw;generalize mkG x.nodes x.roots=g at*;have hsz: ∀n∈g.nodes,sizN n≤9:=fun n hn=>by have:=hb3 n hn;unfold sizN;omega
 simp
 refine Xg 7 g.nodes.length (fun i=> [(4,.m [.int .u64 0,.int .i64 0,.int .i64 0,.bool false,.int .i64 0,.sl [],.sl [],.sl [],.sl [],.sl [],.sl (g.nodes.map ndV),.sl (g.roots.map vi),.sl ((stN x cycle g i).here.map plV),.sl ((stN x cycle g i).old.map plV)]),
  (5,.m [vi 0,vi (stN x cycle g i).n1,vi (stN x cycle g i).n2,vi (stN x cycle g i).n3,vi (stN x cycle g i).n4]),(6,.v (vi (stN x cycle g i).wt)),(7,.v (vi i))]) (fun _=>True) (by simp[stN]) (fun i=>by simp) trivial ?_
 rintro i hi-;have hw:=Z1 ((i:Int)+1) (by omega) (by omega);obtain⟨s1,s2,s3,s4⟩:=WT (x:=x) (cycle:=cycle) hsz i hi;by_cases h:i<g.nodes.length
 ·have hn:g.nodes[i]? =some g.nodes[i]:=Z8n h;have hz:=hsz _ (Z8M h);simp only[stN,hn,Z91];generalize stN x cycle g i=s at*;generalize g.nodes[i]=n at*;have hc:=Z2i hx (i:=i) (by omega) (cycle:=cycle);have hkr:=YB x i cycle;have w1:=Z1 (1+(n.ptrs.length:Int)) (by unfold sizN at hz;omega) (by unfold sizN at hz;omega);have w2:=Z1 (1+(n.ptrs.length:Int)+n.data.length) (by unfold sizN at hz;omega) (by unfold sizN at hz;omega);have e2:(1+(n.ptrs.length:Int)+n.data.length)=(sizN n:Nat):=by unfold sizN;omega
  rw[e2]at w2;simp[h];refine Z0 hc (by simp) ?_;generalize hsz':sizN n=sz at*;unfold ZN;generalize clsF x i=fr at*;generalize clsK x i cycle=k at*;have u1:=Z1 ((s.n1:Int)+sz) (by omega) (by omega);have u2:=Z1 ((s.n2:Int)+sz) (by omega) (by omega);have u3:=Z1 ((s.n3:Int)+sz) (by omega) (by omega);have u4:=Z1 ((s.n4:Int)+sz) (by omega) (by omega);have u5:=Z1 ((s.wt:Int)+sz) (by omega) (by omega);have l1:s.here.length+1≤lim:=by simp[lim];omega
  have l2:s.old.length+1≤lim:=by simp[lim];omega
  rcases hkr with rfl|rfl| ⟨rfl,rfl⟩
  ·cases cycle<;>simp[hn,ZM hn,w1,e2,w2,aiV,S8,setCells,Z1,u1,u2,u3,u4,u5,l1,l2,plV,hw]
  ·cases cycle
   ·simp[hn,ZM hn,w1,e2,w2,aiV,S8,setCells,Z1,u1,u2,u3,u4,u5,l1,l2,plV,hw]
   ·cases fr<;>simp[hn,ZM hn,w1,e2,w2,aiV,S8,setCells,Z1,u1,u2,u3,u4,u5,l1,l2,plV,hw]
  ·cases fr<;>simp[hn,ZM hn,w1,e2,w2,aiV,S8,setCells,Z1,u1,u2,u3,u4,u5,l1,l2,plV,hw]
 ·have:i=g.nodes.length:=by omega
  subst this;generalize hs8:stN x cycle g g.nodes.length=s at*;have hpt:=Vh (c:=x.to) (n:=2) hx.to (by omega);have hps:=Vh (c:=x.slack) (n:=12) hx.slack (by omega);have hsl:=X1 (c:=x.slack) (n:=12) (by omega);simp;refine Z0 hpt (by simp) ?_;have q1:s.n1≤lim:=by simp[lim];omega
  have q2:s.n2≤lim:=by simp[lim];omega
  have q3:s.n3≤lim:=by simp[lim];omega
  have q4:s.n4≤lim:=by simp[lim];omega
  simp[aiV,q1,q2,q3,q4];refine Z0 hps (by simp) ?_;have w1:=Z1 ((s.n1:Int)+s.n2) (by omega) (by omega);have w2:=Z1 ((s.n1:Int)+s.n2+s.wt) (by omega) (by omega);have w3:=Z1 ((s.n3:Int)+s.n4) (by omega) (by omega);have hmax:(if(s.n1:Int)+s.n2+s.wt< (s.n3:Int)+s.n4 then(s.n3:Int)+s.n4 else(s.n1:Int)+s.n2+s.wt)=max ((s.n1:Int)+s.n2+s.wt) ((s.n3:Int)+s.n4):=by split<;>omega
  obtain⟨cap,hcap⟩: ∃cap:Int,max ((s.n1:Int)+s.n2+s.wt) ((s.n3:Int)+s.n4)+pick x.slack 12=cap:=⟨_,rfl⟩;have hc0:0≤cap∧cap≤200:=by omega
  have w4:=Z1 cap (by omega) (by omega);have w5:=Zi cap (by omega) (by omega);have w6:=Zi (2*cap) (by omega) (by omega);have w7:=Zi (9223372036854775808-2*cap) (by omega) (by omega);obtain⟨b1,b2⟩:=hx.base;have w8:x.base.tmod (9223372036854775808-2*cap)=x.base% (9223372036854775808-2*cap):=Z9e b1;have h1:=Zc4 x.base (show(9223372036854775808-2*cap)≠0 by omega);have h2:=ZbB x.base (show 0< (9223372036854775808-2*cap)by omega);have w9:=Zi (1+x.base% (9223372036854775808-2*cap)) (by omega) (by omega);have hne: ¬((9223372036854775808-2*cap)=0):=by omega
  simp[aiV,w1,w2,w3,hmax,hcap,w4,w5,w6,w7,w8,w9,hne];cases cycle
  ·simp[btV,hcap]
  ·by_cases h0:0<s.n1
   ·have hp:=Vh (c:=x.scan) (n:=(s.n1:Int)) hx.scan (by omega);simp[h0];refine Z0 hp (by simp) ?_;simp[btV,hcap,h0,aiV]
   ·simp[btV,hcap,h0]
end Vm
namespace Vm
open Go Go.Proofs
set_option maxRecDepth 100000
set_option maxHeartbeats 1000000
@[simp] theorem Z7A(b:Bt):szV (btV b) 14=some (btV b):=rfl
@[simp] theorem Z4U(b:Bt):(btV b).cells=btC b:=rfl
@[simp] theorem Z6w(b:Bt)(i:Nat):fldV (btV b) i=(btC b)[i]?.bind oneV:=rfl
theorem SE(s p:Int):0≤(Xd s p).1∧(Xd s p).1<100000000:=by
 unfold Xd;split
 ·rename_i h;obtain⟨h1,h2,h3,h4⟩:=Z4.1 h;simp only;omega
 ·simp
theorem LI(l:Ly)(hl:l.fits)(p a:Int):0≤(ZC l p a).1∧(ZC l p a).1≤9223372036854775807:=by
 unfold ZC;split
 ·simp
 ·rename_i hr;have hr':Z8 l=true:=by simpa using hr
  split
  ·simp
  ·split
   ·simp
   ·have:=Zv hr' p;simp only;omega
theorem KG{a:Int}:0≤(YO a).1∧(YO a).1<18446744073709551616:=by
 unfold YO;split
 ·simp
 ·simp only;omega
def refB(h:Hp)(p:Pl):Int:=if p.part=0 then 0 else(YO (ZC (layH h) p.part p.at_).1).1
theorem VA(h:Hp)(p:Pl):U64 (refB h p):=by
 unfold refB;split
 ·exact⟨by omega,by omega⟩
 ·exact KG
theorem Sc{b:Bt}(hb:(layH b.h).fits){p:Pl}:VC Try.prog 58 false [btV b,plV p] (vu (refB b.h p)):=by
 refine Z6 Try.func58 follows (by kernel_rfl) c58 rfl ?_;by_cases h0:p.part=0
 ·simp[p58,btC,refB,h0]
 ·have hr:=LI (layH b.h) hb p.part p.at_;simp[p58,btC,h0];refine Z0 (Jd (h:=b.h)) (by simp[hpV]) ?_;simp;refine Z0 (Lk hb (part:=p.part) (at_:=p.at_)) (by simp) ?_;simp;refine Z0 (Lx (a:=(ZC (layH b.h) p.part p.at_).1) ⟨hr.1,by omega⟩) (by simp) ?_;simp[refB,h0]
def VE(b:Bt)(p:Pl)(to tw:Int):Int:=
 if to<0 then 0 else if 2<p.part then refB b.h ((b.old[to.toNat]?).getD ⟨0,0⟩)
 else if p.part=1∧b.h.scan≤p.at_∧(((b.here[to.toNat]?).getD ⟨0,0⟩).part=0∨0< ((b.old[to.toNat]?).getD ⟨0,0⟩).part∧tw%2=0)then refB b.h ((b.old[to.toNat]?).getD ⟨0,0⟩)
 else refB b.h ((b.here[to.toNat]?).getD ⟨0,0⟩)
theorem KV(b:Bt)(p:Pl)(to tw:Int):U64 (VE b p to tw):=by
 unfold VE;split
 ·exact⟨by omega,by omega⟩
 split
 ·exact VA _ _
 split<;>exact VA _ _
theorem Z4G(t:Int):t.tmod 2=0↔t%2=0:=by
 rw[Int.tmod_eq_emod];split<;>omega
theorem Z25{b:Bt}(hb:(layH b.h).fits){p:Pl}{to tw:Int}(h1:to<b.here.length)(h2:to<b.old.length):VC Try.prog 86 false [btV b,plV p,vi to,vi tw] (vu (VE b p to tw)):=by
 refine Z6 Try.func86 follows (by kernel_rfl) c86 rfl ?_;by_cases h0:to<0
 ·simp[p86,btC,VE,h0]
 obtain⟨t,rfl⟩:=Z8H (show 0≤to by omega);have g1:b.here[t]? =some (b.here[t]'(by omega)):=Z8n (by omega);have g2:b.old[t]? =some (b.old[t]'(by omega)):=Z8n (by omega);generalize b.here[t]'(by omega)=x at*;generalize b.old[t]'(by omega)=y at*;unfold VE;simp only[Z8B,g1,g2,Z91,if_neg h0];by_cases q1:2<p.part
 ·simp[p86,btC,q1,g2];refine Z0 (Sc hb (p:=y)) (by simp[btV]) ?_;simp
 have k1:=Sc hb (p:=x);have k2:=Sc hb (p:=y);by_cases q2:p.part=1
 ·by_cases q3:b.h.scan≤p.at_
  ·by_cases q4:x.part=0
   ·simp[p86,btC,q1,q2,q3,q4,g1,g2];refine Z0 k2 (by simp[btV]) ?_;simp
   ·by_cases q5:0<y.part
    ·by_cases q6:tw%2=0
     ·have q6':=(Z4G tw).2 q6;simp[p86,btC,q1,q2,q3,q4,q5,q6,q6',g1,g2];refine Z0 k2 (by simp[btV]) ?_;simp
     ·have q6':=mt (Z4G tw).1 q6;simp[p86,btC,q1,q2,q3,q4,q5,q6,q6',g1,g2];refine Z0 k1 (by simp[btV]) ?_;simp
    ·simp[p86,btC,q1,q2,q3,q4,q5,g1,g2];refine Z0 k1 (by simp[btV]) ?_;simp
  ·simp[p86,btC,q1,q2,q3,g1,g2];refine Z0 k1 (by simp[btV]) ?_;simp
 ·simp[p86,btC,q1,q2,g1,g2];refine Z0 k1 (by simp[btV]) ?_;simp
@[simp] theorem Z5v(x y:Int):V.put (vu x) 0 [vu y]=vu y:=rfl
theorem QT{l pre:List Int}{m:Nat}(h:pre.length=m)(hm:m<l.length)(z:Int):(pre++l.drop m).set m z=pre++ [z]++l.drop (m+1):=by
 subst h;rw[Zc5 _ _ (Z8v _),Za7,Z9q hm,Z9W,Z92];rfl
def Y8(b:Bt)(p:Pl)(a:Nat)(ps:List Int)(tw:Int):List Int:=(List.range ps.length).map fun i=>VE b ⟨p.part,((a+1+i:Nat):Int)⟩ ((ps[i]?).getD 0) (IntKind.i64.wrap (tw+i))
def layL(b:Bt)(p:Pl)(a:Nat)(n:Nd)(tw:Int):List Int:=
 let l:=Z5 b.h p.part
 l.take a++ [(Xd ((n.ptrs.length:Int)+n.data.length) n.ptrs.length).1]++Y8 b p a n.ptrs tw++n.data++l.drop (a+sizN n)
def layB(b:Bt)(p:Pl)(n:Nd)(tw:Int):Bt:= {b with h:=YE b.h p.part (layL b p p.at_.toNat n tw)}
theorem Z2C{b:Bt}(hb:(layH b.h).fits){p:Pl}{n:Nd}{tw:Int}{a:Nat}(ha:p.at_=a)(hlen:(Z5 b.h p.part).length≤1000000)(hfit:a+sizN n≤(Z5 b.h p.part).length)
  (h1: ∀q∈n.ptrs,q<b.here.length∧q<b.old.length):VC Try.prog 57 false [btV b,plV p,ndV n,vi tw] (btV (layB b p n tw)):=by
 refine Z6 Try.func57 follows (by kernel_rfl) c57 rfl ?_;have hlim:(Z5 b.h p.part).length≤lim:=by simp[lim];omega
 have w1:=Z1 ((n.ptrs.length:Int)+n.data.length) (by unfold sizN at hfit;omega) (by unfold sizN at hfit;omega);unfold layB;rw[show p.at_.toNat=a by omega];simp[p57,btC];refine Z0 (Wh (h:=b.h) (n:=p.part)) (by simp[hpV]) ?_;simp[hlim,w1];refine Z0 (yY (s:=(n.ptrs.length:Int)+n.data.length) (p:=n.ptrs.length)) (by simp) ?_;have hpl:a< (Z5 b.h p.part).length:=by unfold sizN at hfit;omega
 simp[ha,hpl];generalize hl0:Z5 b.h p.part=l at*;generalize hhd:(Xd ((n.ptrs.length:Int)+n.data.length) n.ptrs.length).1=hd at*
 have hset0:(l.map vu).set a (vu hd)=((l.take a++ [hd])++l.drop (a+1)).map vu:=by
  rw[←Zb1];congr 1;have:=QT (l:=l) (pre:=l.take a) (m:=a) (by simp;omega) hpl hd;rw[Zaq]at this;exact this
 simp only[Z5v,hset0];have hw1:=Z1 ((a:Int)+1) (by omega) (by omega);have hnp:n.ptrs.length≤l.length:=by unfold sizN at hfit;omega
 have hsl:(Y8 b p a n.ptrs tw).length=n.ptrs.length:=by simp[Y8]
 refine Xg 11 n.ptrs.length (fun k=> [(8,.v (.sl (((l.take a++ [hd]++(Y8 b p a n.ptrs tw).take k)++l.drop (a+1+k)).map vu))),(11,.v (vi k))]) (fun _=>True) (by simp) (fun i=>by simp) trivial ?_;rintro k hk-;have hwk:=Z1 ((k:Int)+1) (by omega) (by omega);have hw2:=Z1 ((a:Int)+1+k) (by omega) (by omega);by_cases hkl:k<n.ptrs.length
 ·have hq:n.ptrs[k]? =some n.ptrs[k]:=Z8n hkl;obtain⟨q1,q2⟩:=h1 _ (Z8M hkl);have hslot:=Z25 hb (p:=⟨p.part,((a+1+k:Nat):Int)⟩) (to:=n.ptrs[k]) (tw:=IntKind.i64.wrap (tw+k)) q1 q2
  have hsk:(Y8 b p a n.ptrs tw)[k]? =some (VE b ⟨p.part,((a+1+k:Nat):Int)⟩ n.ptrs[k] (IntKind.i64.wrap (tw+k))):=by
   simp[Y8,hkl]
  generalize n.ptrs[k]=q at*;generalize VE b ⟨p.part,((a+1+k:Nat):Int)⟩ q (IntKind.i64.wrap (tw+k))=z at*;have htk:(Y8 b p a n.ptrs tw).take (k+1)=(Y8 b p a n.ptrs tw).take k++ [z]:=by rw[Z9H,hsk];rfl
  have hpre:(l.take a++ [hd]++(Y8 b p a n.ptrs tw).take k).length=a+1+k:=by simp[hsl];omega
  have hm:a+1+k<l.length:=by unfold sizN at hfit;omega
  have hst:=QT (l:=l) hpre hm z;generalize hpp:l.take a++ [hd]++(Y8 b p a n.ptrs tw).take k=pre at*
  have hall: ∃x,((pre++l.drop (a+1+k)).map vu)[a+1+k]? =some (vu x):=by
   refine⟨l[a+1+k],?_⟩;rw[Z8D,Z8F (by omega),hpre,Za7,Z9q hm];rfl
  have hset:((pre++l.drop (a+1+k)).map vu).set (a+1+k) (vu z)=(pre++ [z]++l.drop (a+1+(k+1))).map vu:=by
   rw[←Zb1,hst];rfl
  obtain⟨m,hmn⟩: ∃m:Nat,a+1+k=m:=⟨_,rfl⟩;have hmi:(a:Int)+1+k=m:=by omega
  have hwm:=Z1 (m:Int) (by omega) (by omega);rw[show a+1+(k+1)=a+1+k+1 by omega]at hset⊢;rw[hmn]at hall hset hslot⊢;generalize hLL:(pre++l.drop m).map vu=LL at hall hset⊢;rw[htk];obtain⟨y,hy⟩:=hall;simp[hkl,hq,ZM hq,hw1,hw2,hmi,hwm];refine Z0 hslot (by simp[btV]) ?_;simp[hy,hset,hwk,hkl,hw1,hmi,hwm];rw[←hpp];simp
 ·have:k=n.ptrs.length:=by omega
  subst this;rw[show(Y8 b p a n.ptrs tw).take n.ptrs.length=Y8 b p a n.ptrs tw from Z9a (by omega)];have hw3:=Z1 ((a:Int)+1+n.ptrs.length) (by omega) (by omega);have hw4: ∀j:Nat,j≤1000+n.data.length→IntKind.i64.wrap ((a:Int)+1+n.ptrs.length+j)=(a:Int)+1+n.ptrs.length+j:=fun j hj=>Z1 _ (by omega) (by unfold sizN at hfit;omega);generalize hsp:l.take a++ [hd]++Y8 b p a n.ptrs tw=sp at*;have hspl:sp.length=a+1+n.ptrs.length:=by rw[←hsp];simp[hsl];omega
  simp;refine Xg 13 n.data.length (fun k=> [(8,.v (.sl (((sp++n.data.take k)++l.drop (a+1+n.ptrs.length+k)).map vu))),(13,.v (vi k))]) (fun _=>True) (by simp) (fun i=>by simp) trivial ?_;rintro k hk-;have hwk:=Z1 ((k:Int)+1) (by omega) (by unfold sizN at hfit;omega);by_cases hkl:k<n.data.length
  ·have hq:n.data[k]? =some n.data[k]:=Z8n hkl;generalize n.data[k]=z at*;have htk:n.data.take (k+1)=n.data.take k++ [z]:=by rw[Z9H,hq];rfl
   have hpre:(sp++n.data.take k).length=a+1+n.ptrs.length+k:=by simp[hspl];omega
   have hm:a+1+n.ptrs.length+k<l.length:=by unfold sizN at hfit;omega
   have hst:=QT (l:=l) hpre hm z;generalize hpp:sp++n.data.take k=pre at*
   have hall: ∃x,((pre++l.drop (a+1+n.ptrs.length+k)).map vu)[a+1+n.ptrs.length+k]? =some (vu x):=by
    refine⟨l[a+1+n.ptrs.length+k],?_⟩;rw[Z8D,Z8F (by omega),hpre,Za7,Z9q hm];rfl
   have hset:((pre++l.drop (a+1+n.ptrs.length+k)).map vu).set (a+1+n.ptrs.length+k) (vu z)=(pre++ [z]++l.drop (a+1+n.ptrs.length+k+1)).map vu:=by
    rw[←Zb1,hst]
   rw[show a+1+n.ptrs.length+(k+1)=a+1+n.ptrs.length+k+1 by omega];have hw5:=hw4 k (by omega);obtain⟨m,hmn⟩: ∃m:Nat,a+1+n.ptrs.length+k=m:=⟨_,rfl⟩;have hmi:(a:Int)+1+n.ptrs.length+k=m:=by omega
   have hwm:=Z1 (m:Int) (by omega) (by omega);rw[hmn]at hall hset⊢;generalize hLL:(pre++l.drop m).map vu=LL at hall hset⊢;rw[htk];obtain⟨y,hy⟩:=hall;simp[hkl,hq,ZM hq,hw1,hw3,hw5,hmi,hwm,hy,hset,hwk];rw[←hpp];simp
  ·have:k=n.data.length:=by omega
   subst this;rw[show n.data.take n.data.length=n.data from Za1];have hwith:=Z0c (h:=b.h) (n:=p.part) (l:=sp++n.data++l.drop (a+1+n.ptrs.length+n.data.length))
   have hlay:layL b p a n tw=sp++n.data++l.drop (a+1+n.ptrs.length+n.data.length):=by
    unfold layL;rw[hl0,hhd];dsimp only;rw[hsp,show a+sizN n=a+1+n.ptrs.length+n.data.length by unfold sizN;omega]
   rw[hlay];generalize sp++n.data++l.drop (a+1+n.ptrs.length+n.data.length)=fin at*;simp;refine Z0 hwith (by simp[hpV]) ?_;simp[btV]
end Vm
namespace Vm
open Go Go.Proofs
set_option maxRecDepth 100000
set_option maxHeartbeats 1000000
def wOk(h:Hp):Prop:=(∀k,∀w∈Z5 h k,U64 w)∧ ∀w∈h.roots,U64 w
structure BOk (b:Bt):Prop where
 lay:(layH b.h).fits
 hl:b.here.length=b.g.nodes.length
 ol:b.old.length=b.g.nodes.length
 nn:b.g.nodes.length≤10
 ptr: ∀n∈b.g.nodes,∀q∈n.ptrs,q< (b.g.nodes.length:Int)
 dat: ∀n∈b.g.nodes,∀q∈n.data,U64 q
 rts: ∀q∈b.g.roots,q< (b.g.nodes.length:Int)
 rl:b.g.roots.length≤5
 here: ∀(i:Nat) (p:Pl) (n:Nd),b.here[i]? =some p→b.g.nodes[i]? =some n→p=⟨0,0⟩∨ ∃a:Nat,p.at_=a∧(p.part=1∨p.part=2)∧a+sizN n≤(Z5 b.h p.part).length
 old: ∀(i:Nat) (p:Pl) (n:Nd),b.old[i]? =some p→b.g.nodes[i]? =some n→p=⟨0,0⟩∨ ∃a:Nat,p.at_=a∧(p.part=3∨p.part=4)∧a+sizN n≤(Z5 b.h p.part).length
 len: ∀k,(Z5 b.h k).length≤1000
 words:wOk b.h
theorem UH{h h':Hp}(hl:layH h'=layH h)(k:Int):(Z5 h' k).length=(Z5 h k).length:=by
 simp only[layH,Ly.mk.injEq]at hl;unfold Z5;split
 ·omega
 split
 ·omega
 split<;>omega
theorem BOk.keep{b:Bt}(hb:BOk b){h':Hp}(hl:layH h'=layH b.h)(hw:wOk h'):BOk {b with h:=h'} where
 lay:=by show(layH h').fits;rw[hl];exact hb.lay
 hl:=hb.hl
 ol:=hb.ol
 nn:=hb.nn
 ptr:=hb.ptr
 dat:=hb.dat
 rts:=hb.rts
 rl:=hb.rl
 here:=fun i p n hp hn=>by
  rcases hb.here i p n hp hn with h| ⟨a,h1,h2,h3⟩
  ·exact .inl h
  ·exact .inr ⟨a,h1,h2,by show _≤(Z5 h' p.part).length;rw[UH hl];exact h3⟩
 old:=fun i p n hp hn=>by
  rcases hb.old i p n hp hn with h| ⟨a,h1,h2,h3⟩
  ·exact .inl h
  ·exact .inr ⟨a,h1,h2,by show _≤(Z5 h' p.part).length;rw[UH hl];exact h3⟩
 len:=fun k=>by show(Z5 h' k).length≤1000;rw[UH hl];exact hb.len k
 words:=hw
theorem S7{h:Hp}{p:Int}{l:List Int}(hl:l.length=(Z5 h p).length):layH (YE h p l)=layH h:=by
 unfold YE Z5 at*;split
 ·rename_i e;rw[if_pos e]at hl;simp[layH,hl]
 rename_i e1;rw[if_neg e1]at hl;split
 ·rename_i e;rw[if_pos e]at hl;simp[layH,hl]
 rename_i e2;rw[if_neg e2]at hl;split
 ·rename_i e;rw[if_pos e]at hl;simp[layH,hl]
 ·rename_i e3;rw[if_neg e3]at hl;simp[layH,hl]
theorem Lg{h:Hp}{p:Int}{l:List Int}(hh:wOk h)(hl: ∀w∈l,U64 w):wOk (YE h p l):=by
 have h1:=hh.1 1;have h2:=hh.1 2;have h3:=hh.1 3;have h4:=hh.1 4;simp only[YQ,Kt,zj,yi]at h1 h2 h3 h4
 have key: ∀h':Hp,(∀w∈h'.low,U64 w)→(∀w∈h'.high,U64 w)→(∀w∈h'.old,U64 w)→(∀w∈h'.far,U64 w)→(∀w∈h'.roots,U64 w)→wOk h':=fun h' k1 k2 k3 k4 k5=>by
  refine⟨fun k=> ?_,k5⟩;unfold Z5;split
  ·exact k1
  split
  ·exact k2
  split
  ·exact k3
  ·exact k4
 unfold YE;split
 ·exact key _ hl h2 h3 h4 hh.2
 split
 ·exact key _ h1 hl h3 h4 hh.2
 split
 ·exact key _ h1 h2 hl h4 hh.2
 ·exact key _ h1 h2 h3 hl hh.2
theorem L2{b:Bt}{p:Pl}{a:Nat}{n:Nd}{tw:Int}(hf:a+sizN n≤(Z5 b.h p.part).length):(layL b p a n tw).length=(Z5 b.h p.part).length:=by
 unfold layL;unfold sizN at*;simp[Y8];omega
theorem q8{b:Bt}{p:Pl}{a:Nat}{n:Nd}{tw:Int}(hw:wOk b.h)(hn: ∀q∈n.data,U64 q): ∀w∈layL b p a n tw,U64 w:=by
 intro w hm;unfold layL at hm;simp only[Z90,Za9]at hm;rcases hm with (((hm|hm) |hm) |hm) |hm
 ·exact hw.1 _ w (Z9g hm)
 ·subst hm;have:=SE ((n.ptrs.length:Int)+n.data.length) n.ptrs.length;exact⟨this.1,by omega⟩
 ·simp only[Y8,Z8S]at hm;obtain⟨i,_,rfl⟩:=hm;exact KV _ _ _ _
 ·exact hn w hm
 ·exact hw.1 _ w (Z9Y hm)
def Tv(x:Rw)(b:Bt)(i:Nat)(n:Nd)(p:Pl):Bt:=if 0<p.part then layB b p n (IntKind.i64.wrap (x.slack+i))else b
def TB(b:Bt)(n:Nd)(p o:Pl):Bt:=if 0<o.part∧p.part=0 then layB b o n 0 else b
def Tb(b:Bt)(p o:Pl):Bt:=if 0<o.part∧0<p.part then {b with h:=YE b.h o.part ((Z5 b.h o.part).set o.at_.toNat (refB b.h p))}else b
def qe(x:Rw)(b:Bt)(i:Nat):Bt:=
 let n:=(b.g.nodes[i]?).getD default
 let p:=(b.here[i]?).getD ⟨0,0⟩
 let o:=(b.old[i]?).getD ⟨0,0⟩
 Tb (TB (Tv x b i n p) n p o) p o
structure Like (b b':Bt):Prop where
 g:b'.g=b.g
 here:b'.here=b.here
 old:b'.old=b.old
 lay:layH b'.h=layH b.h
 words:wOk b'.h
 scan:b'.h.scan=b.h.scan
 cycle:b'.h.cycle=b.h.cycle
theorem Like.ok{b b':Bt}(hl:Like b b')(hb:BOk b):BOk b':=by
 obtain⟨h',g',here',old'⟩:=b';obtain⟨h1,h2,h3,h4,h5,_⟩:=hl;simp only at h1 h2 h3 h4 h5;subst h1 h2 h3;exact hb.keep h4 h5
theorem Like.trans{a b c:Bt}(h:Like a b)(k:Like b c):Like a c:=⟨k.g.trans h.g,k.here.trans h.here,k.old.trans h.old,k.lay.trans h.lay,k.words,k.scan.trans h.scan,k.cycle.trans h.cycle⟩
theorem RL(h:Hp)(p:Int)(l:List Int):(YE h p l).scan=h.scan∧(YE h p l).cycle=h.cycle:=by
 unfold YE;split
 ·exact⟨rfl,rfl⟩
 split
 ·exact⟨rfl,rfl⟩
 split<;>exact⟨rfl,rfl⟩
theorem Ks{b:Bt}(hb:BOk b){p:Int}{l:List Int}(hl:l.length=(Z5 b.h p).length)(hw: ∀w∈l,U64 w):Like b {b with h:=YE b.h p l}:=
 ⟨rfl,rfl,rfl,S7 hl,Lg hb.words hw,(RL _ _ _).1,(RL _ _ _).2⟩
theorem Uz{b:Bt}(hb:BOk b):Like b b:=⟨rfl,rfl,rfl,rfl,hb.words,rfl,rfl⟩
theorem zn{b:Bt}(hb:BOk b){p:Pl}{n:Nd}{tw:Int}{a:Nat}(ha:p.at_=a)(hf:a+sizN n≤(Z5 b.h p.part).length)(hn: ∀q∈n.data,U64 q):Like b (layB b p n tw):=by
 unfold layB;rw[ha,Z8B];exact Ks hb (L2 hf) (q8 hb.words hn)
theorem Z0R{x:Rw}{b:Bt}(hb:BOk b){i:Nat}{n:Nd}{p:Pl}(hn:b.g.nodes[i]? =some n)(hp:b.here[i]? =some p):Like b (Tv x b i n p):=by
 unfold Tv;split
 ·rename_i h0;rcases hb.here i p n hp hn with rfl| ⟨a,h1,h2,h3⟩
  ·simp at h0
  ·exact zn hb h1 h3 (hb.dat n (Z8x hn))
 ·exact Uz hb
theorem jd{b:Bt}(hb:BOk b){i:Nat}{n:Nd}{p o:Pl}(hn:b.g.nodes[i]? =some n)(ho:b.old[i]? =some o):Like b (TB b n p o):=by
 unfold TB;split
 ·rename_i h0;rcases hb.old i o n ho hn with rfl| ⟨a,h1,h2,h3⟩
  ·simp at h0
  ·exact zn hb h1 h3 (hb.dat n (Z8x hn))
 ·exact Uz hb
theorem Z4a{b:Bt}(hb:BOk b){p o:Pl}:Like b (Tb b p o):=by
 unfold Tb;split
 ·refine Ks hb (by simp) fun w hw=> ?_;rcases Z9r hw with h|rfl
  ·exact hb.words.1 _ w h
  ·exact VA _ _
 ·exact Uz hb
theorem Z4C{x:Rw}{b:Bt}(hb:BOk b){i:Nat}(hi:i<b.g.nodes.length):Like b (qe x b i):=by
 have hn:b.g.nodes[i]? =some b.g.nodes[i]:=Z8n hi;have hp:b.here[i]? =some (b.here[i]'(by rw[hb.hl];exact hi)):=Z8n _;have ho:b.old[i]? =some (b.old[i]'(by rw[hb.ol];exact hi)):=Z8n _;unfold qe;simp only[hn,hp,ho,Z91];have h1:=Z0R (x:=x) hb hn hp;have h2:=jd (p:=b.here[i]'(by rw[hb.hl];exact hi)) (h1.ok hb) (by rw[h1.g];exact hn) (by rw[h1.old];exact ho);exact(h1.trans h2).trans (Z4a (h2.ok (h1.ok hb)))
def UN(x:Rw)(b:Bt):Nat→Bt
 |0=>b
 |i+1=>qe x (UN x b i) i
theorem Jj{x:Rw}{b:Bt}(hb:BOk b): ∀i,i≤b.g.nodes.length→Like b (UN x b i)
 |0,_=>Uz hb
 |i+1,hi=>by
  have h:=Jj (x:=x) hb i (by omega);exact h.trans (Z4C (h.ok hb) (by rw[h.g];omega))
def ZW(x:Rw)(b:Bt):Hp:=
 let b':=UN x b b.g.nodes.length
 {b'.h with roots:=b.g.roots.map fun r=>if 0≤r then refB b'.h ((b.here[r.toNat]?).getD ⟨0,0⟩)else 0}
theorem Z0B{x:Rw}(hx:x.ok){b:Bt}(hb:BOk b):VC Try.prog 36 false [btV b,rwV x] (hpV (ZW x b)):=by
 refine Z6 Try.func36 follows (by kernel_rfl) c36 rfl ?_;simp[p36,btC];refine Xg 5 b.g.nodes.length (fun i=> [(2,.m (btC (UN x b i))),(5,.v (vi i))]) (fun _=>True) (by simp[UN,btC]) (fun i=>by simp) trivial ?_;rintro i hi-;have hlk:=Jj (x:=x) hb i hi;have hw:=Z1 ((i:Int)+1) (by have:=hb.nn;omega) (by have:=hb.nn;omega);by_cases h:i<b.g.nodes.length
 ·have hb':=hlk.ok hb;simp only[UN];have hi':i< (UN x b i).g.nodes.length:=by rw[hlk.g];exact h
  generalize hbb:UN x b i=c at*;have hn:c.g.nodes[i]? =some c.g.nodes[i]:=Z8n hi';have hp:c.here[i]? =some (c.here[i]'(by rw[hb'.hl];exact hi')):=Z8n _;have ho:c.old[i]? =some (c.old[i]'(by rw[hb'.ol];exact hi')):=Z8n _;unfold qe;simp only[hn,hp,ho,Z91];generalize c.g.nodes[i]=n at*;generalize c.here[i]'(by rw[hb'.hl];exact hi')=p at*;generalize c.old[i]'(by rw[hb'.ol];exact hi')=o at*
  have hpn: ∀q∈n.ptrs,q< (c.here.length:Int)∧q< (c.old.length:Int):=fun q hq=>by
   have:=hb'.ptr n (Z8x hn) q hq;rw[hb'.hl,hb'.ol];exact⟨this,this⟩
  have kA:=Z0R (x:=x) hb' hn hp;have bA:=kA.ok hb';have kO:=jd (p:=p) bA (by rw[kA.g];exact hn) (by rw[kA.old];exact ho);have bO:=kO.ok bA;have hgl:c.g.nodes.length=b.g.nodes.length:=by rw[hlk.g]
  have hge:c.g=b.g:=hlk.g
  have hlay:0<p.part→VC Try.prog 57 false [btV c,plV p,ndV n,vi (IntKind.i64.wrap (x.slack+i))] (btV (layB c p n (IntKind.i64.wrap (x.slack+i)))):=fun h0=>by
   rcases hb'.here i p n hp hn with rfl| ⟨a,h1,h2,h3⟩
   ·simp at h0
   ·exact Z2C hb'.lay h1 (by have:=hb'.len p.part;omega) h3 hpn
  have hlayO:0<o.part→VC Try.prog 57 false [btV c,plV o,ndV n,vi 0] (btV (layB c o n 0)):=fun h0=>by
   rcases hb'.old i o n ho hn with rfl| ⟨a,h1,h2,h3⟩
   ·simp at h0
   ·exact Z2C hb'.lay h1 (by have:=hb'.len o.part;omega) h3 hpn
  have hpp:p.part=0∨0<p.part:=by
   rcases hb'.here i p n hp hn with rfl| ⟨a,h1,h2,h3⟩
   ·exact .inl rfl
   ·exact .inr (by omega)
  have hoo:o.part=0∨0<o.part:=by
   rcases hb'.old i o n ho hn with rfl| ⟨a,h1,h2,h3⟩
   ·exact .inl rfl
   ·exact .inr (by omega)
  rcases hpp with hp0|hp0
  ·rcases hoo with ho0|ho0
   ·simp[btC,h,hi',hgl,hn,hp,ho,ZM hn,ZM hp,ZM ho,Tv,TB,Tb,hp0,ho0,hw]
   ·have hne: ¬0<p.part:=by omega
    have hlk2:Like c (layB c o n 0):=by
     have:=jd (p:=p) hb' hn ho;unfold TB at this;rwa[if_pos ⟨ho0,hp0⟩]at this
    have hlO:=hlayO ho0;simp[btC,h,hi',hgl,hn,hp,ho,ZM hn,ZM hp,ZM ho,Tv,TB,Tb,hp0,ho0,hw];generalize layB c o n 0=d at*;obtain⟨d1,d2,d3,d4,d5,_,_⟩:=hlk2;refine Z0 hlO (by simp[btV]) ?_;simp[btC,d1,d2,d3,hn,hp,ho,ZM hn,ZM hp,ZM ho,hp0,ho0,hw,h]
  ·have hne0: ¬p.part=0:=by omega
   have hlk2:Like c (layB c p n (IntKind.i64.wrap (x.slack+i))):=by
    have:=Z0R (x:=x) hb' hn hp;unfold Tv at this;rwa[if_pos hp0]at this
   have hlA:=hlay hp0;have bd:=hlk2.ok hb';rcases hoo with ho0|ho0
   ·simp[btC,h,hi',hgl,hn,hp,ho,ZM hn,ZM hp,ZM ho,Tv,TB,Tb,hp0,ho0,hne0,hw];generalize layB c p n (IntKind.i64.wrap (x.slack+i))=d at*;obtain⟨d1,d2,d3,d4,d5,_,_⟩:=hlk2;refine Z0 hlA (by simp[btV]) ?_;simp[btC,d1,d2,d3,hn,hp,ho,ZM hn,ZM hp,ZM ho,hp0,ho0,hne0,hw,h]
   ·simp[btC,h,hi',hgl,hn,hp,ho,ZM hn,ZM hp,ZM ho,Tv,TB,Tb,hp0,ho0,hne0,hw];generalize layB c p n (IntKind.i64.wrap (x.slack+i))=d at*;obtain⟨d1,d2,d3,d4,d5,_,_⟩:=hlk2;refine Z0 hlA (by simp[btV]) ?_;simp[btC,d1,d2,d3,hn,hp,ho,ZM hn,ZM hp,ZM ho,hp0,ho0,hne0,hw,h];rcases hb'.old i o n ho hn with rfl| ⟨a,h1,h2,h3⟩
    ·simp at ho0
    have hdl:=bd.len o.part;have hlim:(Z5 d.h o.part).length≤lim:=by simp[lim];omega
    have hal:a< (Z5 d.h o.part).length:=by
     have:=UH d4 o.part;unfold sizN at h3;omega
    refine Z0 (Wh (h:=d.h) (n:=o.part)) (by simp[hpV]) ?_;simp[hlim,hp];refine Z0 (Sc (b:=⟨d.h,c.g,c.here,c.old⟩) bd.lay (p:=p)) (by simp) ?_;simp[h1,hal,ho,ZM ho];have hwith:=Z0c (h:=d.h) (n:=o.part) (l:=(Z5 d.h o.part).set a (refB d.h p));rw[Zb1]at hwith;refine Z0 hwith (by simp[hpV]) ?_;simp[hw,h,d1,d2,d3]
 ·have:i=b.g.nodes.length:=by omega
  subst this;have bd:=hlk.ok hb;unfold ZW;generalize UN x b b.g.nodes.length=d at*;obtain⟨d1,d2,d3,d4,d5,_,_⟩:=hlk;simp[btC,d1,d2,d3];refine Xg 13 b.g.roots.length (fun k=> [(12,.v (.sl ((b.g.roots.take k).map fun r=>vu (if 0≤r then refB d.h ((b.here[r.toNat]?).getD ⟨0,0⟩)else 0)))),(13,.v (vi k))]) (fun _=>True) (by simp) (fun i=>by simp) trivial ?_;rintro k hk-;have hrl:=hb.rl;have hwk:=Z1 ((k:Int)+1) (by omega) (by omega);by_cases hkl:k<b.g.roots.length
  ·have hr:b.g.roots[k]? =some b.g.roots[k]:=Z8n hkl;have hrn:=hb.rts _ (Z8M hkl);generalize b.g.roots[k]=r at*;have htk:b.g.roots.take (k+1)=b.g.roots.take k++ [r]:=by rw[Z9H,hr];rfl
   have hlim:min k b.g.roots.length+1≤lim:=by simp[lim];omega
   by_cases h0:0≤r
   ·obtain⟨q,rfl⟩:=Z8H h0;have hq:b.here[q]? =some (b.here[q]'(by rw[hb.hl];omega)):=Z8n _;generalize b.here[q]'(by rw[hb.hl];omega)=p at*;simp[hkl,hr,ZM hr,hq,ZM hq];refine Z0 (Sc (b:=⟨d.h,b.g,b.here,b.old⟩) bd.lay (p:=p)) (by simp) ?_;simp[hwk,hlim,hkl];rw[Z9H,Z8D,hr];simp[hq]
   ·simp[hkl,hr,ZM hr,h0,hwk,hlim,htk,hkl]
  ·have:k=b.g.roots.length:=by omega
   subst this;simp[hpV]
end Vm
namespace Vm
open Go Go.Proofs
set_option maxRecDepth 100000
set_option maxHeartbeats 1000000
def PIn(s:St8)(p:Pl)(sz:Nat):Prop:=p=⟨0,0⟩∨ ∃a:Nat,p.at_=a∧((p.part=1∧a+sz≤s.n1)∨(p.part=2∧a+sz≤s.n2))
def POl(s:St8)(p:Pl)(sz:Nat):Prop:=p=⟨0,0⟩∨ ∃a:Nat,p.at_=a∧((p.part=3∧a+sz≤s.n3)∨(p.part=4∧a+sz≤s.n4))
theorem Z0D{x:Rw}{cycle:Bool}{sz i:Nat}{s:St8}:s.n1≤(ZN x cycle sz i s).n1∧s.n2≤(ZN x cycle sz i s).n2∧s.n3≤(ZN x cycle sz i s).n3∧s.n4≤(ZN x cycle sz i s).n4:=by
 unfold ZN;refine⟨?_,?_,?_,?_⟩<;>dsimp only<;>split<;>omega
theorem PIn.mono{s t:St8}{p:Pl}{sz:Nat}(h:PIn s p sz)(h1:s.n1≤t.n1)(h2:s.n2≤t.n2):PIn t p sz:=by
 rcases h with h| ⟨a,ha,⟨hp,h⟩ | ⟨hp,h⟩⟩
 ·exact .inl h
 ·exact .inr ⟨a,ha,.inl ⟨hp,by omega⟩⟩
 ·exact .inr ⟨a,ha,.inr ⟨hp,by omega⟩⟩
theorem POl.mono{s t:St8}{p:Pl}{sz:Nat}(h:POl s p sz)(h1:s.n3≤t.n3)(h2:s.n4≤t.n4):POl t p sz:=by
 rcases h with h| ⟨a,ha,⟨hp,h⟩ | ⟨hp,h⟩⟩
 ·exact .inl h
 ·exact .inr ⟨a,ha,.inl ⟨hp,by omega⟩⟩
 ·exact .inr ⟨a,ha,.inr ⟨hp,by omega⟩⟩
theorem JW{x:Rw}{cycle:Bool}{g:Gr}(hg: ∀n∈g.nodes,sizN n≤9): ∀i,i≤g.nodes.length→ ∀(j:Nat) (n:Nd),g.nodes[j]? =some n→
  (∀p,(stN x cycle g i).here[j]? =some p→PIn (stN x cycle g i) p (sizN n))∧(∀p,(stN x cycle g i).old[j]? =some p→POl (stN x cycle g i) p (sizN n))
 |0,_,j,n,hn=>⟨fun p hp=>by simp[stN]at hp,fun p hp=>by simp[stN]at hp⟩
 |i+1,hi,j,n,hn=>by
  obtain⟨h1,h2⟩:=JW (x:=x) (cycle:=cycle) hg i (by omega) j n hn;obtain⟨_,_,l1,l2⟩:=WT (x:=x) (cycle:=cycle) hg i (by omega);have hgi:g.nodes[i]? =some g.nodes[i]:=Z8n (by omega);simp only[stN,hgi,Z91];generalize stN x cycle g i=s at*;obtain⟨q1,q2,q3,q4⟩:=Z0D (x:=x) (cycle:=cycle) (sz:=sizN g.nodes[i]) (i:=i) (s:=s);have hjl:j<g.nodes.length:=(Z8o.1 hn).1;constructor
  ·intro p hp;by_cases hj:j<i
   ·have:s.here[j]? =some p:=by
     simp only[ZN]at hp;rwa[Z8G (by omega)]at hp
    exact(h1 p this).mono q1 q2
   ·by_cases hji:j=i
    ·subst hji;rw[hgi]at hn;cases hn;simp only[ZN]at hp;rw[Z8F (by omega),l1,Za7]at hp;simp only[Z9V,Z8l]at hp;subst hp;unfold PIn;rcases YB x j cycle with hk|hk| ⟨hk,rfl⟩
     ·refine .inr ⟨s.n2,by simp[hk],.inr ⟨by simp[hk],by simp[ZN,hk]⟩⟩
     ·refine .inr ⟨s.n1,by simp[hk],.inl ⟨by simp[hk],by simp[ZN,hk]⟩⟩
     ·exact .inl (by simp[hk])
    ·simp only[ZN]at hp;have:=(Z8o.1 hp).1;simp at this;omega
  ·intro p hp;by_cases hj:j<i
   ·have:s.old[j]? =some p:=by
     simp only[ZN]at hp;rwa[Z8G (by omega)]at hp
    exact(h2 p this).mono q3 q4
   ·by_cases hji:j=i
    ·subst hji;rw[hgi]at hn;cases hn;simp only[ZN]at hp;rw[Z8F (by omega),l2,Za7]at hp;simp only[Z9V,Z8l]at hp;subst hp;unfold POl;by_cases ho:(decide (0<clsK x j cycle)&&cycle)=true
     ·cases hf:clsF x j
      ·refine .inr ⟨s.n3,by simp[ho],.inl ⟨by simp[ho],by simp[ZN,ho,hf]⟩⟩
      ·refine .inr ⟨s.n4,by simp[ho],.inr ⟨by simp[ho],by simp[ZN,ho,hf]⟩⟩
     ·exact .inl (by simp only[ho];rfl)
    ·simp only[ZN]at hp;have:=(Z8o.1 hp).1;simp at this;omega
theorem Z0j(l:List Nd)(roots:List Int): ∀n∈(mkG l roots).nodes,∀q∈n.ptrs,-1≤q∧q< ((mkG l roots).nodes.length:Int):=by
 intro n hn q hq;rw[Uy];simp only[mkG,Z8S]at hn;obtain⟨y,_,rfl⟩:=hn;simp only[mkNd,Z8S]at hq;obtain⟨p,_,rfl⟩:=hq;exact Z5c
theorem Z3r(l:List Nd)(roots:List Int): ∀q∈(mkG l roots).roots,-1≤q∧q< ((mkG l roots).nodes.length:Int):=by
 intro q hq;rw[Uy];simp only[mkG]at hq;split at hq
 ·simp at hq;omega
 ·simp only[Z8S]at hq;obtain⟨p,_,rfl⟩:=hq;exact Z5c
theorem Z3B(l:List Nd)(roots:List Int)(hl: ∀n∈l,∀q∈n.data,U64 q): ∀n∈(mkG l roots).nodes,∀q∈n.data,U64 q:=by
 intro n hn q hq;simp only[mkG,Z8S]at hn;obtain⟨y,hy,rfl⟩:=hn;simp only[mkNd]at hq;exact hl y (Z9g hy) q (Z9g hq)
theorem Uv{x:Rw}(hx:x.ok)(cycle:Bool):BOk (Zw x cycle)∧Fit (Zw x cycle).h.scan∧Z8 (layH (Zw x cycle).h)=true:=by
 obtain⟨hb1,hb2,hb3⟩:=UL x.nodes x.roots;have hb5:=Uy x.nodes x.roots;have hp:=Z0j x.nodes x.roots;have hr:=Z3r x.nodes x.roots;have hd:=Z3B x.nodes x.roots hx.data;unfold Zw;generalize mkG x.nodes x.roots=g at*;have hsz: ∀n∈g.nodes,sizN n≤9:=fun n hn=>by have:=hb3 n hn;unfold sizN;omega
 obtain⟨s1,s2,s3,s4⟩:=WT (x:=x) (cycle:=cycle) hsz g.nodes.length (Z8v _);have hpl:=JW (x:=x) (cycle:=cycle) hsz g.nodes.length (Z8v _);dsimp only;generalize stN x cycle g g.nodes.length=s at*;have hsl:=X1 (c:=x.slack) (n:=12) (by omega);have hto:=X1 (c:=x.to) (n:=2) (by omega);obtain⟨cap,hcap⟩: ∃cap:Int,max ((s.n1:Int)+s.n2+s.wt) ((s.n3:Int)+s.n4)+pick x.slack 12=cap:=⟨_,rfl⟩;rw[hcap];have hc0:0≤cap∧cap≤200:=by omega
 have h1:=Zc4 x.base (show(9223372036854775808-2*cap)≠0 by omega);have h2:=ZbB x.base (show 0< (9223372036854775808-2*cap)by omega);generalize x.base% (9223372036854775808-2*cap)=base at*
 have hscan:Fit (if cycle=true∧0<s.n1 then pick x.scan s.n1 else s.n1):=by
  split
  ·rename_i h;have:=X1 (c:=x.scan) (n:=s.n1) (by omega);exact⟨by omega,by omega⟩
  ·exact⟨by omega,by omega⟩
 refine⟨⟨?_,?_,?_,?_,?_,?_,?_,?_,?_,?_,?_,?_⟩,hscan,?_⟩
 ·refine⟨⟨?_,?_⟩,⟨?_,?_⟩,⟨?_,?_⟩,⟨?_,?_⟩,⟨?_,?_⟩,⟨?_,?_⟩,⟨?_,?_⟩⟩<;>simp[layH]<;>omega
 ·exact s3
 ·exact s4
 ·show g.nodes.length≤10;omega
 ·exact fun n hn q hq=>(hp n hn q hq).2
 ·exact hd
 ·exact fun q hq=>(hr q hq).2
 ·exact hb2
 ·intro i p n hpi hni;rcases(hpl i n hni).1 p hpi with h| ⟨a,ha,⟨hpp,h⟩ | ⟨hpp,h⟩⟩
  ·exact .inl h
  ·exact .inr ⟨a,ha,.inl hpp,by rw[hpp];simpa using h⟩
  ·exact .inr ⟨a,ha,.inr hpp,by rw[hpp];simpa using h⟩
 ·intro i p n hpi hni;rcases(hpl i n hni).2 p hpi with h| ⟨a,ha,⟨hpp,h⟩ | ⟨hpp,h⟩⟩
  ·exact .inl h
  ·exact .inr ⟨a,ha,.inl hpp,by rw[hpp];simpa using h⟩
  ·exact .inr ⟨a,ha,.inr hpp,by rw[hpp];simpa using h⟩
 ·intro k;unfold Z5;split
  ·simp;omega
  split
  ·simp;omega
  split<;>simp<;>omega
 ·refine⟨fun k=> ?_,by simp⟩
  have hrep: ∀m:Nat,∀w∈List.replicate m (0:Int),U64 w:=fun m w hw=>by
   have:=(ZbC.1 hw).2;subst this;exact⟨by omega,by omega⟩
  unfold Z5;split
  ·exact hrep _
  split
  ·exact hrep _
  split<;>exact hrep _
 ·refine Zm.2 ?_;simp only[layH,ZbZ];omega
def yq(x:Rw):Hp:=ZW x (Zw x false)
def Ty(x:Rw):Hp:=if(Zw x true).h.low.length=0 then yq x else ZW x (Zw x true)
theorem Z1y{x:Rw}(hx:x.ok):VC Try.prog 15 false [rwV x] (hpV (yq x)):=by
 refine Z6 Try.func15 follows (by kernel_rfl) c15 rfl ?_;simp[p15];refine Z0 (yr hx (cycle:=false)) (by simp[rwV]) ?_;simp;refine Z0 (Z0B hx (Uv hx false).1) (by simp) ?_;simp;rfl
theorem Z30{x:Rw}(hx:x.ok):VC Try.prog 14 false [rwV x] (hpV (Ty x)):=by
 refine Z6 Try.func14 follows (by kernel_rfl) c14 rfl ?_;simp[p14];refine Z0 (yr hx (cycle:=true)) (by simp[rwV]) ?_;unfold Ty;by_cases h0:(Zw x true).h.low.length=0
 ·simp[btC,h0];refine Z0 (Z1y hx) (by simp) ?_;simp;rfl
 ·simp[btC,h0];refine Z0 (Z0B hx (Uv hx true).1) (by simp) ?_;simp;rfl
theorem zV{x:Rw}{b:Bt}(hb:BOk b)(hs:Fit b.h.scan):(ZW x b).ok∧layH (ZW x b)=layH b.h∧(ZW x b).scan=b.h.scan∧(ZW x b).cycle=b.h.cycle:=by
 have hl:=Jj (x:=x) hb b.g.nodes.length (Z8v _);have bd:=hl.ok hb;unfold ZW;generalize UN x b b.g.nodes.length=d at*;obtain⟨h1,h2,h3,h4,h5,h6,h7,h8,h9,h10,h11,h12⟩:=bd;have l1:=h11 1;have l2:=h11 2;have l3:=h11 3;have l4:=h11 4;have w1:=h12.1 1;have w2:=h12.1 2;have w3:=h12.1 3;have w4:=h12.1 4;simp only[YQ,Kt,zj,yi]at l1 l2 l3 l4 w1 w2 w3 w4;have hrl:=hb.rl;refine⟨⟨h1.1,h1.2.1,h1.2.2.1,by rw[hl.scan];exact hs,?_,?_,?_,?_,?_,w1,w2,w3,w4,?_⟩,hl.lay,hl.scan,hl.cycle⟩
 ·show d.h.low.length≤_;omega
 ·show d.h.high.length≤_;omega
 ·show d.h.old.length≤_;omega
 ·show d.h.far.length≤_;omega
 ·simp;omega
 ·intro w hw;simp only[Z8S]at hw;obtain⟨r,_,rfl⟩:=hw;split
  ·exact VA _ _
  ·exact⟨by omega,by omega⟩
end Vm
end
section
namespace Vm
open Go
open Go.Proofs
set_option maxRecDepth 100000
end Vm
end
section
namespace Vm
open Go Go.Proofs
set_option maxRecDepth 100000
set_option maxHeartbeats 1000000
structure Ob where
 at_:Int
 size:Int
 ptrs:Int
 gone:Bool
 target:Int
 deriving DecidableEq,Inhabited
def obV(o:Ob):V:= .agg [vi o.at_,vi o.size,vi o.ptrs,.bool o.gone,vu o.target]
@[simp] theorem Z7n(o:Ob):szV (obV o) 5=some (obV o):=rfl
@[simp] theorem Z5u(o:Ob):SJ (obV o) 0 5=some (obV o):=rfl
@[simp] theorem Z46(o:Ob):(obV o).cells= [vi o.at_,vi o.size,vi o.ptrs,.bool o.gone,vu o.target]:=rfl
@[simp] theorem Z4N(o:Ob):fldV (obV o) 0=some (vi o.at_):=rfl
@[simp] theorem Z5p(o:Ob):fldV (obV o) 1=some (vi o.size):=rfl
@[simp] theorem Z5r(o:Ob):fldV (obV o) 2=some (vi o.ptrs):=rfl
@[simp] theorem Z5L(o:Ob):fldV (obV o) 3=some (.bool o.gone):=rfl
@[simp] theorem Z47(o:Ob):fldV (obV o) 4=some (vu o.target):=rfl
@[simp] theorem Z3u(o:Ob):SJ (obV o) 1 2=some (shV o.size o.ptrs):=rfl
@[simp] theorem Z3O(l:List Ob):Y7 5 (l.map obV)=true:=Wx fun _=>rfl
def shP(s:Int×Int):V:=shV s.1 s.2
@[simp] theorem Z5b(s:Int×Int):(shP s).cells= [vi s.1,vi s.2]:=rfl
@[simp] theorem Z7w(s:Int×Int):szV (shP s) 2=some (shP s):=rfl
@[simp] theorem Z60(s:Int×Int):SJ (shP s) 0 2=some (shP s):=rfl
@[simp] theorem Z5M(s:Int×Int):fldV (shP s) 0=some (vi s.1):=rfl
@[simp] theorem Z5U(s:Int×Int):fldV (shP s) 1=some (vi s.2):=rfl
@[simp] theorem Z3M(l:List (Int×Int)):Y7 2 (l.map shP)=true:=Wx fun _=>rfl
def U1(w:Int):Bool:=decide (w=0)||decide ((adr w).2=0)
def ZL(l:List Int)(gone:Bool)(ptrs:Int)(i:Nat):Bool:=
 match l with
 | []=>true
 |w::l=>(!gone||decide (w=0))&&(!decide ((i:Int) <ptrs)||U1 w)&&ZL l gone ptrs (i+1)
theorem JT{l:List Int}{gone:Bool}{ptrs:Int}{i:Nat}{w:Int}(h:l[i]? =some w):ZL (l.drop i) gone ptrs i=((!gone||decide (w=0))&&(!decide ((i:Int) <ptrs)||U1 w)&&ZL (l.drop (i+1)) gone ptrs (i+1)):=by
 obtain⟨h1,h2⟩:=Z8o.1 h;rw[Z9q h1,h2];rfl
def objR(shs:List (Int×Int))(old:Bool)(at_ tk:Nat)(w:Int):Option (Ob×Nat):=
 if old=true∧(adr w).2=0 then
  match shs[tk]? with
  |none=>none
  |some s=>if Zo s.1 s.2 then some (⟨at_,s.1,s.2,true,(adr w).1⟩,tk+1)else none
 else if(unpk w).2.2=0 then some (⟨at_,(unpk w).1,(unpk w).2.1,false,0⟩,tk)else none
theorem LA{w:Int}(h:(unpk w).2.2=0):Zo (unpk w).1 (unpk w).2.1=true:=by
 unfold unpk at*;split
 ·rename_i h1;exact h1.2
 ·rename_i h1;rw[if_neg h1]at h;simp at h
theorem Vk{shs:List (Int×Int)}{old:Bool}{at_ tk:Nat}{w:Int}{o:Ob}{t:Nat}(h:objR shs old at_ tk w=some (o,t)):Zo o.size o.ptrs=true∧o.at_=at_:=by
 unfold objR at h;split at h
 ·split at h
  ·cases h
  ·split at h
   ·rename_i s _ hs;cases h;exact⟨hs,rfl⟩
   ·cases h
 ·split at h
  ·rename_i h1;cases h;exact⟨LA h1,rfl⟩
  ·cases h
def YN(ws:List Int)(shs:List (Int×Int))(old:Bool):Nat→Nat→Nat→List Ob→List Ob×Int
 |0,_,_,_=>([],3)
 |f+1,at_,tk,acc=>
  match ws[at_]? with
  |none=>if tk<shs.length then([],3)else(acc,0)
  |some w=>match objR shs old at_ tk w with
   |none=>([],3)
   |some (o,t)=>
    if(ws.length:Int) <at_+1+o.size then([],2)
    else if ZL ((ws.drop (at_+1)).take o.size.toNat) o.gone o.ptrs 0=false then([],3)
    else YN ws shs old f (at_+1+o.size.toNat) t (acc++ [o])
def Zp(ws:List Int)(shs:List (Int×Int))(old:Bool):List Ob×Int:=YN ws shs old (ws.length+1) 0 0 []
def ObIn(n:Nat)(o:Ob):Prop:=(∃a:Nat,o.at_=a∧(a:Int)+1+o.size≤n)∧Zo o.size o.ptrs=true
theorem KR{shs:List (Int×Int)}{old:Bool}{at_ tk:Nat}{w:Int}{o:Ob}{t:Nat}(hw:U64 w)(h:objR shs old at_ tk w=some (o,t)):U64 o.target:=by
 unfold objR at h;split at h
 ·split at h
  ·cases h
  ·split at h
   ·cases h;obtain⟨h1,h2⟩:=hw;show 0≤(adr w).1∧(adr w).1<18446744073709551616;unfold adr;split
    ·simp
    split
    ·simp
    ·simp only;omega
   ·cases h
 ·split at h
  ·cases h;show(0:Int)≤0∧(0:Int) <18446744073709551616;omega
  ·cases h
theorem zR{ws:List Int}{shs:List (Int×Int)}{old:Bool}(hw: ∀w∈ws,U64 w): ∀(f at_ tk:Nat) (acc:List Ob),(∀o∈acc,ObIn ws.length o∧U64 o.target)→ ∀o∈(YN ws shs old f at_ tk acc).1,ObIn ws.length o∧U64 o.target
 |0,_,_,_,_=>by simp[YN]
 |f+1,at_,tk,acc,hacc=>by
  simp only[YN];split
  ·split
   ·simp
   ·exact hacc
  ·rename_i w hx;split
   ·simp
   ·rename_i o t ho;split
    ·simp
    ·rename_i hb;split
     ·simp
     ·refine zR hw f _ _ _ fun o' ho'=> ?_;rcases Z90.1 ho' with h|h
      ·exact hacc o' h
      ·simp only[Za9]at h;subst h;obtain⟨h1,h2⟩:=Vk ho;exact⟨⟨⟨at_,h2,by omega⟩,h1⟩,KR (hw w (Z8x hx)) ho⟩
theorem zO{ws:List Int}{shs:List (Int×Int)}{old:Bool}(hw: ∀w∈ws,U64 w): ∀o∈(Zp ws shs old).1,ObIn ws.length o∧U64 o.target:=zR hw _ _ _ _ (by simp)
theorem JZ{ws:List Int}{shs:List (Int×Int)}{old:Bool}: ∀(f at_ tk:Nat) (acc:List Ob),at_≤ws.length→acc.length≤at_→(YN ws shs old f at_ tk acc).1.length≤ws.length
 |0,_,_,_,_,_=>by simp[YN]
 |f+1,at_,tk,acc,ha,hacc=>by
  simp only[YN];split
  ·split
   ·simp
   ·simp only;omega
  ·split
   ·simp
   ·rename_i o t ho;split
    ·simp
    ·rename_i hb;split
     ·simp
     ·have hsh:=Z4.1 (Vk ho).1;refine JZ f _ _ _ (by omega) (by simp;omega)
theorem JA{ws:List Int}{shs:List (Int×Int)}{old:Bool}:(Zp ws shs old).1.length≤ws.length:=JZ _ _ _ _ (by omega) (by simp)
end Vm
end
section
namespace Vm
open Go
open Go.Proofs
set_option maxRecDepth 100000
end Vm
end
section
namespace Vm
open Go Go.Proofs
set_option maxRecDepth 100000
set_option maxHeartbeats 1000000
def ZE(h:Hp)(part at_:Int):Int:=(ZC (layH h) part at_).1
def atR(h:Hp)(part:Int)(l:List Ob)(a:Int):Option Ob:=l.find? fun o=>ZE h part o.at_==a
theorem Z2D{h:Hp}{part a:Int}{l:List Ob}{o:Ob}(ho:atR h part l a=some o):o∈l:=Za5 ho
def Yn(h:Hp)(ws:List Int)(low:List Ob):Nat→Nat→List (Int×Int)→Option (List (Int×Int))
 |0,_,_=>none
 |f+1,i,acc=>
  match ws[i]? with
  |none=>some acc
  |some w=>if(adr w).2=0 then(match atR h 1 low (adr w).1 with|none=>none|some o=>Yn h ws low f (i+1+o.size.toNat) (acc++ [(o.size,o.ptrs)]))
   else if(unpk w).2.2=0 then Yn h ws low f (i+1+(unpk w).1.toNat) acc else none
def Yx(h:Hp)(ws:List Int)(low:List Ob):Option (List (Int×Int)):=Yn h ws low (ws.length+1) 0 []
end Vm
end
section
namespace Vm
open Go Go.Proofs
set_option maxRecDepth 100000
set_option maxHeartbeats 1000000
structure Pts where
 low:List Ob
 high:List Ob
 old:List Ob
 far:List Ob
 deriving Inhabited
def Pts.at(p:Pts)(k:Int):List Ob:=if k=1 then p.low else if k=2 then p.high else if k=3 then p.old else p.far
@[simp] theorem Pts.at1(p:Pts):p.at 1=p.low:=rfl
@[simp] theorem Pts.at2(p:Pts):p.at 2=p.high:=rfl
@[simp] theorem Pts.at3(p:Pts):p.at 3=p.old:=rfl
@[simp] theorem Pts.at4(p:Pts):p.at 4=p.far:=rfl
def Y6(h:Hp):Option Pts:=
 let low:=Zp h.low [] false
 let high:=Zp h.high [] false
 if low.2≠0∨high.2≠0 then none else
 let p:=Yx h h.old low.1
 let q:=Yx h h.far low.1
 let old:=Zp h.old (p.getD []) true
 let far:=Zp h.far (q.getD []) true
 if p=none∨q=none∨old.2≠0∨far.2≠0 then none else some ⟨low.1,high.1,old.1,far.1⟩
def YP(h:Hp)(p:Pts)(w one two:Int):Bool:=decide (w=0)||(decide ((adr w).2=0)&&((atR h one (p.at one) (adr w).1).isSome||(atR h two (p.at two) (adr w).1).isSome))
def wtO(o:Ob):Nat:=if o.gone then 0 else 1+o.size.toNat
def wtL(l:List Ob):Nat:=(l.map wtO).sum
theorem zd{l:List Ob}{i:Nat}{o:Ob}(h:l[i]? =some o):wtL (l.take (i+1))=wtL (l.take i)+wtO o:=by
 unfold wtL;rw[Z9H,h,Z9Q,List.sum_append];simp
theorem Ru{l:List Ob}(h: ∀o∈l,Zo o.size o.ptrs=true):wtL l≤256*l.length:=by
 induction l with
 |nil=>simp[wtL]
 |cons o l ih=>
  have h1:=ih fun x hx=>h x (by simp[hx]);have h2:=Z4.1 (h o (by simp));have h3:wtO o≤256:=by unfold wtO;split<;>omega
  have h4:wtL (o::l)=wtO o+wtL l:=by simp[wtL]
  simp only[Z9o];omega
def Yi(p:Pts):Nat:=wtL p.old+wtL p.far
def tgL(l:List Ob)(a:Int):Nat:=(l.filter fun o=>o.gone&&decide (o.target=a)).length
def Sh(p:Pts)(a:Int):Nat:=tgL p.old a+tgL p.far a
end Vm
end
section
namespace Vm
open Go Go.Proofs
set_option maxRecDepth 100000
set_option maxHeartbeats 1000000
def numR(h:Hp):Bool:=
 Z8 (layH h)&&decide (h.roots.length≤16)&&decide (0≤h.scan)&&decide (h.scan≤h.low.length)&&
  (if h.cycle then decide (h.scan<h.low.length)else decide (h.scan=h.low.length)&&decide (h.old.length=0)&&decide (h.far.length=0))
def UR(h:Hp)(p:Pts)(part:Int)(k:Nat):Bool:=
 let w:=((Z5 h part)[k]?).getD 0
 let to:=YP h p w 1 2
 let from_:=YP h p w 3 4
 if 2<part then from_ else if part=1∧h.scan≤k then to||from_ else to
def yk(h:Hp)(p:Pts)(part:Int)(o:Ob):Bool:=(List.range o.ptrs.toNat).all fun j=>UR h p part (o.at_.toNat+1+j)
def Wm(h:Hp)(p:Pts)(part:Int):Bool:=(p.at part).all (yk h p part)
theorem zp{α:Type}{q:α→Bool}{l:List α}{i:Nat}{x:α}(h:l[i]? =some x):(l.take (i+1)).all q=((l.take i).all q&&q x):=by
 rw[Z9H,h,List.all_append];simp
theorem Z0A{α:Type}{q:α→Bool}{l:List α}{i:Nat}{x:α}(h:l[i]? =some x)(hq:q x=false):l.all q=false:=by
 rw[List.all_eq_false];exact⟨x,Z8x h,by simp[hq]⟩
def tgOk(h:Hp)(p:Pts)(o:Ob):Bool:=decide (Sh p (ZE h 1 o.at_)=1)
def Ue(h:Hp)(p:Pts):Bool:=
 (!h.cycle||p.low.all (tgOk h p))&&h.roots.all (fun w=>YP h p w 1 2)&&Wm h p 1&&Wm h p 2&&Wm h p 3&&Wm h p 4&&decide ((h.low.length:Int)+h.high.length+Yi p≤h.cap)
def ZD(h:Hp):Bool:=numR h&&match Y6 h with
 |none=>false
 |some p=>Ue h p
theorem Zx{h:Hp}(hh:h.ok)(k:Int):(∀w∈Z5 h k,U64 w)∧(Z5 h k).length≤1000000:=by
 unfold Z5;split
 ·exact⟨hh.lowW,hh.low⟩
 split
 ·exact⟨hh.highW,hh.high⟩
 split
 ·exact⟨hh.oldW,hh.old⟩
 ·exact⟨hh.farW,hh.far⟩
theorem Lv{h:Hp}(hr:ZD h=true): ∃p,Y6 h=some p∧Ue h p=true∧numR h=true:=by
 unfold ZD at hr;simp only[Z8u]at hr;cases hp:Y6 h with
 |none=>rw[hp]at hr;simp at hr
 |some p=>rw[hp]at hr;exact⟨p,rfl,hr.2,hr.1⟩
def Uh(h:Hp):Int:=if ZD h then Yi ((Y6 h).getD default)else 0
end Vm
end
section
namespace Vm
open Go
open Go.Proofs
set_option maxRecDepth 100000
end Vm
end
section
namespace Vm
open Go Go.Proofs
set_option maxRecDepth 100000
set_option maxHeartbeats 1000000
theorem yA{w:Int}(hw:U64 w):U64 (adr w).1:=by
 unfold U64 adr at*;split
 ·simp
 split
 ·simp
 ·simp only;omega
theorem Z1F{l:Ly}{a:Int}(h:(ZJ l a).2.2=0):Z8 l=true∧1≤(ZJ l a).1∧(ZJ l a).1≤4∧0≤(ZJ l a).2.1∧(ZJ l a).2.1<sizL l (ZJ l a).1∧a=fstL l (ZJ l a).1+(ZJ l a).2.1:=by
 unfold ZJ at*;cases hr:Z8 l
 ·simp[hr]at h
 simp only[hr]at h⊢;simp only[Zar,Z9f]at h⊢;by_cases h1:inL l a 1=true
 ·rw[if_pos h1];have:=WJ.1 h1;simp only;refine⟨trivial,by omega,by omega,by omega,by omega,by omega⟩
 rw[if_neg h1]at h⊢;by_cases h2:inL l a 2=true
 ·rw[if_pos h2];have:=WJ.1 h2;simp only;refine⟨trivial,by omega,by omega,by omega,by omega,by omega⟩
 rw[if_neg h2]at h⊢;by_cases h3:inL l a 3=true
 ·rw[if_pos h3];have:=WJ.1 h3;simp only;refine⟨trivial,by omega,by omega,by omega,by omega,by omega⟩
 rw[if_neg h3]at h⊢;by_cases h4:inL l a 4=true
 ·rw[if_pos h4];have:=WJ.1 h4;simp only;refine⟨trivial,by omega,by omega,by omega,by omega,by omega⟩
 rw[if_neg h4]at h;simp at h
theorem Ym{h:Hp}{k:Int}(hk:1≤k∧k≤4):sizL (layH h) k=(Z5 h k).length:=by
 have:k=1∨k=2∨k=3∨k=4:=by omega
 rcases this with rfl|rfl|rfl|rfl<;>rfl
def Hp.zero:Hp:=⟨0,0,0,false,0,[],[],[],[],[]⟩
def zr(ws:List Int)(a:Nat):Nat→List Int
 |0=>ws
 |i+1=>(zr ws a i).set (a+i) 0
@[simp] theorem yg(ws:List Int)(a n:Nat):(zr ws a n).length=ws.length:=by
 induction n with
 |zero=>rfl
 |succ n ih=>simp[zr,ih]
def Y2(h:Hp)(part:Int)(a n:Nat):Hp:= {h with low:=h.low++((Z5 h part).take (a+n)).drop a}
def fwdC(h:Hp)(part:Int)(a n:Nat):Int×Hp×Int:=
 if(Z5 h part).length<a+n then(0,Hp.zero,2)
 else if YZ (layH h) <n then(0,Hp.zero,7)
 else
  let to:=(YO (ZC (layH (Y2 h part a n)) 1 h.low.length).1).1
  (to,YE (Y2 h part a n) part ((zr (Z5 h part) a n).set a to),0)
theorem Z4T{l:Ly}{k a:Int}:U64 (ZC l k a).1:=by
 unfold ZC;cases hr:Z8 l
 ·simp[U64]
 simp only[Zar,Z9f];split
 ·simp[U64]
 split
 ·simp[U64]
 ·have:=Zv hr k;simp only[U64];omega
theorem je{a:Int}:U64 (YO a).1:=by
 unfold YO U64;split
 ·simp
 ·simp only;omega
def fwd(h:Hp)(w:Int):Int×Hp×Int:=
 if Z8 (layH h)=false then(0,Hp.zero,1)
 else if w=0 then(0,h,0)
 else if(adr w).2≠0 then(0,Hp.zero,3)
 else if(ZJ (layH h) (adr w).1).2.2≠0 then(0,Hp.zero,6)
 else if(ZJ (layH h) (adr w).1).1<3 then(w,h,0)
 else if(adr ((Z5 h (ZJ (layH h) (adr w).1).1).getD (ZJ (layH h) (adr w).1).2.1.toNat 0)).2=0 then((Z5 h (ZJ (layH h) (adr w).1).1).getD (ZJ (layH h) (adr w).1).2.1.toNat 0,h,0)
 else if(unpk ((Z5 h (ZJ (layH h) (adr w).1).1).getD (ZJ (layH h) (adr w).1).2.1.toNat 0)).2.2≠0 then(0,Hp.zero,3)
 else fwdC h (ZJ (layH h) (adr w).1).1 (ZJ (layH h) (adr w).1).2.1.toNat ((unpk ((Z5 h (ZJ (layH h) (adr w).1).1).getD (ZJ (layH h) (adr w).1).2.1.toNat 0)).1.toNat+1)
end Vm
namespace Vm
open Go Go.Proofs
set_option maxRecDepth 100000
set_option maxHeartbeats 1000000
@[simp] theorem Z84(k:IntKind)(a b c d e f:Int):aiV (.agg [.int k a,.int k b,.int k c,.int k d,.int k e,.int k f]) (.int .i64 0) 6 1 false=some (.int k a):=rfl
@[simp] theorem Z7R(a b c d e f:Bool):aiV (.agg [.bool a,.bool b,.bool c,.bool d,.bool e,.bool f]) (.int .i64 0) 6 1 false=some (.bool a):=rfl
@[simp] theorem Z88(k:IntKind)(a b c d e f:Int):aiV (.agg [.int k a,.int k b,.int k c,.int k d,.int k e,.int k f]) (.int .i64 1) 6 1 false=some (.int k b):=rfl
@[simp] theorem Z7Y(a b c d e f:Bool):aiV (.agg [.bool a,.bool b,.bool c,.bool d,.bool e,.bool f]) (.int .i64 1) 6 1 false=some (.bool b):=rfl
@[simp] theorem Z8a(k:IntKind)(a b c d e f:Int):aiV (.agg [.int k a,.int k b,.int k c,.int k d,.int k e,.int k f]) (.int .i64 2) 6 1 false=some (.int k c):=rfl
@[simp] theorem Z7P(a b c d e f:Bool):aiV (.agg [.bool a,.bool b,.bool c,.bool d,.bool e,.bool f]) (.int .i64 2) 6 1 false=some (.bool c):=rfl
@[simp] theorem Z8e(k:IntKind)(a b c d e f:Int):aiV (.agg [.int k a,.int k b,.int k c,.int k d,.int k e,.int k f]) (.int .i64 3) 6 1 false=some (.int k d):=rfl
@[simp] theorem Z7L(a b c d e f:Bool):aiV (.agg [.bool a,.bool b,.bool c,.bool d,.bool e,.bool f]) (.int .i64 3) 6 1 false=some (.bool d):=rfl
@[simp] theorem Z87(k:IntKind)(a b c d e f:Int):aiV (.agg [.int k a,.int k b,.int k c,.int k d,.int k e,.int k f]) (.int .i64 4) 6 1 false=some (.int k e):=rfl
@[simp] theorem Z7W(a b c d e f:Bool):aiV (.agg [.bool a,.bool b,.bool c,.bool d,.bool e,.bool f]) (.int .i64 4) 6 1 false=some (.bool e):=rfl
@[simp] theorem Z8h(k:IntKind)(a b c d e f:Int):aiV (.agg [.int k a,.int k b,.int k c,.int k d,.int k e,.int k f]) (.int .i64 5) 6 1 false=some (.int k f):=rfl
@[simp] theorem Z80(a b c d e f:Bool):aiV (.agg [.bool a,.bool b,.bool c,.bool d,.bool e,.bool f]) (.int .i64 5) 6 1 false=some (.bool f):=rfl
end Vm
namespace Vm
open Go Go.Proofs
set_option maxRecDepth 100000
set_option maxHeartbeats 1000000
theorem Z14{h:Hp}(hh:h.ok){k:Int}{l:List Int}(h1:l.length≤1000000)(h2: ∀w∈l,U64 w):(YE h k l).ok:=by
 obtain⟨a1,a2,a3,a4,a5,a6,a7,a8,a9,b1,b2,b3,b4,b5⟩:=hh;unfold YE;split
 ·exact⟨a1,a2,a3,a4,h1,a6,a7,a8,a9,h2,b2,b3,b4,b5⟩
 split
 ·exact⟨a1,a2,a3,a4,a5,h1,a7,a8,a9,b1,h2,b3,b4,b5⟩
 split
 ·exact⟨a1,a2,a3,a4,a5,a6,h1,a8,a9,b1,b2,h2,b4,b5⟩
 ·exact⟨a1,a2,a3,a4,a5,a6,a7,h1,a9,b1,b2,b3,h2,b5⟩
end Vm
end
section
namespace Vm
open Go Go.Proofs
set_option maxRecDepth 100000
theorem Le{n:Nat}{x:V}(h:tyV Try.prog (n+1) 3 x): ∃m,x=vi m∧Fit m:=by
 obtain⟨m,rfl,h1,h2⟩:=Z2O Try.underlying3 h;exact⟨m,rfl,h1,h2⟩
theorem Z5s{n:Nat}{x:V}(h:tyV Try.prog (n+1) 22 x): ∃m,x=vu m∧U64 m:=by
 obtain⟨m,rfl,h1,h2⟩:=Z2O Try.underlying22 h;exact⟨m,rfl,h1,Int.lt_of_le_of_lt h2 (by decide)⟩
theorem qV{n:Nat}{x:V}(h:tyV Try.prog (n+2) 27 x): ∃l:List Int,x= .sl (l.map vi)∧l.length≤maxLen∧ ∀p∈l,Fit p:=
 QU Try.underlying27 h fun y hy=>Le hy
theorem Z5X{n:Nat}{x:V}(h:tyV Try.prog (n+2) 23 x): ∃l:List Int,x= .sl (l.map vu)∧l.length≤maxLen∧ ∀p∈l,U64 p:=
 QU Try.underlying23 h fun y hy=>Z5s hy
def Nd.fits(x:Nd):Prop:=(x.ptrs.length≤maxLen∧ ∀p∈x.ptrs,Fit p)∧x.data.length≤maxLen∧ ∀p∈x.data,U64 p
theorem Z48{n:Nat}{x:V}(h:tyV Try.prog (n+3) 156 x): ∃a:Nd,x=ndV a∧a.fits:=by
 obtain⟨ys,rfl,hl,hf⟩:=Ju Try.underlying156 h
 match ys,hl with
 | [a,b],_=>
   obtain⟨ps,rfl,h1,h2⟩:=qV (hf 0 _ a rfl rfl);obtain⟨ds,rfl,h3,h4⟩:=Z5X (hf 1 _ b rfl rfl);exact⟨⟨ps,ds⟩,rfl,⟨h1,h2⟩,h3,h4⟩
theorem Z3J{n:Nat}{x:V}(h:tyV Try.prog (n+4) 26 x): ∃l:List Nd,x= .sl (l.map ndV)∧l.length≤maxLen∧ ∀a∈l,a.fits:=
 QU Try.underlying26 h fun y hy=>Z48 hy
theorem Z7z{n:Nat}{x:V}(h:tyV Try.prog (n+5) 29 x): ∃r:Rw,x=rwV r∧r.ok:=by
 obtain⟨ys,rfl,hl,hf⟩:=Ju Try.underlying29 h
 match ys,hl with
 | [a,b,c,d,e,f,g],_=>
   obtain⟨ns,rfl,_,h0⟩:=Z3J (hf 0 _ a rfl rfl);obtain⟨rs,rfl,_,h1⟩:=qV (hf 1 _ b rfl rfl);obtain⟨cs,rfl,_,h2⟩:=qV (hf 2 _ c rfl rfl);obtain⟨d,rfl,h3⟩:=Z5s (hf 3 _ d rfl rfl);obtain⟨e,rfl,h4⟩:=Le (hf 4 _ e rfl rfl);obtain⟨f,rfl,h5⟩:=Le (hf 5 _ f rfl rfl);obtain⟨g,rfl,h6⟩:=Le (hf 6 _ g rfl rfl);exact⟨⟨ns,rs,cs,d,e,f,g⟩,rfl,fun n hn p hp=>(h0 n hn).1.2 p hp,fun n hn p hp=>(h0 n hn).2.2 p hp,h1,h2,h3,h4,h5,h6⟩
theorem own:ownKnob Try.prog.godebug=none:=by kernel_rfl
theorem laidOut:laidOutB Try.prog=true:=by kernel_rfl
end Vm
end
section
namespace Vm
open Go Go.Proofs Go.RowKit
set_option maxHeartbeats 2000000
set_option maxRecDepth 100000
section
variable {P:Program} {w:World}
theorem yT{o:Oper}{a:Act}{K:Act→World→Prop}{Q:Exit→Act→World→Prop}(s x:Operand)(t:TypeId)
  (ho:o.op= .call {callee:= .builtin .append,args:= #[s,x],argTypes:= #[t,t]}) {e:TypeId} (ht:P.underlying t=some (.slice e)) (hel:elOk P e=true)
  {B n:Nat} {v y:Value} {xs:List Value} (hs:a.eval s=v) (hx:a.eval x=y) (hown:w.ownsRow B e (P.cellsOf e) v n xs) (hB:B≤w.heap.size)
  {Gy:Nat→Prop} {l:List V} (hy:Rd w Gy (.sl l) y) (hk:Y7 (P.cellsOf e) l=true) (hlim:n+l.length≤lim)
  (h: ∀v' w' news,w'.ownsRow B e (P.cellsOf e) v' (n+l.length) (xs++news)→w.grownBy w' v.ownBlock→(v'.ownBlock=v.ownBlock∨(w.grownBy w' none∧w'.ownsRow w.heap.size e (P.cellsOf e) v' (n+l.length) (xs++news)))→
   (∀(i:Nat) (ck:V),(flat l)[i]? =some ck→ ∃u,news[i]? =some u∧Rd w Gy ck u)→K (a.put o.dst v') w'):o.wp P a w K Q:=by
 obtain⟨v',w',news,hr,h1,h2,h3,_,h5⟩:=Xv (ty:=o.type) ht hel hown hB hy hk hlim;unfold Oper.wp execOp;simp only[ho,resolve,invoke,builtin,Zag,ZbA,Zai,ZbS,Z8Q,Z9I,hs,hx,hr];exact h v' w' news h1 h2 h3 h5
theorem VH{ops:Array Oper}{rest:List Oper}{o:Oper}{a:Act}{Q:Exit→Act→World→Prop}(hgd:o.guard=none)(s x:Operand)(t:TypeId)
  (ho:o.op= .call {callee:= .builtin .append,args:= #[s,x],argTypes:= #[t,t]}) {e:TypeId} (ht:P.underlying t=some (.slice e)) (hel:elOk P e=true)
  {B n:Nat} {v y:Value} {xs:List Value} (hs:a.eval s=v) (hx:a.eval x=y) (hown:w.ownsRow B e (P.cellsOf e) v n xs) (hB:B≤w.heap.size)
  {Gy:Nat→Prop} {l:List V} (hy:Rd w Gy (.sl l) y) (hk:Y7 (P.cellsOf e) l=true) (hlim:n+l.length≤lim)
  (h: ∀v' w' news,w'.ownsRow B e (P.cellsOf e) v' (n+l.length) (xs++news)→w.grownBy w' v.ownBlock→(v'.ownBlock=v.ownBlock∨(w.grownBy w' none∧w'.ownsRow w.heap.size e (P.cellsOf e) v' (n+l.length) (xs++news)))→
   (∀(i:Nat) (ck:V),(flat l)[i]? =some ck→ ∃u,news[i]? =some u∧Rd w Gy ck u)→wpList P ops Q rest (a.put o.dst v') w'):wpList P ops Q (o::rest) a w:=
 wpList_plain hgd fun _ hK=>yT s x t ho ht hel hs hx hown hB hy hk hlim fun v' w' news h1 h2 h3 h4=>hK _ _ (h v' w' news h1 h2 h3 h4)
end
def nums(k:IntKind)(l:List Int):List Value:=l.map (Value.int k)
theorem Ub{w:World}{G:Nat→Prop}{k:IntKind}{l:List Int}{news:List Value}(h: ∀(i:Nat) (ck:V),(flat (l.map (V.int k)))[i]? =some ck→ ∃u,news[i]? =some u∧Rd w G ck u)(hl:news.length=l.length):news=nums k l:=by
 have hflat:flat (l.map (V.int k))=l.map (V.int k):=by
  clear h hl
  induction l with
  |nil=>rfl
  |cons a l ih=>rw[Z8Q,X7,ih];rfl
 apply ZaP;intro i;unfold nums;by_cases hi:i<l.length
 ·obtain⟨u,hu,hr⟩:=h i (.int k l[i]) (by rw[hflat,Z8D,Z8n hi];rfl);rw[hu,Z8D,Z8n hi];cases hr;rfl
 ·rw[Z9x (by omega),Z9x (by simp;omega)]
theorem Z3{w:World}{B:Nat}{e:TypeId}{z n:Nat}{v:Value}{xs:List Value}(h:w.ownsRow B e z v n xs): ∃a c,v= .slice a n c:=by
 rcases h.2 with ⟨rfl,rfl⟩ | ⟨g,cap,cur,rfl,_⟩
 ·exact⟨_,_,rfl⟩
 ·exact⟨_,_,rfl⟩
theorem Ze{w w':World}{B:Nat}{e:TypeId}{z n:Nat}{v:Value}{xs:List Value}(h:w.ownsRow B e z v n xs)(hs: ∀b,v.ownBlock=some b→w'.heap[b]? =w.heap[b]?):w'.ownsRow B e z v n xs:=by
 refine⟨h.1,?_⟩;rcases h.2 with ⟨h1,h2⟩ | ⟨g,cap,cur,rfl,h2,h3,h4⟩
 ·exact .inl ⟨h1,h2⟩
 ·exact .inr ⟨g,cap,cur,rfl,h2,by rw[hs g rfl];exact h3,h4⟩
theorem Zk{w:World}{b o:Nat}{cs:Array Value}{T:TypeId}(h:w.heap[b]? =some (.cells cs T (0,0))):w.frozen? ⟨b,o,none⟩=false:=by
 simp[World.frozen?,h]
theorem elU:elOk Try.prog 22=true:=by kernel_rfl
theorem ceU:Try.prog.cellsOf 22=1:=by kernel_rfl
theorem Za{w:World}{b:Nat}{o:Obj}(h:w.heap[b]? =some o):b<w.heap.size:=(Z8Z.1 h).1
theorem Wl{w:World}{B B':Nat}{e:TypeId}{z n:Nat}{v:Value}{xs:List Value}(h:w.ownsRow B e z v n xs)(hB:B'≤B):w.ownsRow B' e z v n xs:=by
 refine⟨h.1,?_⟩;rcases h.2 with h2| ⟨g,cap,cur,hv,hb,h3⟩
 ·exact .inl h2
 ·exact .inr ⟨g,cap,cur,hv,Z8Y hB hb,h3⟩
theorem Vp(k:IntKind)(l:List Int)(i:Nat)(x:Int):nums k (l.set i x)=(nums k l).set i (.int k x):=by unfold nums;rw[Zb1]
theorem Z6Z:(Try.prog.info? 22).map (fun i=>(i.zero,i.size,i.bytes))=some (some (.int .u64 0),1,8):=by kernel_rfl
section
variable {w:World} {B:Nat} {G:Nat→Prop}
theorem Uc{k:IntKind}(l:List Int):flat (l.map (V.int k))=l.map (V.int k):=by
 induction l with
 |nil=>rfl
 |cons a l ih=>rw[Z8Q,X7,ih];rfl
theorem Vc{k:IntKind}{e:TypeId}{v:Value}{l:List Int}(h:w.ownsRow B e 1 v l.length (nums k l))(hG: ∀c,B≤c→c<w.heap.size→G c):Rd w G (.sl (l.map (V.int k))) v:=by
 rcases h.2 with ⟨rfl,h0⟩ | ⟨g,cap,cur,rfl,hb,hg,hnc,hcm,_⟩
 ·have:l= []:=Z9O.1 h0;subst this;exact .nil _ _ (by unfold maxLen;omega)
 ·have:=Rd.sl (w:=w) (G:=G) (l.map (V.int k)) g 0 cap 1 (fun i=>(nums k l).getD i undef) (by simpa using hnc) hcm (hG g hb (Za hg)) (fun x hx=>by
   obtain⟨n,_,rfl⟩:=Z8S.1 hx
   exact⟨rfl,fun c hc=>by simp[V.cells]at hc;subst hc;rfl⟩) (fun i hi=>by
    have hi':i<l.length:=by simpa using hi
    rw[Z97,h.cellAt i (by omega)];simp[nums,hi']) (fun i c hc=>by
    rw[Uc]at hc;obtain⟨hi,rfl⟩:=Z8o.1 hc;have hi':i<l.length:=by simpa using hi
    simp[nums,hi'];exact .int _ _)
  simpa using this
end
theorem Z0y(w:World)(b k:Nat)(hk:k=1∨k=2∨k=3∨k=4):
  Calls Try.prog 82 #[.pointer (some ⟨b,0,none⟩),.int .i64 k] w fun e w'=>e= .returned (.pointer (some ⟨b,4+k,none⟩))∧Below w.heap.size w w':=by
 go_enter Try.func82,Try.ntmps82;rcases hk with rfl|rfl|rfl|rfl
 all_goals
  go_wp2;go_region;go_wp2
  go_ret
  exact⟨rfl,((Z8E _ _).alloc (Z8v _) _).drew⟩
end Vm
end
section
namespace Vm
open Go Go.Proofs Go.RowKit
set_option maxHeartbeats 4000000
set_option maxRecDepth 100000
def lsH(h:Hp)(j:Nat):List Int:=if j=0 then h.low else if j=1 then h.high else if j=2 then h.old else if j=3 then h.far else h.roots
structure OwSt (w:World) (b:Nat) (el:Nat→Option Obj) (T:TypeId) (hd src:Nat→Value) (L:Nat→List Int) (k:Nat) (xs:Nat→Value) (wr:World):Prop where
 below:Below w.heap.size w wr
 new:w.heap.size≤b
 blk:wr.heap[b]? =some (.cells #[hd 0,hd 1,hd 2,hd 3,hd 4,xs 0,xs 1,xs 2,xs 3,src 4] T (0,0))
 elder: ∀c,w.heap.size≤c→c<b→wr.heap[c]? =el c
 rest: ∀j,k≤j→xs j=src j
 own: ∀j,j<k→wr.ownsRow w.heap.size 22 1 (xs j) (L j).length (nums .u64 (L j))
 newer: ∀j,j<k→ ∀c,(xs j).ownBlock=some c→b<c
 apart: ∀i j,i<j→j<k→ ∀c,(xs i).ownBlock=some c→(xs j).ownBlock≠some c
theorem OwSt.next{w wr w1 w6:World}{b:Nat}{el:Nat→Option Obj}{T:TypeId}{hd src:Nat→Value}{L:Nat→List Int}{k:Nat}{xs:Nat→Value}(h:OwSt w b el T hd src L k xs wr)(hk:k<4)
  (hb:Below wr.heap.size wr w1) (hg:w1.grownBy w6 none) {v:Value} (ho:w6.ownsRow w.heap.size 22 1 v (L k).length (nums .u64 (L k))) (hn: ∀c,v.ownBlock=some c→w1.heap.size≤c):
  OwSt w b el T hd src L (k+1) (fun j=>if j=k then v else xs j) (w6.setCell ⟨b,5+k,none⟩ v):=by
 have hbl:b<wr.heap.size:=Za h.blk;have hs1:=hb.size;have hs0:=h.below.size;have hs2:=hg.size
 have keep: ∀c,c<wr.heap.size→c≠b→(w6.setCell ⟨b,5+k,none⟩ v).heap[c]? =wr.heap[c]? :=fun c hc hne=>by
  rw[Z8I _ _ _ _ hne,hg.block c (by omega) (by simp),hb.block c hc]
 have h6:w6.heap[b]? =some (.cells #[hd 0,hd 1,hd 2,hd 3,hd 4,xs 0,xs 1,xs 2,xs 3,src 4] T (0,0)):=by
  rw[hg.block b (by omega) (by simp),hb.block b hbl,h.blk]
 refine⟨((h.below.trans (hb.mono hs0)).grown hg (by omega) (by simp)).setCell h.new _,h.new,?_,?_,?_,?_,?_,?_⟩
 ·have:k=0∨k=1∨k=2∨k=3:=by omega
  rcases this with rfl|rfl|rfl|rfl<;>simp[World.setCell,Z8R,h6]
 ·intro c h1 h2;rw[keep c (by omega) (by omega)];exact h.elder c h1 h2
 ·intro j hj;rw[if_neg (by omega)];exact h.rest j (by omega)
 ·intro j hj;by_cases hjk:j=k
  ·subst hjk;rw[if_pos rfl];exact Ze ho fun c hc=>Z8I _ _ _ _ (by have:=hn c hc;show c≠b;omega)
  ·rw[if_neg hjk];have hoj:=h.own j (by omega);exact Ze hoj fun c hc=>keep c (hoj.lt c hc).2 (by have:=h.newer j (by omega) c hc;omega)
 ·intro j hj c hc;by_cases hjk:j=k
  ·rw[if_pos hjk]at hc;have:=hn c hc;omega
  ·rw[if_neg hjk]at hc;exact h.newer j (by omega) c hc
 ·intro i j hij hj c hc;rw[if_neg (by omega)]at hc;by_cases hjk:j=k
  ·rw[if_pos hjk];intro e;have:=hn c e;have:=((h.own i (by omega)).lt c hc).2;omega
  ·rw[if_neg hjk];exact h.apart i j hij (by omega) c hc
structure HOwn (B:Nat) (w:World) (h:Hp) (x:Nat→Value):Prop where
 own: ∀j,j<5→w.ownsRow B 22 1 (x j) (lsH h j).length (nums .u64 (lsH h j))
 apart: ∀i j,i<j→j<5→ ∀c,(x i).ownBlock=some c→(x j).ownBlock≠some c
def hpA(h:Hp)(x:Nat→Value):Value:= .agg #[.int .u64 h.base,.int .i64 h.cap,.int .i64 h.to,.bool h.cycle,.int .i64 h.scan,x 0,x 1,x 2,x 3,x 4]
def Z1g(w:World)(h:Hp)(e:Ending)(w':World):Prop:= ∃x,e= .returned (hpA h x)∧Below w.heap.size w w'∧HOwn w.heap.size w' h x
theorem WI{h:Hp}(hh:h.ok)(k:Nat):(lsH h k).length≤1000000:=by
 unfold lsH;split
 ·exact hh.low
 split
 ·exact hh.high
 split
 ·exact hh.old
 split
 ·exact hh.far
 ·exact hh.roots
theorem qU(w:World)(b k:Nat)(hk:k<4):
  Calls Try.prog 82 #[.pointer (some ⟨b,0,none⟩),.int .i64 ((k+1:Nat):Int)] w fun e w'=>e= .returned (.pointer (some ⟨b,5+k,none⟩))∧Below w.heap.size w w':=by
 have:=Z0y w b (k+1) (by omega);rw[show 4+(k+1)=5+k by omega]at this;exact this
theorem WK(w:World)(G:Nat→Prop)(hG: ∀b,G b→b<w.heap.size)(h:Hp)(hh:h.ok)(src:Nat→Value)(hs: ∀j,j<5→Rd w G (.sl ((lsH h j).map vu)) (src j)):
  Calls Try.prog 48 #[hpA h src] w (Z1g w h):=by
 have HS:=Z8r hs;have HH:=Z8r hh;clear hs hh;unfold hpA;go_enter Try.func48,Try.ntmps48;go_wp2
 go_loopw [4] (fun i wr=> ∃(k:Nat) (xs:Nat→Value),i= .int .i64 ((k+1:Nat):Int)∧k≤4∧Hid (OwSt w (w.heap.size+2) (fun c=>if c=w.heap.size then some (.cells #[.int .u64 h.base,.int .i64 h.cap,.int .i64 h.to,.bool h.cycle,.int .i64 h.scan,src 0,src 1,src 2,src 3,src 4] 25 (0,0))else some (.cells #[.int .u64 0,.int .i64 0,.int .i64 0,.bool false,.int .i64 0,.slice none 0 0,.slice none 0 0,.slice none 0 0,.slice none 0 0,.slice none 0 0] 25 (0,0))) 141 (fun j=>if j=0 then .int .u64 h.base else if j=1 then .int .i64 h.cap else if j=2 then .int .i64 h.to else if j=3 then .bool h.cycle else .int .i64 h.scan) src (lsH h) k xs wr))
  (fun i _=>5- (intOf i).toNat)
 case atStart=>
  refine⟨0,src,rfl,by omega,Z8r ⟨(((Z8E _ _).alloc (Z8v _) _).alloc (by simp) _).alloc (by simp;omega) _,by omega,?_,?_,fun _ _=>rfl,fun j hj=>by omega,fun j hj=>by omega,fun i j _ hj=>by omega⟩⟩;have:=Z8C ((w.alloc (.cells #[.int .u64 h.base,.int .i64 h.cap,.int .i64 h.to,.bool h.cycle,.int .i64 h.scan,src 0,src 1,src 2,src 3,src 4] 25)).alloc (.cells #[.int .u64 0,.int .i64 0,.int .i64 0,.bool false,.int .i64 0,.slice none 0 0,.slice none 0 0,.slice none 0 0,.slice none 0 0,.slice none 0 0] 25)) (.cells #[.int .u64 h.base,.int .i64 h.cap,.int .i64 h.to,.bool h.cycle,.int .i64 h.scan,src 0,src 1,src 2,src 3,src 4] 141)
  ·simpa using this
  ·intro c h1 h2;have:c=w.heap.size∨c=w.heap.size+1:=by omega
   rcases this with rfl|rfl
   ·rw[if_pos rfl,Z8t _ _ _ (by simp;omega),Z8t _ _ _ (by simp)];exact Z8C _ _
   ·rw[if_neg (by omega),Z8t _ _ _ (by simp)];have:=Z8C (w.alloc (.cells #[.int .u64 h.base,.int .i64 h.cap,.int .i64 h.to,.bool h.cycle,.int .i64 h.scan,src 0,src 1,src 2,src 3,src 4] 25)) (.cells #[.int .u64 0,.int .i64 0,.int .i64 0,.bool false,.int .i64 0,.slice none 0 0,.slice none 0 0,.slice none 0 0,.slice none 0 0,.slice none 0 0] 25);simpa using this
 case round=>
  obtain⟨k,xs,rfl,hk,HI⟩:=hrel;have hsz:=Za HI.out.blk;by_cases hlt:k<4
  ·have hle:((k+1:Nat):Int)≤4:=by omega
   have c0:wr.cell? ⟨w.heap.size+2,5+k,none⟩=some (src k):=by
    rw[Z8s _ _ _ _ _ _ HI.out.blk];have h3:k=0∨k=1∨k=2∨k=3:=by omega
    have hr:=HI.out.rest k (Z8v _);rcases h3 with rfl|rfl|rfl|rfl<;>simp[←hr]
   have f0:wr.frozen? ⟨w.heap.size+2,5+k,none⟩=false:=Zk HI.out.blk;have hll:(lsH h k).length≤1000000:=WI HH.out k
   go_wp2_with (first
    | (go_at_call 82;refine(qU _ _ _ hlt).mono ?_;rintro e w1 ⟨rfl,hb1⟩;have c1:=(hb1.cell (p:=⟨w.heap.size+2,5+k,none⟩) (by exact hsz)).trans c0;have f1:=(hb1.frozen (p:=⟨w.heap.size+2,5+k,none⟩) (by exact hsz)).trans f0;have HR1:=Z8r ((HS.out k (by omega)).keep (w':=w1) (fun b hb=>by rw[hb1.block b (by have:=hG b hb;have:=HI.out.below.size;omega)];exact HI.out.below.block b (hG b hb)) (fun _ h=>h));have HB1:=Z8r hb1;have hs1:=hb1.size;have hs0:=HI.out.below.size;clear hb1)
    | (at_builtin;refine VH (B:=w.heap.size) (n:=0) (xs:= []) rfl _ _ _ rfl Try.underlying23 elU rfl rfl (Z9G _ _ _ _) (by omega) (l:=(lsH h k).map vu) (Gy:=G) HR1.out (by rw[ceU];exact WQ _) (by simp[lim];omega) ?_))
   intro v6 w6 news6 hown6 hgrow hat6 hn6;simp only[ceU]at hown6;have hl6:news6.length=(lsH h k).length:=by have:=hown6.1;simpa using this
   rw[Ub hn6 hl6]at hown6
   try simp only[Z8P,Z97,Z9d]at hown6
   obtain⟨a6,q6,hv6⟩:=Z3 hown6;subst hv6;have hnone:(Value.slice none 0 0).ownBlock=none:=rfl;rw[hnone]at hgrow;have c6:=(hgrow.cell_far ⟨w.heap.size+2,5+k,none⟩ (by show w.heap.size+2<_;omega) (by simp)).trans c1;have f6:=(hgrow.frozen_far ⟨w.heap.size+2,5+k,none⟩ (by show w.heap.size+2<_;omega) (by simp)).trans f1
   have hnew: ∀c,(Value.slice a6 (lsH h k).length q6).ownBlock=some c→w1.heap.size≤c:=by
    intro c hc;rcases hat6 with e| ⟨_,e⟩
    ·rw[e]at hc;cases hc
    ·exact(e.lt c hc).1
   have HN:=Z8r (HI.out.next hlt HB1.out hgrow hown6 hnew);clear hown6 hgrow hat6 hn6 hnew;go_wp2
   go_roundw
   case rel=>exact⟨k+1,_,by go_num,by omega,HN⟩
   case measure=>simp[intOf];omega
  ·have hk4:k=4:=by omega
   subst hk4;have b0:=HI.out.elder w.heap.size (by omega) (by omega);rw[if_pos rfl]at b0;have b1:=HI.out.elder (w.heap.size+1) (by omega) (by omega);rw[if_neg (by omega)]at b1;have c9:wr.cell? ⟨w.heap.size,9,none⟩=some (src 4):=by rw[Z8s _ _ _ _ _ _ b0];rfl
   have hll:(lsH h 4).length≤1000000:=WI HH.out 4;have HR1:=Z8r ((HS.out 4 (by omega)).keep (w':=wr) (fun b hb=>HI.out.below.block b (hG b hb)) (fun _ h=>h));have hs0:=HI.out.below.size
   go_wp2_with (at_builtin;refine VH (B:=w.heap.size) (n:=0) (xs:= []) rfl _ _ _ rfl Try.underlying23 elU rfl rfl (Z9G _ _ _ _) (by omega) (l:=(lsH h 4).map vu) (Gy:=G) HR1.out (by rw[ceU];exact WQ _) (by simp[lim];omega) ?_)
   intro v6 w6 news6 hown6 hgrow hat6 hn6;simp only[ceU]at hown6;have hl6:news6.length=(lsH h 4).length:=by have:=hown6.1;simpa using this
   rw[Ub hn6 hl6]at hown6
   try simp only[Z8P,Z97,Z9d]at hown6
   obtain⟨a6,q6,hv6⟩:=Z3 hown6;subst hv6;have hnone:(Value.slice none 0 0).ownBlock=none:=rfl;rw[hnone]at hgrow;obtain⟨a0',q0',e0⟩:=Z3 (HI.out.own 0 (by omega));obtain⟨a1',q1',e1⟩:=Z3 (HI.out.own 1 (by omega));obtain⟨a2',q2',e2⟩:=Z3 (HI.out.own 2 (by omega));obtain⟨a3',q3',e3⟩:=Z3 (HI.out.own 3 (by omega));have blk:wr.heap[w.heap.size+2]? =some (.cells #[.int .u64 h.base,.int .i64 h.cap,.int .i64 h.to,.bool h.cycle,.int .i64 h.scan,.slice a0' (lsH h 0).length q0',.slice a1' (lsH h 1).length q1',.slice a2' (lsH h 2).length q2',.slice a3' (lsH h 3).length q3',src 4] 141 (0,0)):=by rw[←e0,←e1,←e2,←e3];exact HI.out.blk
   have blk6:=(hgrow.block (w.heap.size+2) (by omega) (by simp)).trans blk;have b61:=(hgrow.block (w.heap.size+1) (by omega) (by simp)).trans b1;have x9:w6.cell? ⟨w.heap.size+2,9,none⟩=some (src 4):=by rw[Z8s _ _ _ _ _ _ blk6];rfl
   have y9:w6.frozen? ⟨w.heap.size+2,9,none⟩=false:=Zk blk6
   have blk7:(w6.setCell ⟨w.heap.size+2,9,none⟩ (Value.slice a6 (lsH h 4).length q6)).heap[w.heap.size+2]? =some (.cells #[.int .u64 h.base,.int .i64 h.cap,.int .i64 h.to,.bool h.cycle,.int .i64 h.scan,.slice a0' (lsH h 0).length q0',.slice a1' (lsH h 1).length q1',.slice a2' (lsH h 2).length q2',.slice a3' (lsH h 3).length q3',.slice a6 (lsH h 4).length q6] 141 (0,0)):=by
    simp[World.setCell,Z8R,blk6]
   have b71:(w6.setCell ⟨w.heap.size+2,9,none⟩ (Value.slice a6 (lsH h 4).length q6)).heap[w.heap.size+1]? =some (.cells #[.int .u64 0,.int .i64 0,.int .i64 0,.bool false,.int .i64 0,.slice none 0 0,.slice none 0 0,.slice none 0 0,.slice none 0 0,.slice none 0 0] 25 (0,0)):=by
    rw[Z8I _ _ _ _ (by simp)];exact b61
   have l0:(w6.setCell ⟨w.heap.size+2,9,none⟩ (Value.slice a6 (lsH h 4).length q6)).cell? ⟨w.heap.size+2,0,none⟩=some (Value.int IntKind.u64 h.base):=by rw[Z8s _ _ _ _ _ _ blk7];rfl
   have l1:(w6.setCell ⟨w.heap.size+2,9,none⟩ (Value.slice a6 (lsH h 4).length q6)).cell? ⟨w.heap.size+2,1,none⟩=some (Value.int IntKind.i64 h.cap):=by rw[Z8s _ _ _ _ _ _ blk7];rfl
   have l2:(w6.setCell ⟨w.heap.size+2,9,none⟩ (Value.slice a6 (lsH h 4).length q6)).cell? ⟨w.heap.size+2,2,none⟩=some (Value.int IntKind.i64 h.to):=by rw[Z8s _ _ _ _ _ _ blk7];rfl
   have l3:(w6.setCell ⟨w.heap.size+2,9,none⟩ (Value.slice a6 (lsH h 4).length q6)).cell? ⟨w.heap.size+2,3,none⟩=some (Value.bool h.cycle):=by rw[Z8s _ _ _ _ _ _ blk7];rfl
   have l4:(w6.setCell ⟨w.heap.size+2,9,none⟩ (Value.slice a6 (lsH h 4).length q6)).cell? ⟨w.heap.size+2,4,none⟩=some (Value.int IntKind.i64 h.scan):=by rw[Z8s _ _ _ _ _ _ blk7];rfl
   have l5:(w6.setCell ⟨w.heap.size+2,9,none⟩ (Value.slice a6 (lsH h 4).length q6)).cell? ⟨w.heap.size+2,5,none⟩=some (Value.slice a0' (lsH h 0).length q0'):=by rw[Z8s _ _ _ _ _ _ blk7];rfl
   have l6:(w6.setCell ⟨w.heap.size+2,9,none⟩ (Value.slice a6 (lsH h 4).length q6)).cell? ⟨w.heap.size+2,6,none⟩=some (Value.slice a1' (lsH h 1).length q1'):=by rw[Z8s _ _ _ _ _ _ blk7];rfl
   have l7:(w6.setCell ⟨w.heap.size+2,9,none⟩ (Value.slice a6 (lsH h 4).length q6)).cell? ⟨w.heap.size+2,7,none⟩=some (Value.slice a2' (lsH h 2).length q2'):=by rw[Z8s _ _ _ _ _ _ blk7];rfl
   have l8:(w6.setCell ⟨w.heap.size+2,9,none⟩ (Value.slice a6 (lsH h 4).length q6)).cell? ⟨w.heap.size+2,8,none⟩=some (Value.slice a3' (lsH h 3).length q3'):=by rw[Z8s _ _ _ _ _ _ blk7];rfl
   have l9:(w6.setCell ⟨w.heap.size+2,9,none⟩ (Value.slice a6 (lsH h 4).length q6)).cell? ⟨w.heap.size+2,9,none⟩=some (Value.slice a6 (lsH h 4).length q6):=by rw[Z8s _ _ _ _ _ _ blk7];rfl
   have m0:(w6.setCell ⟨w.heap.size+2,9,none⟩ (Value.slice a6 (lsH h 4).length q6)).cell? ⟨w.heap.size+1,0,none⟩=some (Value.int IntKind.u64 0):=by rw[Z8s _ _ _ _ _ _ b71];rfl
   have r0:(w6.setCell ⟨w.heap.size+2,9,none⟩ (Value.slice a6 (lsH h 4).length q6)).frozen? ⟨w.heap.size+1,0,none⟩=false:=Zk b71;have m1:(w6.setCell ⟨w.heap.size+2,9,none⟩ (Value.slice a6 (lsH h 4).length q6)).cell? ⟨w.heap.size+1,1,none⟩=some (Value.int IntKind.i64 0):=by rw[Z8s _ _ _ _ _ _ b71];rfl
   have r1:(w6.setCell ⟨w.heap.size+2,9,none⟩ (Value.slice a6 (lsH h 4).length q6)).frozen? ⟨w.heap.size+1,1,none⟩=false:=Zk b71;have m2:(w6.setCell ⟨w.heap.size+2,9,none⟩ (Value.slice a6 (lsH h 4).length q6)).cell? ⟨w.heap.size+1,2,none⟩=some (Value.int IntKind.i64 0):=by rw[Z8s _ _ _ _ _ _ b71];rfl
   have r2:(w6.setCell ⟨w.heap.size+2,9,none⟩ (Value.slice a6 (lsH h 4).length q6)).frozen? ⟨w.heap.size+1,2,none⟩=false:=Zk b71;have m3:(w6.setCell ⟨w.heap.size+2,9,none⟩ (Value.slice a6 (lsH h 4).length q6)).cell? ⟨w.heap.size+1,3,none⟩=some (Value.bool false):=by rw[Z8s _ _ _ _ _ _ b71];rfl
   have r3:(w6.setCell ⟨w.heap.size+2,9,none⟩ (Value.slice a6 (lsH h 4).length q6)).frozen? ⟨w.heap.size+1,3,none⟩=false:=Zk b71;have m4:(w6.setCell ⟨w.heap.size+2,9,none⟩ (Value.slice a6 (lsH h 4).length q6)).cell? ⟨w.heap.size+1,4,none⟩=some (Value.int IntKind.i64 0):=by rw[Z8s _ _ _ _ _ _ b71];rfl
   have r4:(w6.setCell ⟨w.heap.size+2,9,none⟩ (Value.slice a6 (lsH h 4).length q6)).frozen? ⟨w.heap.size+1,4,none⟩=false:=Zk b71;have m5:(w6.setCell ⟨w.heap.size+2,9,none⟩ (Value.slice a6 (lsH h 4).length q6)).cell? ⟨w.heap.size+1,5,none⟩=some (Value.slice none 0 0):=by rw[Z8s _ _ _ _ _ _ b71];rfl
   have r5:(w6.setCell ⟨w.heap.size+2,9,none⟩ (Value.slice a6 (lsH h 4).length q6)).frozen? ⟨w.heap.size+1,5,none⟩=false:=Zk b71;have m6:(w6.setCell ⟨w.heap.size+2,9,none⟩ (Value.slice a6 (lsH h 4).length q6)).cell? ⟨w.heap.size+1,6,none⟩=some (Value.slice none 0 0):=by rw[Z8s _ _ _ _ _ _ b71];rfl
   have r6:(w6.setCell ⟨w.heap.size+2,9,none⟩ (Value.slice a6 (lsH h 4).length q6)).frozen? ⟨w.heap.size+1,6,none⟩=false:=Zk b71;have m7:(w6.setCell ⟨w.heap.size+2,9,none⟩ (Value.slice a6 (lsH h 4).length q6)).cell? ⟨w.heap.size+1,7,none⟩=some (Value.slice none 0 0):=by rw[Z8s _ _ _ _ _ _ b71];rfl
   have r7:(w6.setCell ⟨w.heap.size+2,9,none⟩ (Value.slice a6 (lsH h 4).length q6)).frozen? ⟨w.heap.size+1,7,none⟩=false:=Zk b71;have m8:(w6.setCell ⟨w.heap.size+2,9,none⟩ (Value.slice a6 (lsH h 4).length q6)).cell? ⟨w.heap.size+1,8,none⟩=some (Value.slice none 0 0):=by rw[Z8s _ _ _ _ _ _ b71];rfl
   have r8:(w6.setCell ⟨w.heap.size+2,9,none⟩ (Value.slice a6 (lsH h 4).length q6)).frozen? ⟨w.heap.size+1,8,none⟩=false:=Zk b71;have m9:(w6.setCell ⟨w.heap.size+2,9,none⟩ (Value.slice a6 (lsH h 4).length q6)).cell? ⟨w.heap.size+1,9,none⟩=some (Value.slice none 0 0):=by rw[Z8s _ _ _ _ _ _ b71];rfl
   have r9:(w6.setCell ⟨w.heap.size+2,9,none⟩ (Value.slice a6 (lsH h 4).length q6)).frozen? ⟨w.heap.size+1,9,none⟩=false:=Zk b71
   have bF:(((((((((((w6.setCell ⟨w.heap.size+2,9,none⟩ (Value.slice a6 (lsH h 4).length q6)).setCell ⟨w.heap.size+1,0,none⟩ (Value.int IntKind.u64 h.base)).setCell ⟨w.heap.size+1,1,none⟩ (Value.int IntKind.i64 h.cap)).setCell ⟨w.heap.size+1,2,none⟩ (Value.int IntKind.i64 h.to)).setCell ⟨w.heap.size+1,3,none⟩ (Value.bool h.cycle)).setCell ⟨w.heap.size+1,4,none⟩ (Value.int IntKind.i64 h.scan)).setCell ⟨w.heap.size+1,5,none⟩ (Value.slice a0' (lsH h 0).length q0')).setCell ⟨w.heap.size+1,6,none⟩ (Value.slice a1' (lsH h 1).length q1')).setCell ⟨w.heap.size+1,7,none⟩ (Value.slice a2' (lsH h 2).length q2')).setCell ⟨w.heap.size+1,8,none⟩ (Value.slice a3' (lsH h 3).length q3')).setCell ⟨w.heap.size+1,9,none⟩ (Value.slice a6 (lsH h 4).length q6)).heap[w.heap.size+1]? =some (.cells #[.int .u64 h.base,.int .i64 h.cap,.int .i64 h.to,.bool h.cycle,.int .i64 h.scan,.slice a0' (lsH h 0).length q0',.slice a1' (lsH h 1).length q1',.slice a2' (lsH h 2).length q2',.slice a3' (lsH h 3).length q3',.slice a6 (lsH h 4).length q6] 25 (0,0)):=by
    simp[World.setCell,Z8R,b61]
   have z0:(((((((((((w6.setCell ⟨w.heap.size+2,9,none⟩ (Value.slice a6 (lsH h 4).length q6)).setCell ⟨w.heap.size+1,0,none⟩ (Value.int IntKind.u64 h.base)).setCell ⟨w.heap.size+1,1,none⟩ (Value.int IntKind.i64 h.cap)).setCell ⟨w.heap.size+1,2,none⟩ (Value.int IntKind.i64 h.to)).setCell ⟨w.heap.size+1,3,none⟩ (Value.bool h.cycle)).setCell ⟨w.heap.size+1,4,none⟩ (Value.int IntKind.i64 h.scan)).setCell ⟨w.heap.size+1,5,none⟩ (Value.slice a0' (lsH h 0).length q0')).setCell ⟨w.heap.size+1,6,none⟩ (Value.slice a1' (lsH h 1).length q1')).setCell ⟨w.heap.size+1,7,none⟩ (Value.slice a2' (lsH h 2).length q2')).setCell ⟨w.heap.size+1,8,none⟩ (Value.slice a3' (lsH h 3).length q3')).setCell ⟨w.heap.size+1,9,none⟩ (Value.slice a6 (lsH h 4).length q6)).cell? ⟨w.heap.size+1,0,none⟩=some (Value.int IntKind.u64 h.base):=by rw[Z8s _ _ _ _ _ _ bF];rfl
   have z1:(((((((((((w6.setCell ⟨w.heap.size+2,9,none⟩ (Value.slice a6 (lsH h 4).length q6)).setCell ⟨w.heap.size+1,0,none⟩ (Value.int IntKind.u64 h.base)).setCell ⟨w.heap.size+1,1,none⟩ (Value.int IntKind.i64 h.cap)).setCell ⟨w.heap.size+1,2,none⟩ (Value.int IntKind.i64 h.to)).setCell ⟨w.heap.size+1,3,none⟩ (Value.bool h.cycle)).setCell ⟨w.heap.size+1,4,none⟩ (Value.int IntKind.i64 h.scan)).setCell ⟨w.heap.size+1,5,none⟩ (Value.slice a0' (lsH h 0).length q0')).setCell ⟨w.heap.size+1,6,none⟩ (Value.slice a1' (lsH h 1).length q1')).setCell ⟨w.heap.size+1,7,none⟩ (Value.slice a2' (lsH h 2).length q2')).setCell ⟨w.heap.size+1,8,none⟩ (Value.slice a3' (lsH h 3).length q3')).setCell ⟨w.heap.size+1,9,none⟩ (Value.slice a6 (lsH h 4).length q6)).cell? ⟨w.heap.size+1,1,none⟩=some (Value.int IntKind.i64 h.cap):=by rw[Z8s _ _ _ _ _ _ bF];rfl
   have z2:(((((((((((w6.setCell ⟨w.heap.size+2,9,none⟩ (Value.slice a6 (lsH h 4).length q6)).setCell ⟨w.heap.size+1,0,none⟩ (Value.int IntKind.u64 h.base)).setCell ⟨w.heap.size+1,1,none⟩ (Value.int IntKind.i64 h.cap)).setCell ⟨w.heap.size+1,2,none⟩ (Value.int IntKind.i64 h.to)).setCell ⟨w.heap.size+1,3,none⟩ (Value.bool h.cycle)).setCell ⟨w.heap.size+1,4,none⟩ (Value.int IntKind.i64 h.scan)).setCell ⟨w.heap.size+1,5,none⟩ (Value.slice a0' (lsH h 0).length q0')).setCell ⟨w.heap.size+1,6,none⟩ (Value.slice a1' (lsH h 1).length q1')).setCell ⟨w.heap.size+1,7,none⟩ (Value.slice a2' (lsH h 2).length q2')).setCell ⟨w.heap.size+1,8,none⟩ (Value.slice a3' (lsH h 3).length q3')).setCell ⟨w.heap.size+1,9,none⟩ (Value.slice a6 (lsH h 4).length q6)).cell? ⟨w.heap.size+1,2,none⟩=some (Value.int IntKind.i64 h.to):=by rw[Z8s _ _ _ _ _ _ bF];rfl
   have z3:(((((((((((w6.setCell ⟨w.heap.size+2,9,none⟩ (Value.slice a6 (lsH h 4).length q6)).setCell ⟨w.heap.size+1,0,none⟩ (Value.int IntKind.u64 h.base)).setCell ⟨w.heap.size+1,1,none⟩ (Value.int IntKind.i64 h.cap)).setCell ⟨w.heap.size+1,2,none⟩ (Value.int IntKind.i64 h.to)).setCell ⟨w.heap.size+1,3,none⟩ (Value.bool h.cycle)).setCell ⟨w.heap.size+1,4,none⟩ (Value.int IntKind.i64 h.scan)).setCell ⟨w.heap.size+1,5,none⟩ (Value.slice a0' (lsH h 0).length q0')).setCell ⟨w.heap.size+1,6,none⟩ (Value.slice a1' (lsH h 1).length q1')).setCell ⟨w.heap.size+1,7,none⟩ (Value.slice a2' (lsH h 2).length q2')).setCell ⟨w.heap.size+1,8,none⟩ (Value.slice a3' (lsH h 3).length q3')).setCell ⟨w.heap.size+1,9,none⟩ (Value.slice a6 (lsH h 4).length q6)).cell? ⟨w.heap.size+1,3,none⟩=some (Value.bool h.cycle):=by rw[Z8s _ _ _ _ _ _ bF];rfl
   have z4:(((((((((((w6.setCell ⟨w.heap.size+2,9,none⟩ (Value.slice a6 (lsH h 4).length q6)).setCell ⟨w.heap.size+1,0,none⟩ (Value.int IntKind.u64 h.base)).setCell ⟨w.heap.size+1,1,none⟩ (Value.int IntKind.i64 h.cap)).setCell ⟨w.heap.size+1,2,none⟩ (Value.int IntKind.i64 h.to)).setCell ⟨w.heap.size+1,3,none⟩ (Value.bool h.cycle)).setCell ⟨w.heap.size+1,4,none⟩ (Value.int IntKind.i64 h.scan)).setCell ⟨w.heap.size+1,5,none⟩ (Value.slice a0' (lsH h 0).length q0')).setCell ⟨w.heap.size+1,6,none⟩ (Value.slice a1' (lsH h 1).length q1')).setCell ⟨w.heap.size+1,7,none⟩ (Value.slice a2' (lsH h 2).length q2')).setCell ⟨w.heap.size+1,8,none⟩ (Value.slice a3' (lsH h 3).length q3')).setCell ⟨w.heap.size+1,9,none⟩ (Value.slice a6 (lsH h 4).length q6)).cell? ⟨w.heap.size+1,4,none⟩=some (Value.int IntKind.i64 h.scan):=by rw[Z8s _ _ _ _ _ _ bF];rfl
   have z5:(((((((((((w6.setCell ⟨w.heap.size+2,9,none⟩ (Value.slice a6 (lsH h 4).length q6)).setCell ⟨w.heap.size+1,0,none⟩ (Value.int IntKind.u64 h.base)).setCell ⟨w.heap.size+1,1,none⟩ (Value.int IntKind.i64 h.cap)).setCell ⟨w.heap.size+1,2,none⟩ (Value.int IntKind.i64 h.to)).setCell ⟨w.heap.size+1,3,none⟩ (Value.bool h.cycle)).setCell ⟨w.heap.size+1,4,none⟩ (Value.int IntKind.i64 h.scan)).setCell ⟨w.heap.size+1,5,none⟩ (Value.slice a0' (lsH h 0).length q0')).setCell ⟨w.heap.size+1,6,none⟩ (Value.slice a1' (lsH h 1).length q1')).setCell ⟨w.heap.size+1,7,none⟩ (Value.slice a2' (lsH h 2).length q2')).setCell ⟨w.heap.size+1,8,none⟩ (Value.slice a3' (lsH h 3).length q3')).setCell ⟨w.heap.size+1,9,none⟩ (Value.slice a6 (lsH h 4).length q6)).cell? ⟨w.heap.size+1,5,none⟩=some (Value.slice a0' (lsH h 0).length q0'):=by rw[Z8s _ _ _ _ _ _ bF];rfl
   have z6:(((((((((((w6.setCell ⟨w.heap.size+2,9,none⟩ (Value.slice a6 (lsH h 4).length q6)).setCell ⟨w.heap.size+1,0,none⟩ (Value.int IntKind.u64 h.base)).setCell ⟨w.heap.size+1,1,none⟩ (Value.int IntKind.i64 h.cap)).setCell ⟨w.heap.size+1,2,none⟩ (Value.int IntKind.i64 h.to)).setCell ⟨w.heap.size+1,3,none⟩ (Value.bool h.cycle)).setCell ⟨w.heap.size+1,4,none⟩ (Value.int IntKind.i64 h.scan)).setCell ⟨w.heap.size+1,5,none⟩ (Value.slice a0' (lsH h 0).length q0')).setCell ⟨w.heap.size+1,6,none⟩ (Value.slice a1' (lsH h 1).length q1')).setCell ⟨w.heap.size+1,7,none⟩ (Value.slice a2' (lsH h 2).length q2')).setCell ⟨w.heap.size+1,8,none⟩ (Value.slice a3' (lsH h 3).length q3')).setCell ⟨w.heap.size+1,9,none⟩ (Value.slice a6 (lsH h 4).length q6)).cell? ⟨w.heap.size+1,6,none⟩=some (Value.slice a1' (lsH h 1).length q1'):=by rw[Z8s _ _ _ _ _ _ bF];rfl
   have z7:(((((((((((w6.setCell ⟨w.heap.size+2,9,none⟩ (Value.slice a6 (lsH h 4).length q6)).setCell ⟨w.heap.size+1,0,none⟩ (Value.int IntKind.u64 h.base)).setCell ⟨w.heap.size+1,1,none⟩ (Value.int IntKind.i64 h.cap)).setCell ⟨w.heap.size+1,2,none⟩ (Value.int IntKind.i64 h.to)).setCell ⟨w.heap.size+1,3,none⟩ (Value.bool h.cycle)).setCell ⟨w.heap.size+1,4,none⟩ (Value.int IntKind.i64 h.scan)).setCell ⟨w.heap.size+1,5,none⟩ (Value.slice a0' (lsH h 0).length q0')).setCell ⟨w.heap.size+1,6,none⟩ (Value.slice a1' (lsH h 1).length q1')).setCell ⟨w.heap.size+1,7,none⟩ (Value.slice a2' (lsH h 2).length q2')).setCell ⟨w.heap.size+1,8,none⟩ (Value.slice a3' (lsH h 3).length q3')).setCell ⟨w.heap.size+1,9,none⟩ (Value.slice a6 (lsH h 4).length q6)).cell? ⟨w.heap.size+1,7,none⟩=some (Value.slice a2' (lsH h 2).length q2'):=by rw[Z8s _ _ _ _ _ _ bF];rfl
   have z8:(((((((((((w6.setCell ⟨w.heap.size+2,9,none⟩ (Value.slice a6 (lsH h 4).length q6)).setCell ⟨w.heap.size+1,0,none⟩ (Value.int IntKind.u64 h.base)).setCell ⟨w.heap.size+1,1,none⟩ (Value.int IntKind.i64 h.cap)).setCell ⟨w.heap.size+1,2,none⟩ (Value.int IntKind.i64 h.to)).setCell ⟨w.heap.size+1,3,none⟩ (Value.bool h.cycle)).setCell ⟨w.heap.size+1,4,none⟩ (Value.int IntKind.i64 h.scan)).setCell ⟨w.heap.size+1,5,none⟩ (Value.slice a0' (lsH h 0).length q0')).setCell ⟨w.heap.size+1,6,none⟩ (Value.slice a1' (lsH h 1).length q1')).setCell ⟨w.heap.size+1,7,none⟩ (Value.slice a2' (lsH h 2).length q2')).setCell ⟨w.heap.size+1,8,none⟩ (Value.slice a3' (lsH h 3).length q3')).setCell ⟨w.heap.size+1,9,none⟩ (Value.slice a6 (lsH h 4).length q6)).cell? ⟨w.heap.size+1,8,none⟩=some (Value.slice a3' (lsH h 3).length q3'):=by rw[Z8s _ _ _ _ _ _ bF];rfl
   have z9:(((((((((((w6.setCell ⟨w.heap.size+2,9,none⟩ (Value.slice a6 (lsH h 4).length q6)).setCell ⟨w.heap.size+1,0,none⟩ (Value.int IntKind.u64 h.base)).setCell ⟨w.heap.size+1,1,none⟩ (Value.int IntKind.i64 h.cap)).setCell ⟨w.heap.size+1,2,none⟩ (Value.int IntKind.i64 h.to)).setCell ⟨w.heap.size+1,3,none⟩ (Value.bool h.cycle)).setCell ⟨w.heap.size+1,4,none⟩ (Value.int IntKind.i64 h.scan)).setCell ⟨w.heap.size+1,5,none⟩ (Value.slice a0' (lsH h 0).length q0')).setCell ⟨w.heap.size+1,6,none⟩ (Value.slice a1' (lsH h 1).length q1')).setCell ⟨w.heap.size+1,7,none⟩ (Value.slice a2' (lsH h 2).length q2')).setCell ⟨w.heap.size+1,8,none⟩ (Value.slice a3' (lsH h 3).length q3')).setCell ⟨w.heap.size+1,9,none⟩ (Value.slice a6 (lsH h 4).length q6)).cell? ⟨w.heap.size+1,9,none⟩=some (Value.slice a6 (lsH h 4).length q6):=by rw[Z8s _ _ _ _ _ _ bF];rfl
   have hkp: ∀c,c≠w.heap.size+1→c≠w.heap.size+2→(((((((((((w6.setCell ⟨w.heap.size+2,9,none⟩ (Value.slice a6 (lsH h 4).length q6)).setCell ⟨w.heap.size+1,0,none⟩ (Value.int IntKind.u64 h.base)).setCell ⟨w.heap.size+1,1,none⟩ (Value.int IntKind.i64 h.cap)).setCell ⟨w.heap.size+1,2,none⟩ (Value.int IntKind.i64 h.to)).setCell ⟨w.heap.size+1,3,none⟩ (Value.bool h.cycle)).setCell ⟨w.heap.size+1,4,none⟩ (Value.int IntKind.i64 h.scan)).setCell ⟨w.heap.size+1,5,none⟩ (Value.slice a0' (lsH h 0).length q0')).setCell ⟨w.heap.size+1,6,none⟩ (Value.slice a1' (lsH h 1).length q1')).setCell ⟨w.heap.size+1,7,none⟩ (Value.slice a2' (lsH h 2).length q2')).setCell ⟨w.heap.size+1,8,none⟩ (Value.slice a3' (lsH h 3).length q3')).setCell ⟨w.heap.size+1,9,none⟩ (Value.slice a6 (lsH h 4).length q6)).heap[c]? =w6.heap[c]? :=fun c h1 h2=>by
    simp[World.setCell,Z8R,h1,h2,Zab h1,Zab h2]
   have hbF:Below w.heap.size w (((((((((((w6.setCell ⟨w.heap.size+2,9,none⟩ (Value.slice a6 (lsH h 4).length q6)).setCell ⟨w.heap.size+1,0,none⟩ (Value.int IntKind.u64 h.base)).setCell ⟨w.heap.size+1,1,none⟩ (Value.int IntKind.i64 h.cap)).setCell ⟨w.heap.size+1,2,none⟩ (Value.int IntKind.i64 h.to)).setCell ⟨w.heap.size+1,3,none⟩ (Value.bool h.cycle)).setCell ⟨w.heap.size+1,4,none⟩ (Value.int IntKind.i64 h.scan)).setCell ⟨w.heap.size+1,5,none⟩ (Value.slice a0' (lsH h 0).length q0')).setCell ⟨w.heap.size+1,6,none⟩ (Value.slice a1' (lsH h 1).length q1')).setCell ⟨w.heap.size+1,7,none⟩ (Value.slice a2' (lsH h 2).length q2')).setCell ⟨w.heap.size+1,8,none⟩ (Value.slice a3' (lsH h 3).length q3')).setCell ⟨w.heap.size+1,9,none⟩ (Value.slice a6 (lsH h 4).length q6)):=by
    refine Z9X (Z9X (Z9X (Z9X (Z9X (Z9X (Z9X (Z9X (Z9X (Z9X (Z9X (HI.out.below.grown hgrow hs0 (by simp)) (by simp) _) (by simp) _) (by simp) _) (by simp) _) (by simp) _) (by simp) _) (by simp) _) (by simp) _) (by simp) _) (by simp) _) (by simp) _
   have hnew: ∀c,(Value.slice a6 (lsH h 4).length q6).ownBlock=some c→wr.heap.size≤c:=by
    intro c hc;rcases hat6 with e| ⟨_,e⟩
    ·rw[e]at hc;cases hc
    ·exact(e.lt c hc).1
   have hF:HOwn w.heap.size (((((((((((w6.setCell ⟨w.heap.size+2,9,none⟩ (Value.slice a6 (lsH h 4).length q6)).setCell ⟨w.heap.size+1,0,none⟩ (Value.int IntKind.u64 h.base)).setCell ⟨w.heap.size+1,1,none⟩ (Value.int IntKind.i64 h.cap)).setCell ⟨w.heap.size+1,2,none⟩ (Value.int IntKind.i64 h.to)).setCell ⟨w.heap.size+1,3,none⟩ (Value.bool h.cycle)).setCell ⟨w.heap.size+1,4,none⟩ (Value.int IntKind.i64 h.scan)).setCell ⟨w.heap.size+1,5,none⟩ (Value.slice a0' (lsH h 0).length q0')).setCell ⟨w.heap.size+1,6,none⟩ (Value.slice a1' (lsH h 1).length q1')).setCell ⟨w.heap.size+1,7,none⟩ (Value.slice a2' (lsH h 2).length q2')).setCell ⟨w.heap.size+1,8,none⟩ (Value.slice a3' (lsH h 3).length q3')).setCell ⟨w.heap.size+1,9,none⟩ (Value.slice a6 (lsH h 4).length q6)) h (fun j=>if j=4 then Value.slice a6 (lsH h 4).length q6 else xs j):=by
    refine⟨fun j hj=> ?_,fun i j hij hj c hc=> ?_⟩
    ·by_cases h4:j=4
     ·subst h4;rw[if_pos rfl];exact Ze hown6 fun c hc=>hkp c (by have:=hnew c hc;omega) (by have:=hnew c hc;omega)
     ·rw[if_neg h4];have ho:=HI.out.own j (by omega)
      exact Ze ho fun c hc=>by
       have h1:=HI.out.newer j (by omega) c hc;have h2:=(ho.lt c hc).2;rw[hkp c (by omega) (by omega),hgrow.block c h2 (by simp)]
    ·rw[if_neg (by omega)]at hc;by_cases h4:j=4
     ·subst h4;rw[if_pos rfl];intro e;have h1:=hnew c e;have h2:=((HI.out.own i (by omega)).lt c hc).2;omega
     ·rw[if_neg h4];exact HI.out.apart i j hij (by omega) c hc
   clear hkp hnew bF;go_wp2;refine Z8K (v:= .agg #[.int .u64 h.base,.int .i64 h.cap,.int .i64 h.to,.bool h.cycle,.int .i64 h.scan,.slice a0' (lsH h 0).length q0',.slice a1' (lsH h 1).length q1',.slice a2' (lsH h 2).length q2',.slice a3' (lsH h 3).length q3',.slice a6 (lsH h 4).length q6]) (by simp[results,Try.results48,go_sem,z0,z1,z2,z3,z4,z5,z6,z7,z8,z9]) rfl ⟨_,?_,hbF,hF⟩;unfold hpA;simp[e0,e1,e2,e3]
end Vm
end
section
namespace Vm
open Go Go.Proofs Go.RowKit
set_option maxHeartbeats 2000000
set_option maxRecDepth 100000
theorem QR(z:Value)(n:Nat):(Builtin.zeroCells #[z] n).toList=List.replicate n z:=by
 simp[Builtin.zeroCells];apply List.ext_getElem
 ·simp
 ·intro i h1 h2;simp[Nat.mod_one]
theorem LE{P:Program}{w:World}{T tI ty e:TypeId}{i:TypeInfo}{z:Value}{kn:IntKind}(ht:P.underlying T=some (.slice e))(hI:P.underlying tI=some (.int kn))(hi:P.info? e=some i)(hz:i.zero=some z)
  (hzc:z.cells= #[z]) (h1:z.oneCell'=true) (hs:i.size=1) (hb:i.bytes=8) {B n m:Nat} {v:Value} {xs:List Value} (hown:w.ownsRow B e 1 v n xs) (hB:B≤w.heap.size) (hm:0<m) (hlim:n+m≤4294967296) (kq:IntKind):
  ∃v' w',(Builtin.append_ #[T,tI] ty #[v,.int kq m]).run P w= .ok v' w'∧w'.ownsRow B e 1 v' (n+m) (xs++List.replicate m z)∧w.grownBy w' v.ownBlock∧
   (v'.ownBlock=v.ownBlock∨(w.grownBy w' none∧w'.ownsRow w.heap.size e 1 v' (n+m) (xs++List.replicate m z))):=by
 have hl1:xs.length=n:=by have:=hown.1;simpa using this
 have hlen:(xs++List.replicate m z).length=n+m:=by simp[hl1]
 have h63:n+m≤maxLen:=by simp only[maxLen];omega
 have grown: ∀(old:Nat),old<n+m→ ∀(row:Option Nat) (cs:Array Value),cs=xs.toArray++(List.replicate m z).toArray→
   (w.drew.alloc (.cells (cs++Builtin.zeroCells z.cells (grownCap w (n+m) old e- (n+m))) e)).ownsRow w.heap.size e 1
    (.slice (some ⟨w.heap.size,0,none⟩) (n+m) (grownCap w (n+m) old e)) (n+m) (xs++List.replicate m z)∧
   w.grownBy (w.drew.alloc (.cells (cs++Builtin.zeroCells z.cells (grownCap w (n+m) old e- (n+m))) e)) row:=by
  rintro old ho row cs rfl;have hge:=grownCap_ge w (n+m) old e;have hcm:grownCap w (n+m) old e≤maxLen:=grownCap_le_maxLen w (n+m) old e h63;refine⟨⟨by simpa using hlen,.inr ⟨w.heap.size,_,_,rfl,Z8v _,Z8C w.drew _,hge,hcm,?_,?_⟩⟩,⟨rfl,rfl,rfl,by simp,fun k hk _=>Z8t w.drew _ k hk⟩⟩
  ·simp only[Array.size_append,Z9F,size_zeroCells,hzc];simp[hl1];omega
  ·simp only[Array.toList_append,Z92];rw[←Z92,Zch,←hlen];exact ZaS
 have hzz:Builtin.zeroCells z.cells m=(List.replicate m z).toArray:=by
  rw[hzc];apply Array.ext';rw[QR]
 rcases hown.2 with ⟨rfl,rfl⟩ | ⟨g,cap,cur,rfl,hbg,hg,hnc,hcm,hcsz,htake⟩
 ·have hx:xs= []:=Z95 hl1;subst hx;have hr:=Lib.run_append_nil_zeros (P:=P) w T tI ty e i z kq kn ht hI hi hz m hm (by omega) (by omega) (by rw[hb];omega);have hgr:=grown 0 (by omega);simp only[Z97,Z9d,Array.empty_append]at hgr hr⊢;rw[hzz]at hr;obtain⟨g1,g2⟩:=hgr none _ rfl;exact⟨_,_,hr,Wl g1 hB,g2,.inr ⟨g2,g1⟩⟩
 ·by_cases hroom:n+m≤cap
  ·have hfit:n+(List.replicate m z).length≤cur.size:=by simp;omega
   have hst:=run_storeCells_at P g n e (List.replicate m z) 0 cur w hg (by simpa using hfit) (by intro v hv;rw[Zb0 hv];exact h1);simp only[Za6]at hst;have hw:IntKind.i64.wrap (m:Int)=m:=by rw[IntKind.wrap_i64];omega
   have hneg: ¬((m:Int) <0):=by omega
   have h48i: ¬(281474976710656< (m:Int)*8):=by omega
   have hk:m≠0:=by omega
   have hr:(Builtin.append_ #[T,tI] ty #[.slice (some ⟨g,0,none⟩) n cap,.int kq m]).run P w=
     .ok (.slice (some ⟨g,0,none⟩) (n+m) cap) (w.setRow g (cur.toList.take n++List.replicate m z++cur.toList.drop (n+(List.replicate m z).length)).toArray):=by
    simp[Builtin.append_,Z8X ht,Z8X hI,Go.sizeOf,typeInfo,zeroValue,hi,hz,asInt,asIntOf,hw,hneg,hs,hb,h48i,hk,hroom,hzz,Za0];simp at hst;rw[hst];simp
   refine⟨_,_,hr,⟨by simpa using hlen,.inr ⟨g,cap,_,rfl,hbg,Zcg w g cur _ e _ hg,hroom,hcm,?_,?_⟩⟩,⟨rfl,rfl,rfl,by simp,fun k _ hk=>Zah w g k _ (fun e=>hk (by simp[Value.ownBlock,e]))⟩,.inl rfl⟩
   ·simp only[Z9F,Z8W,Z9N,ZaV,Zaj];simp at hfit⊢;omega
   ·rw[Zch]at htake⊢;rw[htake,←hlen];exact ZaS
  ·have holds: ∀j u,xs[j]? =some u→w.cell? ((⟨g,0,none⟩:Addr).add j)=some u:=hown.cells (g:=g) rfl;have hfo:=run_firstCells_some (P:=P) w.drew i.size n ⟨g,0,none⟩ n cap xs (by rw[hs,Zch];exact hl1) (by simpa using holds);have hr:=Lib.run_append_grow_zeros (P:=P) w T tI ty e i z kq kn ht hI hi hz (some ⟨g,0,none⟩) n cap xs hfo m hm (by omega) (by omega) (by omega) (by rw[hb];omega) (Zcc (by omega) (by rw[hb];omega));rw[hzz]at hr;obtain⟨g1,g2⟩:=grown cap (by omega) none _ rfl;obtain⟨_,g3⟩:=grown cap (by omega) (Value.ownBlock (.slice (some ⟨g,0,none⟩) n cap)) _ rfl;exact⟨_,_,hr,Wl g1 hB,g3,.inr ⟨g2,g1⟩⟩
end Vm
end
section
namespace Vm
open Go Go.Proofs
set_option maxRecDepth 100000
set_option maxHeartbeats 1000000
theorem Hp.zero_ok:Hp.zero.ok:=by
 refine⟨?_,?_,?_,?_,?_,?_,?_,?_,?_,?_,?_,?_,?_,?_⟩<;>simp[Hp.zero,U64,Fit]
theorem zg{h:Hp}(hh:h.ok){part:Int}{a n:Nat}(h1:a+n≤(Z5 h part).length)(h2:(n:Int)≤YZ (layH h))(hn:0<n):(Y2 h part a n).ok:=by
 have hrl:Z8 (layH h)=true:=by
  cases hr:Z8 (layH h)
  ·have:YZ (layH h)=0:=by unfold YZ;rw[hr];rfl
   omega
  ·rfl
 have hrm:YZ (layH h)=(layH h).cap- (layH h).low- (layH h).high:=by unfold YZ;rw[hrl];rfl
 have hri:=Zm.1 hrl;have q1:(layH h).low=h.low.length:=rfl;have q2:(layH h).high=h.high.length:=rfl;refine⟨hh.base,hh.cap,hh.to,hh.scan,?_,hh.high,hh.old,hh.far,hh.roots,?_,hh.highW,hh.oldW,hh.farW,hh.rootsW⟩
 ·simp only[Y2,Z8W,ZaV,Z9N];omega
 ·intro w hw;simp only[Y2]at hw;rcases Z90.1 hw with hw|hw
  ·exact hh.lowW w hw
  ·exact(Zx hh part).1 w (Z9g (Z9Y hw))
theorem zr_u{ws:List Int}{a:Nat}(h: ∀w∈ws,U64 w): ∀n,∀w∈zr ws a n,U64 w
 |0=>h
 |n+1=>by
  intro w hw;rcases Z9r hw with hw|hw
  ·exact zr_u h n w hw
  ·subst hw;unfold U64;omega
theorem Z3h{h:Hp}(hh:h.ok){part:Int}{a n:Nat}(hn:0<n):(fwdC h part a n).2.1.ok∧U64 (fwdC h part a n).1:=by
 unfold fwdC;split
 ·exact⟨Hp.zero_ok,by simp[U64]⟩
 split
 ·exact⟨Hp.zero_ok,by simp[U64]⟩
 ·rename_i g1 g2;have hp:=Zx hh part;refine⟨Z14 (zg hh (by omega) (by omega) hn) (by simp;omega) ?_,je⟩;intro w hw;rcases Z9r hw with hw|hw
  ·exact zr_u hp.1 _ w hw
  ·subst hw;exact je
theorem Kk{h:Hp}(hh:h.ok){w:Int}(hw:U64 w):(fwd h w).2.1.ok∧U64 (fwd h w).1:=by
 unfold fwd;split
 ·exact⟨Hp.zero_ok,by simp[U64]⟩
 split
 ·exact⟨hh,by simp[U64]⟩
 split
 ·exact⟨Hp.zero_ok,by simp[U64]⟩
 split
 ·exact⟨Hp.zero_ok,by simp[U64]⟩
 split
 ·exact⟨hh,hw⟩
 split
 ·refine⟨hh,?_⟩;generalize (ZJ (layH h) (adr w).1).2.1.toNat=k;have hp:=(Zx hh (ZJ (layH h) (adr w).1).1).1;generalize Z5 h (ZJ (layH h) (adr w).1).1=ws at*;by_cases hk:k<ws.length
  ·have e:ws.getD k 0=ws[k]:=by simp[List.getD,hk]
   simp only[e];exact hp _ (Z8M hk)
  ·have e:ws.getD k 0=0:=by simp[List.getD,hk]
   simp only[e];unfold U64;omega
 split
 ·exact⟨Hp.zero_ok,by simp[U64]⟩
 ·exact Z3h hh (by omega)
theorem Z19{x:Rw}(hx:x.ok):(Ty x).ok∧Z8 (layH (Ty x))=true∧(Ty x).roots.length≤5:=by
 have key: ∀c,(ZW x (Zw x c)).ok∧Z8 (layH (ZW x (Zw x c)))=true∧(ZW x (Zw x c)).roots.length≤5:=fun c=>by
  obtain⟨h1,h2,h3⟩:=Uv hx c;obtain⟨k1,k2,_,_⟩:=zV (x:=x) h1 h2;refine⟨k1,by rw[k2];exact h3,?_⟩;simp only[ZW,Z8P];exact h1.rl
 unfold Ty yq;split
 ·exact key false
 ·exact key true
end Vm
end
section
namespace Vm
open Go Go.Proofs Go.RowKit
set_option maxHeartbeats 2000000
set_option maxRecDepth 100000
def yF:V→Value
 | .int k n=> .int k n
 | .bool b=> .bool b
 |_=>undef
def Rm:V→Bool
 | .int _ _=>true
 | .bool _=>true
 |_=>false
def R3:V→Value
 | .agg cs=> .agg (cs.map yF).toArray
 |x=>yF x
def UW:V→Bool
 | .agg cs=>cs.all Rm
 |x=>Rm x
def Z39:V→Value
 | .tup l=> .tuple (l.map R3).toArray
 |x=>R3 x
def Z2h:V→Bool
 | .tup l=>l.all UW
 |x=>UW x
variable {w:World} {G:Nat→Prop}
theorem Z1V{x:V}(h:Rm x=true):Rd w G x (yF x):=by
 cases x<;>simp[Rm]at h
 ·exact .int _ _
 ·exact .bool _
theorem QW{x:V}(h:UW x=true):Rd w G x (R3 x):=by
 cases x with
 |agg cs=>
  simp only[UW,Z8A]at h;refine .agg _ _ (by simp) (fun c hc=> ?_) fun i c hc=> ?_
  ·have:=h c hc;cases c<;>simp[Rm]at this<;>rfl
  ·have h1:=Z1V (w:=w) (G:=G) (h c (Z8x hc))
   have:((cs.map yF).toArray).getD i undef=yF c:=by
    obtain⟨hi,rfl⟩:=Z8o.1 hc;simp[Array.getD,hi]
   rw[this];exact h1
 |int k n=>exact .int _ _
 |bool b=>exact .bool _
 |_=>simp[UW,Rm]at h
theorem Z0Y{x:V}{v:Value}(h:Rm x=true)(r:Rd w G x v):v=yF x:=by
 cases x<;>simp[Rm]at h
 ·cases r;rfl
 ·cases r;rfl
theorem QS{x:V}{v:Value}(h:UW x=true)(r:Rd w G x v):v=R3 x:=by
 cases x with
 |agg cs=>
  simp only[UW,Z8A]at h;cases r with
  |agg _ vs hl _ hr=>
   simp only[R3,Value.agg.injEq];apply Zbh
   ·simpa using hl
   ·intro i h1 h2;have hi:i<cs.length:=by omega
    have hc:cs[i]? =some cs[i]:=Z8n hi;have:=Z0Y (h _ (Z8M hi)) (hr i _ hc);simp[Array.getD,h1]at this;simpa using this
 |int k n=>cases r;rfl
 |bool b=>cases r;rfl
 |_=>simp[UW,Rm]at h
theorem LV{x:V}{v:Value}(h:Z2h x=true)(r:Rd w G x v):v=Z39 x:=by
 cases x with
 |tup cs=>
  simp only[Z2h,Z8A]at h;cases r with
  |tup _ vs hl hr=>
   simp only[Z39,Value.tuple.injEq];apply Zbh
   ·simpa using hl
   ·intro i h1 h2;have hi:i<cs.length:=by omega
    have hc:cs[i]? =some cs[i]:=Z8n hi;have:=QS (h _ (Z8M hi)) (hr i _ hc);simp[Array.getD,h1]at this;simpa using this
 |agg cs=>exact QS (x:= .agg cs) h r
 |int k n=>cases r;rfl
 |bool b=>cases r;rfl
 |_=>simp[Z2h,UW,Rm]at h
theorem Yf{P:Program}{f:FuncId}{fr:Bool}{args:List V}{r:V}(h:VC P f fr args r)(ha:args.all UW=true)(hr:Z2h r=true)(w:World):
  Calls P f (args.map R3).toArray w fun e w'=>e= .returned (Z39 r)∧Below w.heap.size w w':=by
 simp only[Z8A]at ha;refine Zap (h.2 w (fun _=>False) _ (by simp) (by simp) ?_) ?_
 ·intro i x hx;obtain⟨hi,rfl⟩:=Z8o.1 hx;have:((args.map R3).toArray).getD i undef=R3 args[i]:=by simp[Array.getD,hi]
  rw[this];exact QW (ha _ (Z8M hi))
 ·rintro e w' ⟨v,rfl,hb,hv⟩;exact⟨by rw[LV hr hv],hb⟩
def lyA(l:Ly):Value:= .agg #[.int .u64 l.base,.int .i64 l.cap,.int .i64 l.to,.int .i64 l.low,.int .i64 l.high,.int .i64 l.old,.int .i64 l.far]
theorem Yk{l:Ly}(hl:l.fits)(w:World):Calls Try.prog 43 #[lyA l] w fun e w'=>e= .returned (.bool (Z8 l))∧Below w.heap.size w w':=
 Yf (Va hl) rfl rfl w
theorem SC{l:Ly}(hl:l.fits)(w:World):Calls Try.prog 24 #[lyA l] w fun e w'=>e= .returned (.int .i64 (YZ l))∧Below w.heap.size w w':=
 Yf (Z1K hl) rfl rfl w
theorem R5{l:Ly}(hl:l.fits)(part at_:Int)(w:World):Calls Try.prog 50 #[lyA l,.agg #[.int .i64 part,.int .i64 at_]] w fun e w'=>e= .returned (.tuple #[.int .u64 (ZC l part at_).1,.int .i64 (ZC l part at_).2])∧Below w.heap.size w w':=
 Yf (za hl) rfl rfl w
theorem XA{l:Ly}(hl:l.fits){a:Int}(ha:U64 a)(w:World):Calls Try.prog 60 #[lyA l,.int .u64 a] w fun e w'=>e= .returned (.tuple #[.agg #[.int .i64 (ZJ l a).1,.int .i64 (ZJ l a).2.1],.int .i64 (ZJ l a).2.2])∧Below w.heap.size w w':=
 Yf (ye hl ha) rfl rfl w
theorem ZQ{x:Int}(hx:U64 x)(w:World):Calls Try.prog 59 #[.int .u64 x] w fun e w'=>e= .returned (.tuple #[.int .u64 (adr x).1,.int .i64 (adr x).2])∧Below w.heap.size w w':=
 Yf (Rr hx) rfl rfl w
theorem Sq{x:Int}(hx:U64 x)(w:World):Calls Try.prog 52 #[.int .u64 x] w fun e w'=>e= .returned (.tuple #[.int .u64 (YO x).1,.int .i64 (YO x).2])∧Below w.heap.size w w':=
 Yf (Z10 hx) rfl rfl w
theorem X2{x:Int}(hx:U64 x)(w:World):Calls Try.prog 62 #[.int .u64 x] w fun e w'=>e= .returned (.tuple #[.agg #[.int .i64 (unpk x).1,.int .i64 (unpk x).2.1],.int .i64 (unpk x).2.2])∧Below w.heap.size w w':=
 Yf (KL hx) rfl rfl w
theorem ZP{h:Hp}{x:Nat→Value}(hG: ∀b,G b→b<w.heap.size)(hr: ∀j,j<5→Rd w G (.sl ((lsH h j).map vu)) (x j)):
  Calls Try.prog 51 #[hpA h x] w fun e w'=>e= .returned (lyA (layH h))∧Below w.heap.size w w':=by
 refine Zap ((SK (h:=h)).2 w G _ hG rfl ?_) ?_
 ·intro i y hy
  match i,hy with
  |0,hy=>
   cases hy;refine .agg _ _ rfl (by simp[V.one]) ?_;intro i y hy
   match i,hy with
   |0,hy=>cases hy;exact .int _ _
   |1,hy=>cases hy;exact .int _ _
   |2,hy=>cases hy;exact .int _ _
   |3,hy=>cases hy;exact .bool _
   |4,hy=>cases hy;exact .int _ _
   |5,hy=>cases hy;exact hr 0 (by omega)
   |6,hy=>cases hy;exact hr 1 (by omega)
   |7,hy=>cases hy;exact hr 2 (by omega)
   |8,hy=>cases hy;exact hr 3 (by omega)
   |9,hy=>cases hy;exact hr 4 (by omega)
 ·rintro e w' ⟨v,rfl,hb,hv⟩;exact⟨by rw[LV (by rfl) hv];rfl,hb⟩
end Vm
end
