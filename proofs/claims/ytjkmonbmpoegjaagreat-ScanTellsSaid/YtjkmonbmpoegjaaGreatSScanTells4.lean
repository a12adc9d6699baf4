import Derived.Test.YtjkmonbmpoegjaaGreatChecked
import Derived.Carry
import Derived.ProofKit
import Derived.OpenShut
import Derived.Test.YtjkmonbmpoegjaaGreatSScanTells3
set_option linter.unusedSimpArgs false
set_option linter.unusedVariables false
section
namespace Vm
open Go
open Go.Proofs
def sig(f:FuncId):Option (List OT):=
 if f=105 then some [.mem [.fz,.fz,.fz,.fz,.fz,.fz,.fz,.fz,.fz,.fz,.fz,.fz,.fz,.fz,.fz,.fz,.fz,.fz,.fz,.fz,.fz,.own 127,.own 128],.fz,.fz]else
 if f=91 then some [.mem [.fz,.fz,.fz,.fz,.fz,.fz,.fz,.fz,.fz,.fz,.fz,.fz,.fz,.fz,.fz,.fz,.fz,.fz,.fz,.fz,.fz,.own 127,.own 128]]else
 if f=1000096 then some [.mem [.fz,.fz,.fz,.fz,.fz,.fz,.fz,.fz,.fz,.fz,.fz,.fz,.fz,.fz,.fz,.fz,.fz,.fz,.fz,.fz,.fz,.own 127,.own 128]]else
 none
def fresh(f:FuncId):Bool:=f==101||f==103
theorem follows:Tryz.prog.follows .mixedOrders=true:=by kernel_rfl
end Vm
end
section
namespace Vm
open Go
open Go.Proofs
def jV(x:Option V)(A B:Prop):Prop:=
 match x with
 |some (.bool true)=>A
 |some (.bool false)=>B
 |_=>False
@[simp] theorem Z1x(b:Bool)(A B:Prop):jV (some (.bool b)) A B↔if b=true then A else B:=by cases b<;>simp[jV]
def onO{α:Type}(x:Option α)(K:α→Prop):Prop:=
 match x with
 |some x=>K x
 |none=>False
@[simp] theorem Z3C{α:Type}(x:α)(K:α→Prop):onO (some x) K↔K x:=Iff.rfl
@[simp] theorem Z42{α:Type}(K:α→Prop):onO none K↔False:=Iff.rfl
@[simp] theorem Z57{α β:Type}(f:α→β)(x:Option α)(K:β→Prop):onO (x.map f) K↔onO x (fun y=>K (f y)):=by cases x<;>rfl
@[simp] theorem Z3z{α β:Type}(f:α→Option β)(x:Option α)(K:β→Prop):onO (x.bind f) K↔onO x (fun y=>onO (f y) K):=by cases x<;>rfl
@[simp] theorem Z4i{α:Type}(p:Prop) [Decidable p](x y:Option α)(K:α→Prop):onO (if p then x else y) K↔if p then onO x K else onO y K:=by split<;>rfl
def Q1(P:Program)(f:FuncId)(fr fl:Bool)(xs:List V)(K:V→Prop):Prop:= ∃r,VC P f fr xs r∧(fl=true→flV r=some r)∧K r
theorem Z0{P:Program}{f:FuncId}{fr fl:Bool}{xs:List V}{K:V→Prop}{r:V}(h:VC P f fr xs r)(hf:fl=true→flV r=some r)(hK:K r):Q1 P f fr fl xs K:=⟨r,h,hf,hK⟩
def L5(P:Program)(f:FuncId)(ks:List OT)(xs:List V)(K:V→Prop):Prop:= ∃R,VCM P f ks xs R∧K R
theorem Wp{P:Program}{f:FuncId}{ks:List OT}{xs:List V}{K:V→Prop}{R:V}(h:VCM P f ks xs R)(hK:K R):L5 P f ks xs K:=⟨R,h,hK⟩
def kS(P:Program)(b:Stm)(N:St→Prop)(X:Nat→St→Prop)(R:St→Prop)(s:St):Prop:=wpS P b s N X R
def xB(id:Nat)(N:St→Prop)(X:Nat→St→Prop)(i:Nat)(s:St):Prop:=if i=id then N s else X i s
def kR(chks:List (Zc×E))(outs:List (Nat×OV))(K:St→Prop)(t:St):Prop:=wpC t chks∧wpO outs t t K
def kO(l:List (Nat×OV))(t u:St)(i:Nat)(K:St→Prop)(x:SV):Prop:=wpO l t (putS u i x) K
def kL(P:Program)(l:List EF)(s:St)(i:Nat)(K:St→Prop)(x:V):Prop:=wpE P l (putS s i (.v x)) K
def kA(P:Program)(f:FuncId)(fr fl:Bool)(K:V→Prop)(xs:List V):Prop:=Q1 P f fr fl xs K
def kAE(P:Program)(fr fl:Bool)(K:V→Prop)(xs:List V)(v:V):Prop:=onO (cloV v) fun n=>Q1 P n.1 fr fl (xs++n.2) K
def kAF(P:Program)(x:Option V)(fr fl:Bool)(K:V→Prop)(xs:List V):Prop:=onO x (kAE P fr fl K xs)
def kAM(P:Program)(f:Option FuncId)(ks:List OT)(K:V→Prop)(xs:List V):Prop:=onO f fun n=>L5 P n ks xs K
def kW(P:Program)(l:List EF)(s:St)(i:Nat)(K:St→Prop)(os:List V):Prop:=if os= []then wpE P l s K else wpE P l (putS s i (.v (.tup (.bool false::os)))) K
def kT(_:V):Prop:=True
section
variable {P:Program} {N R:St→Prop} {X:Nat→St→Prop} {K:St→Prop} {s t u:St}
@[simp] theorem Z5u(b:Stm):kS P b N X R s↔wpS P b s N X R:=Iff.rfl
@[simp] theorem Z51(id:Nat):xB id N X id s↔N s:=by simp[xB]
theorem V8(id i:Nat):xB id N X i s↔if i=id then N s else X i s:=Iff.rfl
@[simp] theorem Z5t{id i:Nat}(h:i≠id):xB id N X i s↔X i s:=by simp[xB,h]
@[simp] theorem Z5B(chks:List (Zc×E))(outs:List (Nat×OV)):kR chks outs K t↔wpC t chks∧wpO outs t t K:=Iff.rfl
@[simp] theorem Z5z(l:List (Nat×OV))(i:Nat)(x:SV):kO l t u i K x↔wpO l t (putS u i x) K:=Iff.rfl
@[simp] theorem Z5x(l:List EF)(i:Nat)(x:V):kL P l s i K x↔wpE P l (putS s i (.v x)) K:=Iff.rfl
@[simp] theorem Z5G(f:FuncId)(fr fl:Bool)(K:V→Prop)(xs:List V):kA P f fr fl K xs↔Q1 P f fr fl xs K:=Iff.rfl
@[simp] theorem Z43(v:V)(fr fl:Bool)(K:V→Prop)(xs:List V):kAF P (some v) fr fl K xs↔kAE P fr fl K xs v:=Iff.rfl
@[simp] theorem Z5j(f:FuncId)(fr fl:Bool)(K:V→Prop)(xs:List V):kAE P fr fl K xs (.fn f)↔Q1 P f fr fl xs K:=by simp[kAE,cloV]
@[simp] theorem Z4S(f:FuncId)(cs:List V)(fr fl:Bool)(K:V→Prop)(xs:List V):kAE P fr fl K xs (.clo f cs)↔Q1 P f fr fl (xs++cs) K:=by simp[kAE,cloV]
@[simp] theorem Z3D(f:FuncId)(ks:List OT)(K:V→Prop)(xs:List V):kAM P (some f) ks K xs↔L5 P f ks xs K:=Iff.rfl
@[simp] theorem Z5k(l:List EF)(i:Nat):kW P l s i K []↔wpE P l s K:=by simp[kW]
@[simp] theorem Z4v(l:List EF)(i:Nat)(x:V)(os:List V):kW P l s i K (x::os)↔wpE P l (putS s i (.v (.tup (.bool false::x::os)))) K:=by simp[kW]
@[simp] theorem Z5D(x:V):kT x↔True:=Iff.rfl
@[simp] theorem Z4N(r:Reg):wpS P (.reg r) s N X R↔wpR P r s N:=Iff.rfl
@[simp] theorem Z3T:wpS P .skip s N X R↔N s:=Iff.rfl
@[simp] theorem Z4k(a b:Stm):wpS P (.seq a b) s N X R↔wpS P a s (kS P b N X R) X R:=Iff.rfl
@[simp] theorem Z3R(c:E)(a b:Stm):wpS P (.cond c a b) s N X R↔jV (eval s c) (wpS P a s N X R) (wpS P b s N X R):=by
 simp only[wpS,jV]
 generalize eval s c=x
 cases x with
 |none=>rfl
 |some v=>cases v<;>first|rfl| (rename_i q;cases q<;>rfl)
@[simp] theorem Z3i(id:Nat)(a:Stm):wpS P (.block id a) s N X R↔wpS P a s N (xB id N X) R:=Iff.rfl
@[simp] theorem Z3y(id:Nat):wpS P (.exit id) s N X R↔X id s:=Iff.rfl
@[simp] theorem Z4Z:wpS P .ret s N X R↔R s:=Iff.rfl
theorem Rq{keep:List Nat}{a:Stm}(I:St→Prop)(μ:St→Nat)(h0:I (Yj keep s))(h1: ∀s,I s→wpS P a s (fun s'=>I (Yj keep s')∧μ (Yj keep s') <μ s) X R):wpS P (.loop keep a) s N X R:=⟨I,μ,h0,h1⟩
@[simp] theorem Z5i(efs:List EF)(chks:List (Zc×E))(outs:List (Nat×OV)):wpR P ⟨efs,chks,outs⟩ s K↔wpE P efs s (kR chks outs K):=Iff.rfl
@[simp] theorem Z58:wpO [] t u K↔K u:=Iff.rfl
@[simp] theorem Z3K(i:Nat)(o:OV)(l:List (Nat×OV)):wpO ((i,o)::l) t u K↔onO (ovV t o) (kO l t u i K):=by
 simp only[wpO,onO,kO]
 cases ovV t o<;>rfl
@[simp] theorem Z4X:wpC t []↔True:=Iff.rfl
@[simp] theorem Z3P(C:Zc)(e:E)(l:List (Zc×E)):wpC t ((C,e)::l)↔(Xv t C=true→onO (eval t e) kT)∧wpC t l:=by
 simp only[wpC,onO,kT]
 cases eval t e<;>simp
@[simp] theorem Z4n:wpE P [] s K↔K s:=Iff.rfl
@[simp] theorem Z5b(i:Nat)(C:Zc)(e:E)(l:List EF):wpE P (.lt i C e::l) s K↔if Xv s C=true then onO (eval s e) (kL P l s i K)else wpE P l s K:=by
 simp only[wpE,onO,kL]
 cases eval s e<;>rfl
@[simp] theorem Z3U(i:Nat)(C:Zc)(f:FuncId)(fr fl:Bool)(es:List E)(l:List EF):wpE P (.call i C (.id f) fr fl es::l) s K↔if Xv s C=true then onO (ZS s es) (kA P f fr fl (kL P l s i K))else wpE P l s K:=by
 simp only[wpE,onO,kA,Q1,kL,fnV]
 cases ZS s es<;>simp
@[simp] theorem Z2a(i:Nat)(C:Zc)(x:E)(fr fl:Bool)(es:List E)(l:List EF):wpE P (.call i C (.e x) fr fl es::l) s K↔if Xv s C=true then onO (ZS s es) (kAF P (eval s x) fr fl (kL P l s i K))else wpE P l s K:=by
 simp only[wpE,onO,kAF,kAE,Q1,kL,fnV]
 cases ZS s es with
 |none=>simp
 |some xs=>
  cases eval s x with
  |none=>simp
  |some v=>cases hv:cloV v<;>simp[hv]
@[simp] theorem Z3t(i:Nat)(C:Zc)(f:FN)(ks:List OT)(es:List E)(l:List EF):wpE P (.callm i C f ks es::l) s K↔
  if Xv s C=true then onO (ZS s es) (kAM P (fnOf s f) ks (kL P l s i K))
  else onO (oldV s ks es) (kW P l s i K):=by
 simp only[wpE,onO,L5,kAM,kL,kW]
 split
 ·cases ZS s es<;>cases fnOf s f<;>simp
 ·cases oldV s ks es with
  |none=>simp
  |some os=>cases os<;>simp
@[simp] theorem Z5E(e:E):ovV t (.v e)=(eval t e).map .v:=rfl
@[simp] theorem Z5H(l:List E):ovV t (.m l)=(ZS t l).map .m:=rfl
@[simp] theorem Z5p:ovV t .no=some .no:=rfl
@[simp] theorem Z1y:Xv s []=true:=rfl
theorem JA(i:Nat)(b:Bool)(C:Zc):Xv s ((i,b)::C)=((match get s i with| .v (.bool c)=>c==b|_=>false)&&Xv s C):=rfl
end
@[simp] theorem Z3L(x:SV)(s:St):get (x::s) 0=x:=rfl
@[simp] theorem Z3w(x:SV)(s:St)(n:Nat):get (x::s) (n+1)=get s n:=by simp[get]
@[simp] theorem Z2I(x y:SV)(s:St):putS (y::s) 0 x=x::s:=rfl
@[simp] theorem Z1F(x y:SV)(s:St)(n:Nat):putS (y::s) (n+1) x=y::putS s n x:=rfl
@[simp] theorem jW(x:SV):putS [] 0 x= [x]:=rfl
@[simp] theorem qY(x:SV)(n:Nat):putS [] (n+1) x= .no::putS [] n x:=rfl
@[simp] theorem Z36(s:St):Yj [] s= []:=rfl
@[simp] theorem Z1q(i:Nat)(l:List Nat)(s:St):Yj (i::l) s=putS (Yj l s) i (get s i):=rfl
attribute [simp] ptV eval ZS JA resV Jo Tj finV TP YQ LG argS Sq fnOf oldV
section
variable {k:IntKind} {a b:Int} {x y:V} {l r:List V}
@[simp] theorem Z4b:binV .add (.int k a) (.int k b)=some (.int k (k.wrap (a+b))):=by simp[binV]
@[simp] theorem Z3A:binV .sub (.int k a) (.int k b)=some (.int k (k.wrap (a-b))):=by simp[binV]
@[simp] theorem Z4c:binV .mul (.int k a) (.int k b)=some (.int k (k.wrap (a*b))):=by simp[binV]
@[simp] theorem Z41:binV .quo (.int k a) (.int k b)=if b≠0 then some (.int k (k.wrap (a.tdiv b)))else none:=by simp[binV]
@[simp] theorem Z46:binV .rem (.int k a) (.int k b)=if b≠0 then some (.int k (a.tmod b))else none:=by simp[binV]
@[simp] theorem Z3Q:binV .eql (.int k a) (.int k b)=some (.bool (decide (a=b))):=by simp[binV];rfl
@[simp] theorem Z4d:binV .neq (.int k a) (.int k b)=some (.bool (!decide (a=b))):=by simp[binV];rfl
@[simp] theorem Z3O:binV .lss (.int k a) (.int k b)=some (.bool (decide (a<b))):=by simp[binV]
@[simp] theorem Z3F:binV .leq (.int k a) (.int k b)=some (.bool (decide (a≤b))):=by simp[binV]
@[simp] theorem Z3v:binV .gtr (.int k a) (.int k b)=some (.bool (decide (b<a))):=by simp[binV]
@[simp] theorem Z3Z:binV .geq (.int k a) (.int k b)=some (.bool (decide (b≤a))):=by simp[binV]
@[simp] theorem Z3B(p q n:Bool):eqV n (.bool p) (.bool q)=some (.bool (n ^^ (p==q))):=rfl
@[simp] theorem Z4Y:unV .neg (.int k a)=some (.int k (k.wrap (0-a))):=rfl
@[simp] theorem Z4z(p:Bool):unV .not (.bool p)=some (.bool !p):=rfl
@[simp] theorem Z2P(k':IntKind):LB k' (.int k a)=some (.int k' (k'.wrap a)):=rfl
@[simp] theorem Z4j:lenV (.sl l)=some (.int .i64 l.length):=rfl
@[simp] theorem Z3X(id:Nat)(vs:List V):Qe (.mp id l vs)=some (.int .i64 l.length):=rfl
@[simp] theorem Z3H(id:Nat)(vs:List V):yT (.mp id l vs)=some (.mp id [] []):=rfl
@[simp] theorem Z3G:minV (.int k a) (.int k b)=some (.int k (if b<a then b else a)):=rfl
@[simp] theorem Z4f:maxV (.int k a) (.int k b)=some (.int k (if b>a then b else a)):=rfl
@[simp] theorem Z3V(i:Nat):extV (.tup l) i=l[i]? :=rfl
@[simp] theorem Z3I(i n:Nat):idxV (.sl l) (.int k (i:Int)) n=(l[i]?).bind fun z=>if z.cells.length=n then some z else none:=by simp[idxV]
@[simp] theorem Z2M:(V.int k a).cells= [V.int k a]:=rfl
@[simp] theorem Z1t(p:Bool):(V.bool p).cells= [V.bool p]:=rfl
@[simp] theorem Z3d(s:ByteArray):(V.str s).cells= [V.str s]:=rfl
@[simp] theorem Z40:(V.sl l).cells= [V.sl l]:=rfl
@[simp] theorem Z2Q:(V.agg l).cells=l:=rfl
@[simp] theorem Z3E(id:Nat):(V.mp id l r).cells= [V.mp id l r]:=rfl
@[simp] theorem Z3J(f:FuncId):(V.fn f).cells= [V.fn f]:=rfl
@[simp] theorem Z4w:(V.int k a).one=true:=rfl
@[simp] theorem Z44(p:Bool):(V.bool p).one=true:=rfl
@[simp] theorem Z5q:(V.sl l).one=true:=rfl
@[simp] theorem Z5m(id:Nat):(V.mp id l r).one=true:=rfl
@[simp] theorem Z5l(f:FuncId):(V.fn f).one=true:=rfl
@[simp] theorem Z4G:(V.agg l).one=false:=rfl
@[simp] theorem Z3M:oneV (.int k a)=some (.int k a):=rfl
@[simp] theorem Z2q(p:Bool):oneV (.bool p)=some (.bool p):=rfl
@[simp] theorem Z45(s:ByteArray):oneV (.str s)=some (.str s):=rfl
@[simp] theorem Z4V:oneV (.sl l)=some (.sl l):=rfl
@[simp] theorem Z4p(id:Nat):oneV (.mp id l r)=some (.mp id l r):=rfl
@[simp] theorem Z4P(f:FuncId):oneV (.fn f)=some (.fn f):=rfl
@[simp] theorem Z3x(o:Nat):fldV (.agg l) o=(l[o]?).bind oneV:=rfl
@[simp] theorem Z3Y:fldV (.int k a) 0=some (.int k a):=rfl
@[simp] theorem Z26(p:Bool):fldV (.bool p) 0=some (.bool p):=rfl
@[simp] theorem Z54:fldV (.sl l) 0=some (.sl l):=rfl
@[simp] theorem Z4a(s:ByteArray):fldV (.str s) 0=some (.str s):=rfl
@[simp] theorem Z2x(o n:Nat):Tn (.agg l) o n=if o+n≤l.length then some (.agg ((l.drop o).take n))else none:=rfl
@[simp] theorem Z4q(n:Nat):szV (.agg l) n=if l.length=n then some (.agg l)else none:=rfl
@[simp] theorem Z2d:K9 (.agg l)=some (.agg l):=rfl
@[simp] theorem Z1Z:Tu (.ptr l)=some (.agg l):=rfl
@[simp] theorem Z2O(p:Bool)(A B:Option V):iteV (.bool p) A B=if p=true then A else B:=by cases p<;>rfl
@[simp] theorem Z5r:agV l= .agg (flat l):=rfl
@[simp] theorem Z1p:flat (x::l)=x.cells++flat l:=rfl
@[simp] theorem Z2B:flat []= []:=rfl
@[simp] theorem Z4C(n:Nat):appV n (.sl l) (.sl r)=if l.length+r.length≤lim∧ZR n r=true then some (.sl (l++r))else none:=rfl
@[simp] theorem Z1u(n:Nat):ZR n []=true:=rfl
@[simp] theorem Z1o(n:Nat):ZR n (x::l)=(x.cells.length==n&&ZR n l):=rfl
theorem X7{α:Type}{f:α→V}{n:Nat}{l:List α}(h: ∀x,(f x).cells.length=n):ZR n (l.map f)=true:=by
 simp[ZR,h]
@[simp] theorem XI(l:List Int):ZR 1 (l.map (V.int k))=true:=X7 fun _=>rfl
@[simp] theorem Z4u(n:Nat):mkV x (.int k (n:Int))=if n≤lim then some (.sl (List.replicate n x))else none:=by
 simp only[mkV]
 have:((n:Int)≤(lim:Nat))↔n≤lim:=by omega
 simp[this]
@[simp] theorem Ky(i j n:Nat):slcV n (.sl l) (.int k (i:Int)) (.int k (j:Int))=if i≤j∧j≤l.length∧ZR n l=true then some (.sl ((l.take j).drop i))else none:=by
 simp[slcV]
@[simp] theorem Z20(i n:Nat):zc n (.sl l) (.int k (i:Int))=if i≤l.length∧ZR n l=true then some (.sl (l.drop i))else none:=by
 simp[zc]
@[simp] theorem Z3S(i o:Nat):updV (.sl l) (.int k (i:Int)) o y=(l[i]?).bind fun z=>if o+y.cells.length≤z.cells.length∧y.cells≠ []then some (.sl (l.set i (z.put o y.cells)))else none:=by
 simp[updV]
end
abbrev vi(n:Int):V:= .int .i64 n
abbrev vu(n:Int):V:= .int .u64 n
@[simp] theorem Z4M(n:Nat):((n:Int) <0)↔False:=⟨fun h=>absurd h (by omega),False.elim⟩
theorem Z1(n:Int)(h1: -9223372036854775808≤n)(h2:n≤9223372036854775807):IntKind.i64.wrap n=n:=by
 rw[IntKind.wrap_i64];omega
end Vm
end
section
namespace Vm
open Go Go.ChangeShapes Go.WideShapes Go.ChangeAt Go.RowKit
def RZ(P:Program)(n:Nat):List Field→Nat→Bool
 | [],o=>o==n
 |f::l,o=>f.offset==o&&RZ P n l (o+P.cellsOf f.type)
def okTy(P:Program):Nat→TypeId→Bool
 |0,_=>false
 |n+1,t=>match P.underlying t with
  |some .bool|some (.int _) |some .string=>true
  |some (.slice e)=>okTy P n e&&decide (0<P.cellsOf e)
  |some (.struct fs)=>RZ P (P.cellsOf t) fs.toList 0&&fs.toList.all fun f=>okTy P n f.type
  |some (.array m e)=>okTy P n e&&m*P.cellsOf e==P.cellsOf t
  |_=>false
def tyV(P:Program):Nat→TypeId→V→Prop
 |0,_,_=>False
 |n+1,t,x=>match P.underlying t with
  |some .bool=> ∃b,x= .bool b
  |some (.int k)=> ∃m,x= .int k m∧(Lit.int k m).wf=true
  |some .string=> ∃s,x= .str s∧s.size≤maxLen
  |some (.slice e)=> ∃l,x= .sl l∧l.length≤maxLen∧ ∀y∈l,tyV P n e y
  |some (.struct fs)=> ∃ys,x= .agg (flat ys)∧ys.length=fs.toList.length∧ ∀(i:Nat) (f:Field) (y:V),fs.toList[i]? =some f→ys[i]? =some y→tyV P n f.type y
  |some (.array m e)=> ∃ys,x= .agg (flat ys)∧ys.length=m∧ ∀y∈ys,tyV P n e y
  |_=>False
def RdC(w:World)(G:Nat→Prop)(cs:List V)(vs:List Value):Prop:=
 vs.length=cs.length∧ ∀(i:Nat) (c:V),cs[i]? =some c→c.one=true∧ ∃u,vs[i]? =some u∧Rd w G c u
theorem RdC.nil{w:World}{G:Nat→Prop}:RdC w G [] []:=⟨rfl,fun i c h=>by simp at h⟩
theorem RdC.append{w:World}{G:Nat→Prop}{cs cs':List V}{vs vs':List Value}(h:RdC w G cs vs)(h':RdC w G cs' vs'):RdC w G (cs++cs') (vs++vs'):=by
 refine⟨by simp[h.1,h'.1],fun i c hi=> ?_⟩
 rw[List.getElem?_append]at hi⊢
 rw[h.1]
 split at hi
 ·rename_i hlt
  rw[if_pos hlt]
  exact h.2 i c hi
 ·rename_i hlt
  rw[if_neg hlt]
  exact h'.2 _ c hi
theorem RdC.one{w:World}{G:Nat→Prop}{c:V}{v:Value}(h1:c.one=true)(h:Rd w G c v):RdC w G [c] [v]:=
 ⟨rfl,fun i x hi=>by
  cases i with
  |zero=>simp at hi;subst hi;exact⟨h1,v,rfl,h⟩
  |succ i=>simp at hi⟩
theorem Wg{α:Type}{Q:Nat→α→Prop}: ∀(n:Nat),(∀i,i<n→ ∃y,Q i y)→ ∃l:List α,l.length=n∧ ∀(i:Nat) (y:α),l[i]? =some y→Q i y
 |0,_=>⟨[],rfl,fun i y h=>by simp at h⟩
 |n+1,h=>by
  obtain⟨l,h1,h2⟩:=Wg n fun i hi=>h i (by omega)
  obtain⟨y,hy⟩:=h n (by omega)
  refine⟨l++ [y],by simp[h1],fun i z hz=> ?_⟩
  rw[List.getElem?_append]at hz
  split at hz
  ·exact h2 i z hz
  ·rename_i hlt
   rw[List.getElem?_singleton]at hz
   split at hz
   ·rename_i he
    have:i=n:=by omega
    subst this
    simp only[Option.some.injEq]at hz
    subst hz;exact hy
   ·cases hz
theorem Un{w:World}{b:Nat}{a:Addr}{n:Nat}{cs:List Value}(h:w.cells? b a n=some cs):cs.length=n∧ ∀i,i<n→w.cell? (a.add i)=cs[i]? :=by
 unfold World.cells? at h
 split at h
 ·have h1:=mapM_some_length h
  rw[List.length_range]at h1
  refine⟨h1,fun i hi=>mapM_some_get h i i ?_⟩
  rw[List.getElem?_range hi]
 ·cases h
theorem Z1e{w:World}{a:Addr}{v:Value}(h:w.cell? a=some v):a.block<w.heap.size:=by
 unfold World.cell? at h
 rcases Nat.lt_or_ge a.block w.heap.size with h1|h1
 ·exact h1
 ·have:w.heap[a.block]? =none:=by simp[h1]
  simp[this]at h
theorem RO{w:World}{G:Nat→Prop}: ∀ {ys:List V} {vss:List (List Value)},vss.length=ys.length→(∀(i:Nat) (y:V) (vs:List Value),ys[i]? =some y→vss[i]? =some vs→RdC w G y.cells vs)→RdC w G (flat ys) vss.flatten
 | [],[],_,_=>by simpa using RdC.nil
 | [],_::_,h,_=>by simp at h
 |_::_,[],h,_=>by simp at h
 |y::ys,vs::vss,h,hr=>by
  rw[YS,List.flatten_cons]
  exact(hr 0 y vs rfl rfl).append (RO (by simpa using h) fun i z us hz hu=>hr (i+1) z us (by simpa using hz) (by simpa using hu))
theorem L9{P:Program}{n:Nat}{cs:List Value}: ∀ {l:List Field} {o:Nat},RZ P n l o=true→o≤n∧(cs.length=n→cs.drop o=(l.map fun f=>(cs.drop f.offset).take (P.cellsOf f.type)).flatten)
 | [],o,h=>by
   simp only[RZ,beq_iff_eq]at h
   subst h
   exact⟨Nat.le_refl _,fun hc=>by simp[←hc]⟩
 |f::l,o,h=>by
  simp only[RZ,Bool.and_eq_true,beq_iff_eq]at h
  obtain⟨h1,h2⟩:=h
  obtain⟨h3,h4⟩:=L9 (cs:=cs) h2
  refine⟨by omega,fun hc=> ?_⟩
  rw[List.map_cons,List.flatten_cons,←h4 hc,h1,←List.drop_drop,List.take_append_drop]
theorem Z0z{cs:List Value}{k:Nat}: ∀ {m:Nat},cs.length=m*k→cs=((List.range m).map fun i=>(cs.drop (i*k)).take k).flatten:=by
 have: ∀(m:Nat) (cs:List Value),cs.take (m*k)=((List.range m).map fun i=>(cs.drop (i*k)).take k).flatten:=by
  intro m
  induction m with
  |zero=>intro cs;simp
  |succ m ih=>
   intro cs
   rw[List.range_succ,List.map_append,List.flatten_append,←ih,Nat.succ_mul,List.take_add]
   simp
 intro m h
 have h2:=this m cs
 rw[List.take_of_length_le (by omega)]at h2
 exact h2
section
variable {H:Type} {enc:TypeId×Value→H} {P:Program} {w:World} {spare:Nat→Bool} {held:Bool}
theorem VQ: ∀ {n:Nat} {t:TypeId} {fuel:Nat} {cs:List Value} {d:DataW H×List MemPlace},okTy P n t=true→DataW.trod enc P w 0 spare held fuel t cs=some d→
  ∃x,tyV P n t x∧RdC w (fun b=>b<w.heap.size) x.cells cs
 |0,t,fuel,cs,d,hk,h=>by cases hk
 |n+1,t,fuel,cs,d,hk,h=>by
  unfold okTy at hk
  unfold tyV
  split at hk
  ·rename_i ht
   obtain⟨b,rfl,_⟩:=DataW.trod_bool ht h
   exact⟨.bool b,⟨b,rfl⟩,.one rfl (.bool b)⟩
  ·rename_i k ht
   obtain⟨m,rfl,_,hw⟩:=DataW.trod_int ht h
   exact⟨.int k m,⟨m,rfl,hw⟩,.one rfl (.int k m)⟩
  ·rename_i ht
   obtain⟨s,rfl,_,hw⟩:=DataW.trod_string ht h
   exact⟨.str s,⟨s,rfl,hw⟩,.one rfl (.str s)⟩
  ·rename_i e ht
   simp only[Bool.and_eq_true,decide_eq_true_eq]at hk
   obtain⟨hk1,hk2⟩:=hk
   rcases DataW.trod_slice ht h with ⟨rfl,_⟩ | ⟨a,len,cap,elems,rest,m,_,rfl,_,_,hlc,hcm,hel,hat,_⟩
   ·exact⟨.sl [],⟨[],rfl,by simp,by simp⟩,.one rfl (.nil _ _ (Nat.zero_le _))⟩
   ·have heach: ∀i,i<len→ ∃y,tyV P n e y∧ ∃vs,w.cells? 0 (a.add (i*P.cellsOf e)) (P.cellsOf e)=some vs∧RdC w (fun b=>b<w.heap.size) y.cells vs:=by
     intro i hi
     have h1:=hat i hi
     rw[List.getElem?_eq_getElem (by omega)]at h1
     simp only[Option.bind_eq_some_iff]at h1
     obtain⟨vs,h2,h3⟩:=h1
     obtain⟨y,hy,hr⟩:=VQ hk1 h3
     exact⟨y,hy,vs,h2,hr⟩
    obtain⟨l,hl1,hl2⟩:=Wg len heach
    have hty: ∀y∈l,tyV P n e y:=fun y hy=>by
     obtain⟨i,hi⟩:=List.getElem?_of_mem hy
     exact(hl2 i y hi).1
    refine⟨.sl l,⟨l,rfl,by omega,hty⟩,.one rfl ?_⟩
    cases hlen:len with
    |zero=>
     have:l= []:=List.eq_nil_of_length_eq_zero (by omega)
     subst this
     exact .nil _ _ hcm
    |succ len'=>
     obtain⟨b,o,spot⟩:=a
     have hspot:spot=none:=by
      obtain⟨y,_,vs,hv,_⟩:=heach 0 (by omega)
      obtain⟨h1,h2⟩:=Un hv
      have h3:=h2 0 hk2
      rw[List.getElem?_eq_getElem (by omega)]at h3
      have h4:=World.cell?_spot h3
      cases spot with
      |none=>rfl
      |some s=>simp[Addr.add]at h4
     subst hspot
     have hcell: ∀(i j:Nat) (y:V),l[i]? =some y→j<P.cellsOf e→ ∃(u:Value),w.cell? ⟨b,o+(i*P.cellsOf e+j),none⟩=some u∧ ∃c,y.cells[j]? =some c∧c.one=true∧Rd w (fun b=>b<w.heap.size) c u:=by
      intro i j y hy hj
      obtain⟨_,vs,hv,hr⟩:=hl2 i y hy
      obtain⟨h1,h2⟩:=Un hv
      have h3:=h2 j hj
      rw[Addr.add_lit,Addr.add_lit,List.getElem?_eq_getElem (by omega)]at h3
      have hyl:j<y.cells.length:=by rw[←hr.1];omega
      obtain⟨q1,u,q2,q3⟩:=hr.2 j y.cells[j] (List.getElem?_eq_getElem hyl)
      rw[List.getElem?_eq_getElem (by omega),Option.some.injEq]at q2
      subst q2
      exact⟨_,by rw[←Nat.add_assoc];exact h3,_,List.getElem?_eq_getElem hyl,q1,q3⟩
     have hfit: ∀y∈l,y.fits (P.cellsOf e):=fun y hy=>by
      obtain⟨i,hi⟩:=List.getElem?_of_mem hy
      obtain⟨_,vs,hv,hr⟩:=hl2 i y hi
      refine⟨by rw[←hr.1,(Un hv).1],fun c hc=> ?_⟩
      obtain⟨j,hj⟩:=List.getElem?_of_mem hc
      exact(hr.2 j c hj).1
     have hdiv: ∀i,i<l.length*P.cellsOf e→ ∃y,l[i / P.cellsOf e]? =some y∧i%P.cellsOf e<P.cellsOf e∧i=i / P.cellsOf e*P.cellsOf e+i%P.cellsOf e:=by
      intro i hi
      have h1:i / P.cellsOf e<l.length:=(Nat.div_lt_iff_lt_mul hk2).2 hi
      exact⟨_,List.getElem?_eq_getElem h1,Nat.mod_lt _ hk2,by rw[Nat.mul_comm];exact(Nat.div_add_mod _ _).symm⟩
     have hb:b<w.heap.size:=by
      obtain⟨y,hy⟩: ∃y,l[0]? =some y:=⟨_,List.getElem?_eq_getElem (by omega)⟩
      obtain⟨u,hu,_⟩:=hcell 0 0 y hy hk2
      exact Z1e hu
     have hsl:=Rd.sl (w:=w) (G:=fun b=>b<w.heap.size) l b o cap (P.cellsOf e) (fun i=>(w.cell? ⟨b,o+i,none⟩).getD undef) (by omega) hcm hb hfit (fun i hi=> ?_) (fun i c hi=> ?_)
     ·rw[hl1,hlen]at hsl
      exact hsl
     ·obtain⟨y,h1,h2,h3⟩:=hdiv i hi
      obtain⟨u,hu,_⟩:=hcell _ _ y h1 h2
      rw[←h3]at hu
      rw[hu];rfl
     ·have hil:i<l.length*P.cellsOf e:=by
       rw[←Y3 hfit]
       exact(List.getElem?_eq_some_iff.1 hi).1
      obtain⟨y,h1,h2,h3⟩:=hdiv i hil
      obtain⟨u,hu,c',hc',_,hr⟩:=hcell _ _ y h1 h2
      rw[←h3]at hu
      rw[h3,Wk hfit h1 _ h2,hc']at hi
      cases hi
      simp only[hu,Option.getD_some]
      exact hr
  ·rename_i fs ht
   simp only[Bool.and_eq_true,List.all_eq_true]at hk
   obtain⟨hk1,hk2⟩:=hk
   obtain⟨xs,m,_,_,hcl,hxl,hat⟩:=DataW.trod_struct ht h
   obtain⟨ys,hy1,hy2⟩:=Wg (Q:=fun i y=> ∀f,fs.toList[i]? =some f→tyV P n f.type y∧RdC w (fun b=>b<w.heap.size) y.cells ((cs.drop f.offset).take (P.cellsOf f.type))) fs.toList.length (by
    intro i hi
    have hf:fs.toList[i]? =some fs.toList[i]:=List.getElem?_eq_getElem hi
    have h1:=hat i fs.toList[i] (by simp)
    rw[List.getElem?_eq_getElem (by rw[hxl];exact hi)]at h1
    obtain⟨y,hy,hr⟩:=VQ (hk2 _ (List.getElem_mem hi)) h1
    exact⟨y,fun f h2=>by rw[hf]at h2;cases h2;exact⟨hy,hr⟩⟩)
   refine⟨.agg (flat ys),⟨ys,rfl,hy1,fun i f y hf hy=>(hy2 i y hy f hf).1⟩,?_⟩
   have hcut:=(L9 (cs:=cs) hk1).2 hcl
   rw[List.drop_zero]at hcut
   rw[hcut]
   refine RO (by simp[hy1]) fun i y vs hy hv=> ?_
   rw[List.getElem?_map,Option.map_eq_some_iff]at hv
   obtain⟨f,hf,rfl⟩:=hv
   exact(hy2 i y hy f hf).2
  ·rename_i m e ht
   simp only[Bool.and_eq_true,beq_iff_eq]at hk
   obtain⟨hk1,hk2⟩:=hk
   obtain⟨xs,q,_,_,hcl,hxl,hat⟩:=DataW.trod_array ht h
   obtain⟨ys,hy1,hy2⟩:=Wg (Q:=fun i y=>tyV P n e y∧RdC w (fun b=>b<w.heap.size) y.cells ((cs.drop (i*P.cellsOf e)).take (P.cellsOf e))) m (by
    intro i hi
    have h1:=hat i hi
    rw[List.getElem?_eq_getElem (by omega)]at h1
    exact VQ hk1 h1)
   refine⟨.agg (flat ys),⟨ys,rfl,hy1,fun y hy=> ?_⟩,?_⟩
   ·obtain⟨i,hi⟩:=List.getElem?_of_mem hy
    exact(hy2 i y hi).1
   ·rw[Z0z (cs:=cs) (k:=P.cellsOf e) (m:=m) (by omega)]
    refine RO (by simp[hy1]) fun i y vs hy hv=> ?_
    rw[List.getElem?_map,Option.map_eq_some_iff]at hv
    obtain⟨j,hj,rfl⟩:=hv
    have:j=i:=by
     rw[List.getElem?_eq_some_iff]at hj
     obtain⟨_,hj⟩:=hj
     simpa using hj.symm
    subst this
    exact(hy2 j y hy).2
  ·cases hk
theorem jX{n:Nat}{t:TypeId}{v:Value}{d:DataW H}{ps:List MemPlace}{r:Reach}{b0:Nat}(hk:okTy P n t=true)(hval:Value.okWide P w r b0 t v)(h:DataW.Trod enc P w 0 spare held t v d ps):
  ∃x,tyV P n t x∧Rd w (fun b=>b<w.heap.size) x v:=by
 obtain⟨fuel,h⟩:=h
 obtain⟨x,hx,hr⟩:=VQ hk h
 refine⟨x,hx,?_⟩
 have h1: ∀ {c:V},x=c→c.cells= [c]→v.cells.toList= [v]→Rd w (fun b=>b<w.heap.size) x v:=by
  intro c he hc hv
  subst he
  rw[hc,hv]at hr
  obtain⟨_,u,q1,q2⟩:=hr.2 0 x rfl
  simp at q1
  subst q1
  exact q2
 have h2: ∀ {cs:List V} {vs:Array Value},x= .agg cs→v= .agg vs→Rd w (fun b=>b<w.heap.size) x v:=by
  intro cs vs he hv
  subst he hv
  refine .agg cs vs (by have:=hr.1;simpa[Value.cells]using this) (fun c hc=> ?_) fun i c hi=> ?_
  ·obtain⟨i,hi⟩:=List.getElem?_of_mem hc
   exact(hr.2 i c hi).1
  ·obtain⟨_,u,q1,q2⟩:=hr.2 i c hi
   have:vs.getD i undef=u:=by
    have q3:vs[i]? =some u:=by simpa[Value.cells]using q1
    simp[Array.getD_eq_getD_getElem?,q3]
   rw[this]
   exact q2
 cases n with
 |zero=>cases hk
 |succ n=>
  unfold okTy at hk
  unfold tyV at hx
  split at hk
  ·rename_i ht
   rw[ht]at hx
   obtain⟨b,rfl⟩:=hx
   obtain⟨c,rfl⟩:=okWide_bool ht hval
   exact h1 rfl rfl rfl
  ·rename_i k ht
   rw[ht]at hx
   obtain⟨b,rfl,_⟩:=hx
   obtain⟨c,rfl⟩:=okWide_int ht hval
   exact h1 rfl rfl rfl
  ·rename_i ht
   rw[ht]at hx
   obtain⟨b,rfl,_⟩:=hx
   obtain⟨c,rfl⟩:=okWide_string ht hval
   exact h1 rfl rfl rfl
  ·rename_i e ht
   rw[ht]at hx
   obtain⟨b,rfl,_⟩:=hx
   obtain⟨c,_,_,rfl⟩:=okWide_slice ht hval
   exact h1 rfl rfl rfl
  ·rename_i fs ht
   rw[ht]at hx
   obtain⟨b,rfl,_⟩:=hx
   simp only[Value.okWide,ht]at hval
   obtain⟨cs,rfl,_⟩:=hval
   exact h2 rfl rfl
  ·rename_i m e ht
   rw[ht]at hx
   obtain⟨b,rfl,_⟩:=hx
   simp only[Value.okWide,ht]at hval
   obtain⟨cs,rfl,_⟩:=hval
   exact h2 rfl rfl
  ·cases hk
theorem RU{n:Nat}{r:Reach}{b0:Nat}: ∀ {ts:List TypeId} {vs:List Value} {ds:List (DataW H)} {ps:List MemPlace},DataW.TrodAll enc P w 0 spare held ts vs ds ps→(∀t∈ts,okTy P n t=true)→
  (∀(j:Nat) t v,ts[j]? =some t→vs[j]? =some v→Value.okWide P w r b0 t v)→
  ∃xs:List V,xs.length=vs.length∧vs.length=ts.length∧ds.length=ts.length∧(∀(i:Nat) (t:TypeId) (x:V),ts[i]? =some t→xs[i]? =some x→tyV P n t x)∧ ∀(i:Nat) (x:V) (v:Value),xs[i]? =some x→vs[i]? =some v→Rd w (fun b=>b<w.heap.size) x v
 | [],vs,ds,ps,h,_,_=>by
   obtain⟨rfl,rfl,rfl⟩:=trodAll_nil h
   exact⟨[],rfl,rfl,rfl,fun i t x h=>by simp at h,fun i x v h=>by simp at h⟩
 |t::ts,vs,ds,ps,h,hk,hval=>by
  obtain⟨v,vs',d,ds',p,q,rfl,rfl,rfl,h1,h2⟩:=trodAll_cons h
  obtain⟨x,hx1,hx2⟩:=jX (hk t (by simp)) (hval 0 t v rfl rfl) h1
  obtain⟨xs,q1,q2,q5,q3,q4⟩:=RU h2 (fun t ht=>hk t (by simp[ht])) fun j t' v' ht hv=>hval (j+1) t' v' (by simpa using ht) (by simpa using hv)
  refine⟨x::xs,by simp[q1],by simp[q2],by simp[q5],fun i t' x' ht hx=> ?_,fun i x' v' hx hv=> ?_⟩
  ·cases i with
   |zero=>simp at ht hx;subst ht hx;exact hx1
   |succ i=>exact q3 i t' x' (by simpa using ht) (by simpa using hx)
  ·cases i with
   |zero=>simp at hv hx;subst hv hx;exact hx2
   |succ i=>exact q4 i x' v' (by simpa using hx) (by simpa using hv)
theorem QK{W W':World}(hl:laidOutB P=true)(hb:Below W.heap.size W W'): ∀ {ts:List TypeId} {vs:List Value} {ds:List (DataW H)} {ps:List MemPlace},DataW.TrodAll enc P W 0 (fun _=>true) true ts vs ds ps→
  (∀t∈ts,P.readableRec t=true∧t<P.types.size)→(∀x∈ps,x.block<W.heap.size)→DataW.TrodAll enc P W' 0 (fun b=>decide (b<W.heap.size)) true ts vs ds ps
 | [],vs,ds,ps,h,_,_=>by
   obtain⟨rfl,rfl,rfl⟩:=trodAll_nil h
   exact trodAll_mk0
 |t::ts,vs,ds,ps,h,hk,hlt=>by
  obtain⟨v,vs',d,ds',p,q,rfl,rfl,rfl,h1,h2⟩:=trodAll_cons h
  exact trodAll_cons_mk (Below.trod hl (hk t (by simp)).1 (hk t (by simp)).2 h1 hb fun x hx=>hlt x (by simp[hx])) (QK hl hb h2 (fun t ht=>hk t (by simp[ht])) fun x hx=>hlt x (by simp[hx]))
end
theorem Qt{P:Program}{f:FuncId}{fn:Func}{s:ChangeSpec}{tb:TypeId}(n:Nat)(hl:laidOutB P=true)(hok:(fn.params.toList.all fun t=>okTy P n t)=true)(hread:(fn.params.toList.all fun t=>P.readableRec t&&decide (t<P.types.size))=true)
  (hvars:s.vars= []) (hres:fn.resultTypes= #[tb]) (hb:P.underlying tb=some .bool)
  (hfn: ∀(H:Type) (ds:List (DataW H)),ds.length=fn.params.toList.length→s.fn H ds= {results:= [.lit (.bool true)],args:=ds})
  (hlaw: ∀xs:List V,xs.length=fn.params.toList.length→(∀(i:Nat) (t:TypeId) (x:V),fn.params.toList[i]? =some t→xs[i]? =some x→tyV P n t x)→VC P f false xs (.bool true))
  (H:Type) (enc:TypeId×Value→H) (W:World) (base:Nat) (args:Array Value) (ds gs:List (DataW H)) (before:List MemPlace)
  (hval: ∀(j:Nat) t v,fn.params[j]? =some t→args[j]? =some v→Value.okWide P W .any base t v)
  (hW:DataW.Whole enc P fn.params.toList s.vars false W args.toList ds gs before):
  Calls P f args W fun e W'=> ∃v,e= .returned v∧s.post enc P fn false true false false W args v W':=by
 have hlt: ∀x∈before,x.block<W.heap.size:=fun x hx=>by simpa using hW.lt x hx
 have hW':=hW
 obtain⟨p,q,hA,hV,rfl,_,_⟩:=hW
 rw[hvars]at hV
 obtain⟨rfl,rfl⟩:=trodVars_none hV
 rw[List.append_nil]at hlt hW'
 obtain⟨xs,q1,q2,q5,q3,q4⟩:=RU (n:=n) hA (List.all_eq_true.1 hok) fun j t v ht hv=>hval j t v (by simpa using ht) (by simpa using hv)
 obtain⟨_,hvc⟩:=hlaw xs (by rw[q1,q2]) q3
 refine Calls.mono (hvc W (fun b=>b<W.heap.size) args (fun b h=>h) (by simpa using q1.symm) fun i x hx=> ?_) fun e W' he=> ?_
 ·have hi:i<args.toList.length:=by rw[←q1];exact(List.getElem?_eq_some_iff.1 hx).1
  have:args.getD i undef=args.toList[i]:=by
   have hi2:i<args.size:=by simpa using hi
   simp[Array.getD_eq_getD_getElem?,hi2]
  rw[this]
  exact q4 i x _ hx (List.getElem?_eq_getElem hi)
 ·obtain⟨v,rfl,hbel,hrd⟩:=he
  cases hrd
  refine⟨_,rfl,ds,[],p,[],p,[],hW',?_,?_,?_,hbel.frame _,fun h=>by cases h⟩
  ·rw[hfn H _ (by rw[List.append_nil];exact q5),hres]
   exact trodAll_mk1 (shut_bool hb true)
  ·rw[hfn H _ (by rw[List.append_nil];exact q5),List.append_nil]
   exact QK hl hbel hA (fun t ht=>by simpa using List.all_eq_true.1 hread t ht) hlt
  ·rw[hvars,hfn H _ (by rw[List.append_nil];exact q5)]
   rfl
theorem qw{α:Type}{enc:α→V}{Q:α→Prop}: ∀ {l:List V},(∀y∈l,∃a,y=enc a∧Q a)→ ∃l':List α,l=l'.map enc∧ ∀a∈l',Q a
 | [],_=>⟨[],rfl,by simp⟩
 |y::l,h=>by
  obtain⟨a,rfl,ha⟩:=h y (by simp)
  obtain⟨l',rfl,hl⟩:=qw (l:=l) fun z hz=>h z (List.mem_cons_of_mem _ hz)
  exact⟨a::l',rfl,fun b hb=>by
   rcases List.mem_cons.1 hb with rfl|hb
   ·exact ha
   ·exact hl b hb⟩
theorem Z15{P:Program}{n:Nat}{t:TypeId}{x:V}(ht:P.underlying t=some .bool)(h:tyV P (n+1) t x): ∃b,x= .bool b:=by
 unfold tyV at h;rw[ht]at h;exact h
theorem Z0p{P:Program}{n:Nat}{t:TypeId}{x:V}{k:IntKind}(ht:P.underlying t=some (.int k))(h:tyV P (n+1) t x): ∃m,x= .int k m∧k.min≤m∧m≤k.max:=by
 unfold tyV at h;rw[ht]at h
 obtain⟨m,rfl,hw⟩:=h
 simp only[Lit.wf,Bool.and_eq_true,decide_eq_true_eq]at hw
 exact⟨m,rfl,hw⟩
theorem R5{P:Program}{n:Nat}{t e:TypeId}{x:V}{α:Type}{enc:α→V}{Q:α→Prop}(ht:P.underlying t=some (.slice e))(h:tyV P (n+1) t x)(hQ: ∀y,tyV P n e y→ ∃a,y=enc a∧Q a): ∃l:List α,x= .sl (l.map enc)∧l.length≤maxLen∧ ∀a∈l,Q a:=by
 unfold tyV at h;rw[ht]at h
 obtain⟨l,rfl,h1,h2⟩:=h
 obtain⟨l',rfl,h3⟩:=qw fun y hy=>hQ y (h2 y hy)
 exact⟨l',rfl,by simpa using h1,h3⟩
theorem Tc{P:Program}{n:Nat}{t:TypeId}{x:V}{fs:Array Field}(ht:P.underlying t=some (.struct fs))(h:tyV P (n+1) t x): ∃ys,x= .agg (flat ys)∧ys.length=fs.toList.length∧ ∀(i:Nat) (f:Field) (y:V),fs.toList[i]? =some f→ys[i]? =some y→tyV P n f.type y:=by
 unfold tyV at h;rw[ht]at h;exact h
end Vm
end
section
namespace Vm
open Go
open Go.Proofs
def U5(s:St):List (Nat×SV)→St
 | []=>s
 | (i,x)::l=>U5 (putS s i x) l
@[simp] theorem Z1V(s:St):U5 s []=s:=rfl
@[simp] theorem Z1s(s:St)(i:Nat)(x:SV)(l:List (Nat×SV)):U5 s ((i,x)::l)=U5 (putS s i x) l:=rfl
section
variable {P:Program} {K K':St→Prop}
theorem KB(hK: ∀s,K s→K' s){t:St}: ∀ {l:List (Nat×OV)} {u:St},wpO l t u K→wpO l t u K'
 | [],_,h=>hK _ h
 | (i,o)::l,u,h=>by
   simp only[wpO]at h⊢
   split
   ·rename_i x hx
    rw[hx]at h
    exact KB hK h
   ·rename_i hx
    rw[hx]at h
    exact h
theorem Xy(hK: ∀s,K s→K' s): ∀ {l:List EF} {s:St},wpE P l s K→wpE P l s K'
 | [],_,h=>hK _ h
 | .lt i C e::l,s,h=>by
   simp only[wpE]at h⊢
   split
   ·rename_i hc
    rw[if_pos hc]at h
    split
    ·rename_i x hx
     rw[hx]at h
     exact Xy hK h
    ·rename_i hx
     rw[hx]at h
     exact h
   ·rename_i hc
    rw[if_neg hc]at h
    exact Xy hK h
 | .call i C f fr fl es::l,s,h=>by
   simp only[wpE]at h⊢
   split
   ·rename_i hc
    rw[if_pos hc]at h
    split
    ·rename_i x n hx hn
     rw[hx,hn]at h
     obtain⟨r,h1,h2,h3⟩:=h
     exact⟨r,h1,h2,Xy hK h3⟩
    ·rename_i hne
     split at h
     ·rename_i x n hx hn
      exact(hne x n hx hn).elim
     ·exact h
   ·rename_i hc
    rw[if_neg hc]at h
    exact Xy hK h
 | .callm i C f ks es::l,s,h=>by
   simp only[wpE]at h⊢
   split
   ·rename_i hc
    rw[if_pos hc]at h
    split
    ·rename_i x n hx hn
     rw[hx,hn]at h
     obtain⟨r,h1,h3⟩:=h
     exact⟨r,h1,Xy hK h3⟩
    ·rename_i hx
     split at h
     ·rename_i x n h1 h2
      exact(hx x n h1 h2).elim
     ·exact h
   ·rename_i hc
    rw[if_neg hc]at h
    split at h
    ·exact Xy hK h
    ·exact Xy hK h
    ·exact h.elim
theorem Xx: ∀ {a:Stm} {s:St} {N N' R R':St→Prop} {X X':Nat→St→Prop},wpS P a s N X R→(∀s,N s→N' s)→(∀i s,X i s→X' i s)→(∀s,R s→R' s)→wpS P a s N' X' R'
 | .reg r,s,_,_,_,_,_,_,h,hN,_,_=>Xy (fun t ht=>⟨ht.1,KB hN ht.2⟩) h
 | .skip,s,_,_,_,_,_,_,h,hN,_,_=>hN _ h
 | .seq a b,s,_,_,_,_,_,_,h,hN,hX,hR=>Xx (a:=a) (s:=s) h (fun t ht=>Xx (a:=b) (s:=t) ht hN hX hR) hX hR
 | .cond c a b,s,_,_,_,_,_,_,h,hN,hX,hR=>by
   simp only[wpS]at h⊢
   split
   ·rename_i hc
    rw[hc]at h
    exact Xx h hN hX hR
   ·rename_i hc
    rw[hc]at h
    exact Xx h hN hX hR
   ·rename_i h1 h2
    split at h
    ·rename_i hc;exact(h1 hc).elim
    ·rename_i hc;exact(h2 hc).elim
    ·exact h
 | .block id a,s,_,_,_,_,_,_,h,hN,hX,hR=>Xx (a:=a) (s:=s) h hN (fun i t ht=>by
   split
   ·rename_i hi;rw[if_pos hi]at ht;exact hN _ ht
   ·rename_i hi;rw[if_neg hi]at ht;exact hX _ _ ht) hR
 | .loop keep a,s,_,_,_,_,_,_,h,hN,hX,hR=>by
   obtain⟨I,m,h1,h2⟩:=h
   exact⟨I,m,h1,fun t ht=>Xx (a:=a) (s:=t) (h2 t ht) (fun _ h=>h) hX hR⟩
 | .exit id,s,_,_,_,_,_,_,h,_,hX,_=>hX _ _ h
 | .ret,s,_,_,_,_,_,_,h,_,_,hR=>hR _ h
end
theorem Zz{P:Program}{keep:List Nat}{a:Stm}{s:St}{N R:St→Prop}{X:Nat→St→Prop}{ι:Type}(L:ι→List (Nat×SV))(Inv:ι→Prop)(m:St→Nat)(p0:ι)
  (h0:Yj keep s=U5 (Yj keep s) (L p0)) (hI:Inv p0)
  (h1: ∀p,Inv p→wpS P a (U5 (Yj keep s) (L p)) (fun s'=> ∃q,Inv q∧Yj keep s'=U5 (Yj keep s) (L q)∧m (U5 (Yj keep s) (L q)) <m (U5 (Yj keep s) (L p))) X R):
  wpS P (.loop keep a) s N X R:=by
 refine⟨fun t=> ∃p,Inv p∧t=U5 (Yj keep s) (L p),m,⟨p0,hI,h0⟩,?_⟩
 rintro t ⟨p,hp,rfl⟩
 refine Xx (h1 p hp) (fun s' hs=> ?_) (fun _ _ h=>h) (fun _ h=>h)
 obtain⟨q,hq,he,hm⟩:=hs
 rw[he]
 exact⟨⟨q,hq,rfl⟩,hm⟩
def cnt(c:Nat)(n:Nat)(t:St):Nat:=match get t c with| .v (.int _ k)=>n-k.toNat|_=>0
theorem ZX{P:Program}{keep:List Nat}{a:Stm}{s:St}{N R:St→Prop}{X:Nat→St→Prop}(c n:Nat)(L:Nat→List (Nat×SV))(Inv:Nat→Prop)
  (h0:Yj keep s=U5 (Yj keep s) (L 0)) (hc: ∀i,get (U5 (Yj keep s) (L i)) c= .v (vi i)) (hI:Inv 0)
  (h1: ∀i,i≤n→Inv i→wpS P a (U5 (Yj keep s) (L i)) (fun s'=>i<n∧Inv (i+1)∧Yj keep s'=U5 (Yj keep s) (L (i+1))) X R):
  wpS P (.loop keep a) s N X R:=by
 refine Zz L (fun i=>i≤n∧Inv i) (cnt c n) 0 h0 ⟨by omega,hI⟩ ?_
 rintro i ⟨hi,hv⟩
 refine Xx (h1 i hi hv) (fun s' hs=> ?_) (fun _ _ h=>h) (fun _ h=>h)
 obtain⟨h,hv',he⟩:=hs
 refine⟨i+1,⟨by omega,hv'⟩,he,?_⟩
 simp only[cnt,hc]
 simp
 omega
theorem Yn{P:Program}{keep:List Nat}{a:Stm}{s:St}{N R:St→Prop}{X:Nat→St→Prop}(c n:Nat)(Inv:Nat→Prop)
  (h0:Yj keep s=putS (Yj keep s) c (.v (vi 0))) (hc: ∀x,get (putS (Yj keep s) c x) c=x) (hI:Inv 0)
  (h1: ∀i,i≤n→Inv i→wpS P a (putS (Yj keep s) c (.v (vi i))) (fun s'=>i<n∧Inv (i+1)∧Yj keep s'=putS (Yj keep s) c (.v (vi (i+1)))) X R):
  wpS P (.loop keep a) s N X R:=
 ZX c n (fun i=> [(c,.v (vi i))]) Inv h0 (fun i=>hc _) hI h1
end Vm
end
section
namespace Vm
open Go
open Go.Proofs
set_option maxRecDepth 100000
def p59:Fn:=⟨5,[0,2,3,5,12],
(.seq
(.reg ⟨[],[],[(1,.v (.c (.int .u64 (0)))),(2,.v (.c (.int .i64 (0))))]⟩)
(.seq
(.seq
(.reg ⟨[],[],[(3,.v (.bin .eql (.s 0) (.c (.int .u64 (0)))))]⟩)
(.cond (.s 3)
 (.seq
 (.reg ⟨[],[],[(1,.v (.c (.int .u64 (0)))),(2,.v (.c (.int .i64 (6))))]⟩)
 .ret)
 .skip))
(.seq
(.seq
(.reg ⟨[.lt 5 [] (.bin .eql (.bin .rem (.s 0) (.c (.int .u64 (2)))) (.c (.int .u64 (0))))],[([(5,false)],(.bin .eql (.s 0) (.c (.int .u64 (1)))))],[(4,.v (.ite (.s 5) (.c (.bool true)) (.bin .eql (.s 0) (.c (.int .u64 (1))))))]⟩)
(.cond (.s 4)
 (.seq
 (.reg ⟨[],[],[(1,.v (.c (.int .u64 (0)))),(2,.v (.c (.int .i64 (3))))]⟩)
 .ret)
 .skip))
(.seq
(.reg ⟨[],[],[(1,.v (.bin .quo (.s 0) (.c (.int .u64 (2))))),(2,.v (.c (.int .i64 (0))))]⟩)
.ret)))),
[(1,.v),(2,.v)]⟩
theorem c59:Z8 Tryz.prog fresh sig [.fz] [] Tryz.f59=some p59:=by kernel_rfl
def p62:Fn:=⟨4,[0,2,3,9],
(.seq
(.reg ⟨[],[],[(1,.v (.c (.int .u64 (0)))),(2,.v (.c (.int .i64 (0))))]⟩)
(.seq
(.seq
(.reg ⟨[.lt 4 [] (.bin .lss (.s 0) (.c (.int .u64 (1))))],[([(4,false)],(.bin .gtr (.s 0) (.c (.int .u64 (9223372036854775807)))))],[(3,.v (.ite (.s 4) (.c (.bool true)) (.bin .gtr (.s 0) (.c (.int .u64 (9223372036854775807))))))]⟩)
(.cond (.s 3)
 (.seq
 (.reg ⟨[],[],[(1,.v (.c (.int .u64 (0)))),(2,.v (.c (.int .i64 (1))))]⟩)
 .ret)
 .skip))
(.seq
(.reg ⟨[],[],[(1,.v (.bin .add (.bin .mul (.c (.int .u64 (2))) (.s 0)) (.c (.int .u64 (1))))),(2,.v (.c (.int .i64 (0))))]⟩)
.ret))),
[(1,.v),(2,.v)]⟩
theorem c62:Z8 Tryz.prog fresh sig [.fz] [] Tryz.f62=some p62:=by kernel_rfl
def p64:Fn:=⟨6,[0,1,2,3,4,8],
(.seq
(.reg ⟨[],[],[(1,.m [(.fld (.sz (.s 0) 2) 0),(.fld (.sz (.s 0) 2) 1)]),(2,.v (.c (.int .u64 (0)))),(3,.v (.c (.int .i64 (0))))]⟩)
(.seq
(.reg ⟨[.call 6 [] (.id 82) false false [(.mm 1 0 2)]],[],[(4,.v (.s 6))]⟩)
(.seq
(.seq
(.reg ⟨[],[],[(5,.v (.un .not (.s 4)))]⟩)
(.cond (.s 5)
 (.seq
 (.reg ⟨[],[],[(2,.v (.c (.int .u64 (0)))),(3,.v (.c (.int .i64 (1))))]⟩)
 .ret)
 .skip))
(.seq
(.reg ⟨[],[],[(2,.v (.bin .mul (.c (.int .u64 (2))) (.bin .add (.conv .u64 (.m 1 0)) (.bin .mul (.c (.int .u64 (65536))) (.conv .u64 (.m 1 1)))))),(3,.v (.c (.int .i64 (0))))]⟩)
.ret)))),
[(2,.v),(3,.v)]⟩
theorem c64:Z8 Tryz.prog fresh sig [.fz] [] Tryz.f64=some p64:=by kernel_rfl
def p68:Fn:=⟨4,[0,2,3,9],
(.seq
(.reg ⟨[],[],[(1,.v (.c (.int .u64 (0)))),(2,.v (.c (.int .i64 (0))))]⟩)
(.seq
(.seq
(.reg ⟨[.lt 4 [] (.bin .lss (.s 0) (.c (.int .u64 (1))))],[([(4,false)],(.bin .gtr (.s 0) (.c (.int .u64 (9223372036854775807)))))],[(3,.v (.ite (.s 4) (.c (.bool true)) (.bin .gtr (.s 0) (.c (.int .u64 (9223372036854775807))))))]⟩)
(.cond (.s 3)
 (.seq
 (.reg ⟨[],[],[(1,.v (.c (.int .u64 (0)))),(2,.v (.c (.int .i64 (1))))]⟩)
 .ret)
 .skip))
(.seq
(.reg ⟨[],[],[(1,.v (.bin .add (.bin .mul (.c (.int .u64 (2))) (.s 0)) (.c (.int .u64 (1))))),(2,.v (.c (.int .i64 (0))))]⟩)
.ret))),
[(1,.v),(2,.v)]⟩
theorem c68:Z8 Tryz.prog fresh sig [.fz] [] Tryz.f68=some p68:=by kernel_rfl
def p72:Fn:=⟨5,[0,2,3,4,20],
(.seq
(.reg ⟨[],[],[(1,.m [(.c (.int .i64 (0))),(.c (.int .i64 (0)))]),(2,.v (.c (.int .i64 (0))))]⟩)
(.seq
(.reg ⟨[],[],[(3,.m [(.fld (.ag [(.conv .i64 (.bin .rem (.bin .shr (.s 0) (.c (.int .u64 (1)))) (.c (.int .u64 (65536))))),(.conv .i64 (.bin .shr (.s 0) (.c (.int .u64 (17)))))]) 0),(.fld (.ag [(.conv .i64 (.bin .rem (.bin .shr (.s 0) (.c (.int .u64 (1)))) (.c (.int .u64 (65536))))),(.conv .i64 (.bin .shr (.s 0) (.c (.int .u64 (17)))))]) 1)])]⟩)
(.seq
(.seq
(.reg ⟨[.lt 5 [] (.bin .neq (.bin .rem (.s 0) (.c (.int .u64 (2)))) (.c (.int .u64 (0)))),.call 6 [(5,false)] (.id 97) false false [(.mm 3 0 2)]],[([(5,false)],(.un .not (.s 6)))],[(4,.v (.ite (.s 5) (.c (.bool true)) (.un .not (.s 6))))]⟩)
(.cond (.s 4)
 (.seq
 (.reg ⟨[],[],[(1,.m [(.fld (.ag [(.c (.int .i64 (0))),(.c (.int .i64 (0)))]) 0),(.fld (.ag [(.c (.int .i64 (0))),(.c (.int .i64 (0)))]) 1)]),(2,.v (.c (.int .i64 (3))))]⟩)
 .ret)
 .skip))
(.seq
(.reg ⟨[],[],[(1,.m [(.fld (.mm 3 0 2) 0),(.fld (.mm 3 0 2) 1)]),(2,.v (.c (.int .i64 (0))))]⟩)
.ret)))),
[(1,(.ag 2)),(2,.v)]⟩
theorem c72:Z8 Tryz.prog fresh sig [.fz] [] Tryz.f72=some p72:=by kernel_rfl
def p79:Fn:=⟨5,[0,2,3,5,12],
(.seq
(.reg ⟨[],[],[(1,.v (.c (.int .u64 (0)))),(2,.v (.c (.int .i64 (0))))]⟩)
(.seq
(.seq
(.reg ⟨[],[],[(3,.v (.bin .eql (.s 0) (.c (.int .u64 (0)))))]⟩)
(.cond (.s 3)
 (.seq
 (.reg ⟨[],[],[(1,.v (.c (.int .u64 (0)))),(2,.v (.c (.int .i64 (6))))]⟩)
 .ret)
 .skip))
(.seq
(.seq
(.reg ⟨[.lt 5 [] (.bin .eql (.bin .rem (.s 0) (.c (.int .u64 (2)))) (.c (.int .u64 (0))))],[([(5,false)],(.bin .eql (.s 0) (.c (.int .u64 (1)))))],[(4,.v (.ite (.s 5) (.c (.bool true)) (.bin .eql (.s 0) (.c (.int .u64 (1))))))]⟩)
(.cond (.s 4)
 (.seq
 (.reg ⟨[],[],[(1,.v (.c (.int .u64 (0)))),(2,.v (.c (.int .i64 (3))))]⟩)
 .ret)
 .skip))
(.seq
(.reg ⟨[],[],[(1,.v (.bin .quo (.s 0) (.c (.int .u64 (2))))),(2,.v (.c (.int .i64 (0))))]⟩)
.ret)))),
[(1,.v),(2,.v)]⟩
theorem c79:Z8 Tryz.prog fresh sig [.fz] [] Tryz.f79=some p79:=by kernel_rfl
def p82:Fn:=⟨3,[0,1,2],
(.seq
(.reg ⟨[],[],[(1,.m [(.fld (.sz (.s 0) 2) 0),(.fld (.sz (.s 0) 2) 1)]),(2,.v (.c (.bool false)))]⟩)
(.seq
(.reg ⟨[.lt 3 [] (.bin .geq (.m 1 0) (.c (.int .i64 (0)))),.lt 4 [] (.ite (.s 3) (.bin .leq (.m 1 0) (.c (.int .i64 (255)))) (.c (.bool false))),.lt 5 [] (.ite (.s 4) (.bin .geq (.m 1 1) (.c (.int .i64 (0)))) (.c (.bool false)))],[([(3,true)],(.bin .leq (.m 1 0) (.c (.int .i64 (255))))),([(4,true)],(.bin .geq (.m 1 1) (.c (.int .i64 (0))))),([(5,true)],(.bin .leq (.m 1 1) (.m 1 0)))],[(2,.v (.ite (.s 5) (.bin .leq (.m 1 1) (.m 1 0)) (.c (.bool false))))]⟩)
.ret)),
[(2,.v)]⟩
theorem c82:Z8 Tryz.prog fresh sig [.fz] [] Tryz.f82=some p82:=by kernel_rfl
def p84:Fn:=⟨7,[0,2,3,4,5,6,27],
(.seq
(.reg ⟨[],[],[(1,.m [(.c (.int .i64 (0))),(.c (.int .i64 (0)))]),(2,.v (.c (.int .i64 (0))))]⟩)
(.seq
(.reg ⟨[],[],[(3,.m [(.fld (.ag [(.conv .i64 (.bin .rem (.bin .quo (.s 0) (.c (.int .u64 (2)))) (.c (.int .u64 (65536))))),(.conv .i64 (.bin .rem (.bin .quo (.s 0) (.c (.int .u64 (131072)))) (.c (.int .u64 (65536)))))]) 0),(.fld (.ag [(.conv .i64 (.bin .rem (.bin .quo (.s 0) (.c (.int .u64 (2)))) (.c (.int .u64 (65536))))),(.conv .i64 (.bin .rem (.bin .quo (.s 0) (.c (.int .u64 (131072)))) (.c (.int .u64 (65536)))))]) 1)])]⟩)
(.seq
(.reg ⟨[.call 7 [] (.id 64) false false [(.mm 3 0 2)]],[],[(4,.v (.ext (.s 7) 0)),(5,.v (.ext (.s 7) 1))]⟩)
(.seq
(.seq
(.reg ⟨[.lt 8 [] (.bin .neq (.s 5) (.c (.int .i64 (0))))],[([(8,false)],(.bin .neq (.s 4) (.s 0)))],[(6,.v (.ite (.s 8) (.c (.bool true)) (.bin .neq (.s 4) (.s 0))))]⟩)
(.cond (.s 6)
 (.seq
 (.reg ⟨[],[],[(1,.m [(.fld (.ag [(.c (.int .i64 (0))),(.c (.int .i64 (0)))]) 0),(.fld (.ag [(.c (.int .i64 (0))),(.c (.int .i64 (0)))]) 1)]),(2,.v (.c (.int .i64 (3))))]⟩)
 .ret)
 .skip))
(.seq
(.reg ⟨[],[],[(1,.m [(.fld (.mm 3 0 2) 0),(.fld (.mm 3 0 2) 1)]),(2,.v (.c (.int .i64 (0))))]⟩)
.ret))))),
[(1,(.ag 2)),(2,.v)]⟩
theorem c84:Z8 Tryz.prog fresh sig [.fz] [] Tryz.f84=some p84:=by kernel_rfl
def p97:Fn:=⟨3,[0,1,2],
(.seq
(.reg ⟨[],[],[(1,.m [(.fld (.sz (.s 0) 2) 0),(.fld (.sz (.s 0) 2) 1)]),(2,.v (.c (.bool false)))]⟩)
(.seq
(.reg ⟨[.lt 3 [] (.bin .geq (.m 1 0) (.c (.int .i64 (0)))),.lt 4 [] (.ite (.s 3) (.bin .leq (.m 1 0) (.c (.int .i64 (255)))) (.c (.bool false))),.lt 5 [] (.ite (.s 4) (.bin .geq (.m 1 1) (.c (.int .i64 (0)))) (.c (.bool false)))],[([(3,true)],(.bin .leq (.m 1 0) (.c (.int .i64 (255))))),([(4,true)],(.bin .geq (.m 1 1) (.c (.int .i64 (0))))),([(5,true)],(.bin .leq (.m 1 1) (.m 1 0)))],[(2,.v (.ite (.s 5) (.bin .leq (.m 1 1) (.m 1 0)) (.c (.bool false))))]⟩)
.ret)),
[(2,.v)]⟩
theorem c97:Z8 Tryz.prog fresh sig [.fz] [] Tryz.f97=some p97:=by kernel_rfl
end Vm
end
section
namespace Vm
open Go Go.Proofs
set_option maxRecDepth 100000
def Fit(n:Int):Prop:= -9223372036854775808≤n∧n≤9223372036854775807
def U64(n:Int):Prop:=0≤n∧n<18446744073709551616
theorem Zb(n:Int)(h1:0≤n)(h2:n≤18446744073709551615):IntKind.u64.wrap n=n:=by
 rw[IntKind.wrap_u64];omega
theorem Zh{α:Type}{l:List α}{i:Nat}{x:α}(h:l[i]? =some x): ∀hl:i<l.length,l[i]'hl=x:=fun hl=>by
 rw[List.getElem?_eq_getElem hl]at h
 exact Option.some.inj h
def Zf(size ptrs:Int):Bool:=decide (0≤size)&&decide (size≤255)&&decide (0≤ptrs)&&decide (ptrs≤size)
theorem Z2{s p:Int}:Zf s p=true↔0≤s∧s≤255∧0≤p∧p≤s:=by simp[Zf,and_assoc]
theorem Lh{s p:Int}:Zf s p=false↔ ¬(0≤s∧s≤255∧0≤p∧p≤s):=by rw[←Z2];simp
abbrev shV(s p:Int):V:= .agg [vi s,vi p]
theorem QW{s p:Int}:VC Tryz.prog 97 false [shV s p] (.bool (Zf s p)):=by
 refine Z3 Tryz.func97 follows (by kernel_rfl) c97 rfl ?_
 by_cases h1:0≤s<;>by_cases h2:s≤255<;>by_cases h3:0≤p<;>by_cases h4:p≤s<;>simp[p97,Zf,h1,h2,h3,h4]
theorem Wu{s p:Int}:VC Tryz.prog 82 false [shV s p] (.bool (Zf s p)):=by
 refine Z3 Tryz.func82 follows (by kernel_rfl) c82 rfl ?_
 by_cases h1:0≤s<;>by_cases h2:s≤255<;>by_cases h3:0≤p<;>by_cases h4:p≤s<;>simp[p82,Zf,h1,h2,h3,h4]
def adr(w:Int):Int×Int:=if w=0 then(0,6)else if w%2=0∨w=1 then(0,3)else(w / 2,0)
theorem Ks{w:Int}(hw:U64 w):VC Tryz.prog 59 false [vu w] (.tup [vu (adr w).1,vi (adr w).2]):=by
 refine Z3 Tryz.func59 follows (by kernel_rfl) c59 rfl ?_
 obtain⟨h1,h2⟩:=hw
 have e1:w.tmod 2=w%2:=Int.tmod_eq_emod_of_nonneg h1
 have e2:w.tdiv 2=w / 2:=Int.tdiv_eq_ediv_of_nonneg h1
 have e3:=Zb (w / 2) (by omega) (by omega)
 by_cases h0:w=0
 ·simp[p59,adr,h0]
 ·by_cases h3:w%2=0
  ·simp[p59,adr,h0,e1,h3]
  ·by_cases h4:w=1
   ·subst h4
    simp[p59,adr]
   ·simp[p59,adr,h0,e1,e2,h3,h4,e3]
theorem XJ{w:Int}(hw:U64 w):VC Tryz.prog 79 false [vu w] (.tup [vu (adr w).1,vi (adr w).2]):=by
 refine Z3 Tryz.func79 follows (by kernel_rfl) c79 rfl ?_
 obtain⟨h1,h2⟩:=hw
 have e1:w.tmod 2=w%2:=Int.tmod_eq_emod_of_nonneg h1
 have e2:w.tdiv 2=w / 2:=Int.tdiv_eq_ediv_of_nonneg h1
 have e3:=Zb (w / 2) (by omega) (by omega)
 by_cases h0:w=0
 ·simp[p79,adr,h0]
 ·by_cases h3:w%2=0
  ·simp[p79,adr,h0,e1,h3]
  ·by_cases h4:w=1
   ·subst h4
    simp[p79,adr]
   ·simp[p79,adr,h0,e1,e2,h3,h4,e3]
def Xm(a:Int):Int×Int:=if a<1∨9223372036854775807<a then(0,1)else(2*a+1,0)
theorem jR{a:Int}(hw:U64 a):VC Tryz.prog 62 false [vu a] (.tup [vu (Xm a).1,vi (Xm a).2]):=by
 refine Z3 Tryz.func62 follows (by kernel_rfl) c62 rfl ?_
 obtain⟨h1,h2⟩:=hw
 by_cases h3:a<1
 ·simp[p62,Xm,h3]
 ·by_cases h4:9223372036854775807<a
  ·simp[p62,Xm,h3,h4]
  ·have e1:=Zb (2*a) (by omega) (by omega)
   have e2:=Zb (2*a+1) (by omega) (by omega)
   simp[p62,Xm,h3,h4,e1,e2]
theorem Ty{a:Int}(hw:U64 a):VC Tryz.prog 68 false [vu a] (.tup [vu (Xm a).1,vi (Xm a).2]):=by
 refine Z3 Tryz.func68 follows (by kernel_rfl) c68 rfl ?_
 obtain⟨h1,h2⟩:=hw
 by_cases h3:a<1
 ·simp[p68,Xm,h3]
 ·by_cases h4:9223372036854775807<a
  ·simp[p68,Xm,h3,h4]
  ·have e1:=Zb (2*a) (by omega) (by omega)
   have e2:=Zb (2*a+1) (by omega) (by omega)
   simp[p68,Xm,h3,h4,e1,e2]
def S7(s p:Int):Int×Int:=if Zf s p then(2*(s+65536*p),0)else(0,1)
theorem SH{s p:Int}:VC Tryz.prog 64 false [shV s p] (.tup [vu (S7 s p).1,vi (S7 s p).2]):=by
 refine Z3 Tryz.func64 follows (by kernel_rfl) c64 rfl ?_
 simp[p64]
 refine Z0 Wu (by simp) ?_
 cases h:Zf s p
 ·simp[S7,h]
 ·obtain⟨h1,h2,h3,h4⟩:=Z2.1 h
  have e1:=Zb s (by omega) (by omega)
  have e2:=Zb p (by omega) (by omega)
  have e3:=Zb (65536*p) (by omega) (by omega)
  have e4:=Zb (s+65536*p) (by omega) (by omega)
  have e5:=Zb (2*(s+65536*p)) (by omega) (by omega)
  simp[S7,h,e1,e2,e3,e4,e5]
def unpk(w:Int):Int×Int×Int:=if w%2=0∧Zf (w / 2%65536) (w / 131072)=true then(w / 2%65536,w / 131072,0)else(0,0,3)
theorem zI{w:Int}(hw:U64 w):VC Tryz.prog 72 false [vu w] (.tup [shV (unpk w).1 (unpk w).2.1,vi (unpk w).2.2]):=by
 refine Z3 Tryz.func72 follows (by kernel_rfl) c72 rfl ?_
 obtain⟨h1,h2⟩:=hw
 have s1:w.fdiv (2 ^ min 1 IntKind.u64.bits)=w / 2:=by
  rw[show(2:Int) ^ min 1 IntKind.u64.bits=2 by decide]
  exact Int.fdiv_eq_ediv_of_nonneg _ (by omega)
 have s2:w.fdiv (2 ^ min 17 IntKind.u64.bits)=w / 131072:=by
  rw[show(2:Int) ^ min 17 IntKind.u64.bits=131072 by decide]
  exact Int.fdiv_eq_ediv_of_nonneg _ (by omega)
 have m1:=Zb (w / 2) (by omega) (by omega)
 have m2:=Zb (w / 131072) (by omega) (by omega)
 have e1:w.tmod 2=w%2:=Int.tmod_eq_emod_of_nonneg h1
 have e2:(w / 2).tmod 65536=w / 2%65536:=Int.tmod_eq_emod_of_nonneg (by omega)
 have e3:=Z1 (w / 2%65536) (by omega) (by omega)
 have e4:=Z1 (w / 131072) (by omega) (by omega)
 simp[p72,binV,s1,s2,e1,e2,e3,e4,m1,m2]
 by_cases h3:w%2=0
 ·simp[h3]
  refine Z0 QW (by simp) ?_
  cases h4:Zf (w / 2%65536) (w / 131072)
  ·simp[unpk,h3,h4]
  ·simp[unpk,h3,h4]
 ·simp[h3,unpk]
theorem Uf{w:Int}(hw:U64 w):VC Tryz.prog 84 false [vu w] (.tup [shV (unpk w).1 (unpk w).2.1,vi (unpk w).2.2]):=by
 refine Z3 Tryz.func84 follows (by kernel_rfl) c84 rfl ?_
 obtain⟨h1,h2⟩:=hw
 have s1:w.tdiv 2=w / 2:=Int.tdiv_eq_ediv_of_nonneg h1
 have s2:w.tdiv 131072=w / 131072:=Int.tdiv_eq_ediv_of_nonneg h1
 have e0:=Zb (w / 2) (by omega) (by omega)
 have e0':=Zb (w / 131072) (by omega) (by omega)
 have e2:(w / 2).tmod 65536=w / 2%65536:=Int.tmod_eq_emod_of_nonneg (by omega)
 have e2':(w / 131072).tmod 65536=w / 131072%65536:=Int.tmod_eq_emod_of_nonneg (by omega)
 have e3:=Z1 (w / 2%65536) (by omega) (by omega)
 have e4:=Z1 (w / 131072%65536) (by omega) (by omega)
 simp[p84,s1,s2,e0,e0',e2,e2',e3,e4]
 refine Z0 SH (by simp) ?_
 unfold S7 unpk
 cases h:Zf (w / 2%65536) (w / 131072%65536)
 ·have: ¬(w%2=0∧Zf (w / 2%65536) (w / 131072)=true):=by
   rintro⟨h3,h4⟩
   have h5:=Z2.1 h4
   have h6:=Lh.1 h
   omega
  simp[this]
 ·have h5:=Z2.1 h
  by_cases h3:2*(w / 2%65536+65536*(w / 131072%65536))=w
  ·have h4:w%2=0∧Zf (w / 2%65536) (w / 131072)=true:=⟨by omega,Z2.2 (by omega)⟩
   have h6:w / 131072%65536=w / 131072:=by omega
   rw[h6]at h3
   simp[h3,h4,h6]
  ·have h4: ¬(w%2=0∧Zf (w / 2%65536) (w / 131072)=true):=by
    rintro⟨h6,h7⟩
    have h8:=Z2.1 h7
    omega
   simp[h3,h4]
end Vm
end
section
namespace Vm
open Go
open Go.Proofs
set_option maxRecDepth 100000
def p58:Fn:=⟨4,[0,1,2,25],
(.seq
(.reg ⟨[],[],[(1,.m [(.fld (.sz (.s 0) 7) 0),(.fld (.sz (.s 0) 7) 1),(.fld (.sz (.s 0) 7) 2),(.fld (.sz (.s 0) 7) 3),(.fld (.sz (.s 0) 7) 4),(.fld (.sz (.s 0) 7) 5),(.fld (.sz (.s 0) 7) 6)]),(2,.v (.c (.bool false)))]⟩)
(.seq
(.seq
(.reg ⟨[.lt 4 [] (.bin .lss (.m 1 1) (.c (.int .i64 (0)))),.lt 5 [] (.ite (.s 4) (.c (.bool true)) (.bin .gtr (.m 1 1) (.c (.int .i64 (4096))))),.lt 6 [] (.ite (.s 5) (.c (.bool true)) (.bin .lss (.m 1 0) (.c (.int .u64 (1)))))],[([(4,false)],(.bin .gtr (.m 1 1) (.c (.int .i64 (4096))))),([(5,false)],(.bin .lss (.m 1 0) (.c (.int .u64 (1))))),([(6,false)],(.bin .gtr (.m 1 0) (.bin .sub (.c (.int .u64 (9223372036854775808))) (.bin .mul (.c (.int .u64 (2))) (.conv .u64 (.m 1 1))))))],[(3,.v (.ite (.s 6) (.c (.bool true)) (.bin .gtr (.m 1 0) (.bin .sub (.c (.int .u64 (9223372036854775808))) (.bin .mul (.c (.int .u64 (2))) (.conv .u64 (.m 1 1)))))))]⟩)
(.cond (.s 3)
 (.seq
 (.reg ⟨[],[],[(2,.v (.c (.bool false)))]⟩)
 .ret)
 .skip))
(.seq
(.reg ⟨[.lt 7 [] (.bin .eql (.m 1 2) (.c (.int .i64 (0)))),.lt 8 [] (.ite (.s 7) (.c (.bool true)) (.bin .eql (.m 1 2) (.c (.int .i64 (1))))),.call 9 [(8,true)] (.id 86) false false [(.m 1 3),(.m 1 4),(.m 1 1)],.lt 10 [] (.ite (.s 8) (.s 9) (.c (.bool false))),.call 11 [(10,true)] (.id 86) false false [(.m 1 5),(.m 1 6),(.m 1 1)]],[([(7,false)],(.bin .eql (.m 1 2) (.c (.int .i64 (1)))))],[(2,.v (.ite (.s 10) (.s 11) (.c (.bool false))))]⟩)
.ret))),
[(2,.v)]⟩
theorem c58:Z8 Tryz.prog fresh sig [.fz] [] Tryz.f58=some p58:=by kernel_rfl
def p60:Fn:=⟨12,[0,1,2,4,5,10,14,15,7,6,13,31],
(.seq
(.reg ⟨[],[],[(2,.m [(.fld (.sz (.s 0) 7) 0),(.fld (.sz (.s 0) 7) 1),(.fld (.sz (.s 0) 7) 2),(.fld (.sz (.s 0) 7) 3),(.fld (.sz (.s 0) 7) 4),(.fld (.sz (.s 0) 7) 5),(.fld (.sz (.s 0) 7) 6)]),(3,.m [(.c (.int .i64 (0))),(.c (.int .i64 (0)))]),(4,.v (.c (.int .i64 (0))))]⟩)
(.seq
(.seq
(.reg ⟨[.call 12 [] (.id 58) false false [(.mm 2 0 7)]],[],[(5,.v (.un .not (.s 12)))]⟩)
(.cond (.s 5)
 (.seq
 (.reg ⟨[],[],[(3,.m [(.fld (.ag [(.c (.int .i64 (0))),(.c (.int .i64 (0)))]) 0),(.fld (.ag [(.c (.int .i64 (0))),(.c (.int .i64 (0)))]) 1)]),(4,.v (.c (.int .i64 (1))))]⟩)
 .ret)
 .skip))
(.seq
(.seq
(.reg ⟨[.call 10 [] (.id 87) false false [(.mm 2 0 7)]],[],[(6,.v (.c (.int .i64 (0))))]⟩)
(.block 0
 (.loop [0,1,2,3,4,5,6,10]
  (.seq
  (.reg ⟨[],[],[(7,.v (.bin .lss (.s 6) (.c (.int .i64 (4)))))]⟩)
  (.seq
  (.cond (.s 7)
   .skip
   (.exit 0))
  (.seq
  (.block 1
   (.seq
   (.reg ⟨[],[],[(8,.m [(.fld (.sz (.ai (.s 10) (.s 6) 4 2 true) 2) 0),(.fld (.sz (.ai (.s 10) (.s 6) 4 2 true) 2) 1)]),(9,.v (.s 6))]⟩)
   (.seq
   (.reg ⟨[.lt 13 [] (.bin .geq (.s 1) (.m 8 0))],[([(13,true)],(.bin .lss (.bin .sub (.s 1) (.m 8 0)) (.conv .u64 (.m 8 1))))],[(11,.v (.ite (.s 13) (.bin .lss (.bin .sub (.s 1) (.m 8 0)) (.conv .u64 (.m 8 1))) (.c (.bool false))))]⟩)
   (.cond (.s 11)
    (.seq
    (.reg ⟨[],[],[(3,.m [(.fld (.ag [(.bin .add (.s 9) (.c (.int .i64 (1)))),(.conv .i64 (.bin .sub (.s 1) (.m 8 0)))]) 0),(.fld (.ag [(.bin .add (.s 9) (.c (.int .i64 (1)))),(.conv .i64 (.bin .sub (.s 1) (.m 8 0)))]) 1)]),(4,.v (.c (.int .i64 (0))))]⟩)
    .ret)
    .skip))))
  (.reg ⟨[],[],[(6,.v (.bin .add (.s 6) (.c (.int .i64 (1)))))]⟩)))))))
(.seq
(.reg ⟨[],[],[(3,.m [(.fld (.ag [(.c (.int .i64 (0))),(.c (.int .i64 (0)))]) 0),(.fld (.ag [(.c (.int .i64 (0))),(.c (.int .i64 (0)))]) 1)]),(4,.v (.c (.int .i64 (6))))]⟩)
.ret)))),
[(3,(.ag 2)),(4,.v)]⟩
theorem c60:Z8 Tryz.prog fresh sig [.fz,.fz] [] Tryz.f60=some p60:=by kernel_rfl
def p61:Fn:=⟨10,[0,1,2,3,4,5,9,17,6,33],
(.seq
(.reg ⟨[],[],[(2,.m [(.fld (.sz (.s 0) 7) 0),(.fld (.sz (.s 0) 7) 1),(.fld (.sz (.s 0) 7) 2),(.fld (.sz (.s 0) 7) 3),(.fld (.sz (.s 0) 7) 4),(.fld (.sz (.s 0) 7) 5),(.fld (.sz (.s 0) 7) 6)]),(3,.m [(.fld (.sz (.s 1) 2) 0),(.fld (.sz (.s 1) 2) 1)]),(4,.v (.c (.int .u64 (0)))),(5,.v (.c (.int .i64 (0))))]⟩)
(.seq
(.seq
(.reg ⟨[.call 10 [] (.id 58) false false [(.mm 2 0 7)]],[],[(6,.v (.un .not (.s 10)))]⟩)
(.cond (.s 6)
 (.seq
 (.reg ⟨[],[],[(4,.v (.c (.int .u64 (0)))),(5,.v (.c (.int .i64 (1))))]⟩)
 .ret)
 .skip))
(.seq
(.seq
(.reg ⟨[.lt 11 [] (.bin .lss (.m 3 0) (.c (.int .i64 (1))))],[([(11,false)],(.bin .gtr (.m 3 0) (.c (.int .i64 (4)))))],[(7,.v (.ite (.s 11) (.c (.bool true)) (.bin .gtr (.m 3 0) (.c (.int .i64 (4))))))]⟩)
(.cond (.s 7)
 (.seq
 (.reg ⟨[],[],[(4,.v (.c (.int .u64 (0)))),(5,.v (.c (.int .i64 (6))))]⟩)
 .ret)
 .skip))
(.seq
(.reg ⟨[.call 12 [] (.id 87) false false [(.mm 2 0 7)]],[],[(8,.m [(.fld (.sz (.ai (.s 12) (.bin .sub (.m 3 0) (.c (.int .i64 (1)))) 4 2 true) 2) 0),(.fld (.sz (.ai (.s 12) (.bin .sub (.m 3 0) (.c (.int .i64 (1)))) 4 2 true) 2) 1)])]⟩)
(.seq
(.seq
(.reg ⟨[.lt 13 [] (.bin .lss (.m 3 1) (.c (.int .i64 (0))))],[([(13,false)],(.bin .geq (.m 3 1) (.m 8 1)))],[(9,.v (.ite (.s 13) (.c (.bool true)) (.bin .geq (.m 3 1) (.m 8 1))))]⟩)
(.cond (.s 9)
 (.seq
 (.reg ⟨[],[],[(4,.v (.c (.int .u64 (0)))),(5,.v (.c (.int .i64 (6))))]⟩)
 .ret)
 .skip))
(.seq
(.reg ⟨[],[],[(4,.v (.bin .add (.m 8 0) (.conv .u64 (.m 3 1)))),(5,.v (.c (.int .i64 (0))))]⟩)
.ret)))))),
[(4,.v),(5,.v)]⟩
theorem c61:Z8 Tryz.prog fresh sig [.fz,.fz] [] Tryz.f61=some p61:=by kernel_rfl
def p66:Fn:=⟨11,[0,1,2,3,4,5,6,12,7,8,28],
(.seq
(.reg ⟨[],[],[(2,.m [(.fld (.sz (.s 0) 7) 0),(.fld (.sz (.s 0) 7) 1),(.fld (.sz (.s 0) 7) 2),(.fld (.sz (.s 0) 7) 3),(.fld (.sz (.s 0) 7) 4),(.fld (.sz (.s 0) 7) 5),(.fld (.sz (.s 0) 7) 6)]),(3,.m [(.fld (.sz (.s 1) 2) 0),(.fld (.sz (.s 1) 2) 1)]),(4,.v (.c (.int .u64 (0)))),(5,.v (.c (.int .i64 (0))))]⟩)
(.seq
(.reg ⟨[.call 11 [] (.id 76) false false [(.mm 2 0 7)]],[],[(6,.v (.s 11))]⟩)
(.seq
(.seq
(.reg ⟨[],[],[(7,.v (.un .not (.s 6)))]⟩)
(.cond (.s 7)
 (.seq
 (.reg ⟨[],[],[(4,.v (.c (.int .u64 (0)))),(5,.v (.c (.int .i64 (1))))]⟩)
 .ret)
 .skip))
(.seq
(.reg ⟨[.call 12 [] (.id 88) false false [(.mm 2 0 7),(.m 3 0)]],[],[(8,.v (.ext (.s 12) 0)),(9,.v (.ext (.s 12) 1))]⟩)
(.seq
(.seq
(.reg ⟨[.lt 13 [] (.bin .lss (.m 3 1) (.c (.int .i64 (0))))],[([(13,false)],(.bin .geq (.m 3 1) (.s 9)))],[(10,.v (.ite (.s 13) (.c (.bool true)) (.bin .geq (.m 3 1) (.s 9))))]⟩)
(.cond (.s 10)
 (.seq
 (.reg ⟨[],[],[(4,.v (.c (.int .u64 (0)))),(5,.v (.c (.int .i64 (6))))]⟩)
 .ret)
 .skip))
(.seq
(.reg ⟨[],[],[(4,.v (.bin .add (.s 8) (.conv .u64 (.m 3 1)))),(5,.v (.c (.int .i64 (0))))]⟩)
.ret)))))),
[(4,.v),(5,.v)]⟩
theorem c66:Z8 Tryz.prog fresh sig [.fz,.fz] [] Tryz.f66=some p66:=by kernel_rfl
def p73:Fn:=⟨4,[0,1,2,5],
(.seq
(.reg ⟨[],[],[(1,.m [(.fld (.sz (.s 0) 7) 0),(.fld (.sz (.s 0) 7) 1),(.fld (.sz (.s 0) 7) 2),(.fld (.sz (.s 0) 7) 3),(.fld (.sz (.s 0) 7) 4),(.fld (.sz (.s 0) 7) 5),(.fld (.sz (.s 0) 7) 6)]),(2,.v (.c (.int .i64 (0))))]⟩)
(.seq
(.seq
(.reg ⟨[.call 4 [] (.id 58) false false [(.mm 1 0 7)]],[],[(3,.v (.un .not (.s 4)))]⟩)
(.cond (.s 3)
 (.seq
 (.reg ⟨[],[],[(2,.v (.c (.int .i64 (0))))]⟩)
 .ret)
 .skip))
(.seq
(.reg ⟨[],[],[(2,.v (.bin .sub (.bin .sub (.m 1 1) (.m 1 3)) (.m 1 4)))]⟩)
.ret))),
[(2,.v)]⟩
theorem c73:Z8 Tryz.prog fresh sig [.fz] [] Tryz.f73=some p73:=by kernel_rfl
def p76:Fn:=⟨5,[0,1,2,35,53],
(.seq
(.reg ⟨[],[],[(1,.m [(.fld (.sz (.s 0) 7) 0),(.fld (.sz (.s 0) 7) 1),(.fld (.sz (.s 0) 7) 2),(.fld (.sz (.s 0) 7) 3),(.fld (.sz (.s 0) 7) 4),(.fld (.sz (.s 0) 7) 5),(.fld (.sz (.s 0) 7) 6)]),(2,.v (.c (.bool false)))]⟩)
(.seq
(.seq
(.reg ⟨[.lt 5 [] (.bin .lss (.m 1 0) (.c (.int .u64 (1)))),.lt 6 [] (.ite (.s 5) (.c (.bool true)) (.bin .lss (.m 1 1) (.c (.int .i64 (0))))),.lt 7 [] (.ite (.s 6) (.c (.bool true)) (.bin .gtr (.m 1 1) (.c (.int .i64 (4096))))),.lt 8 [] (.ite (.s 7) (.c (.bool true)) (.bin .gtr (.m 1 0) (.bin .sub (.c (.int .u64 (9223372036854775808))) (.bin .mul (.c (.int .u64 (2))) (.conv .u64 (.m 1 1)))))),.lt 9 [] (.ite (.s 8) (.c (.bool true)) (.bin .lss (.m 1 2) (.c (.int .i64 (0)))))],[([(5,false)],(.bin .lss (.m 1 1) (.c (.int .i64 (0))))),([(6,false)],(.bin .gtr (.m 1 1) (.c (.int .i64 (4096))))),([(7,false)],(.bin .gtr (.m 1 0) (.bin .sub (.c (.int .u64 (9223372036854775808))) (.bin .mul (.c (.int .u64 (2))) (.conv .u64 (.m 1 1)))))),([(8,false)],(.bin .lss (.m 1 2) (.c (.int .i64 (0))))),([(9,false)],(.bin .gtr (.m 1 2) (.c (.int .i64 (1)))))],[(3,.v (.ite (.s 9) (.c (.bool true)) (.bin .gtr (.m 1 2) (.c (.int .i64 (1))))))]⟩)
(.cond (.s 3)
 (.seq
 (.reg ⟨[],[],[(2,.v (.c (.bool false)))]⟩)
 .ret)
 .skip))
(.seq
(.seq
(.reg ⟨[.lt 10 [] (.bin .lss (.m 1 3) (.c (.int .i64 (0)))),.lt 11 [] (.ite (.s 10) (.c (.bool true)) (.bin .lss (.m 1 4) (.c (.int .i64 (0))))),.lt 12 [] (.ite (.s 11) (.c (.bool true)) (.bin .lss (.m 1 5) (.c (.int .i64 (0)))))],[([(10,false)],(.bin .lss (.m 1 4) (.c (.int .i64 (0))))),([(11,false)],(.bin .lss (.m 1 5) (.c (.int .i64 (0))))),([(12,false)],(.bin .lss (.m 1 6) (.c (.int .i64 (0)))))],[(4,.v (.ite (.s 12) (.c (.bool true)) (.bin .lss (.m 1 6) (.c (.int .i64 (0))))))]⟩)
(.cond (.s 4)
 (.seq
 (.reg ⟨[],[],[(2,.v (.c (.bool false)))]⟩)
 .ret)
 .skip))
(.seq
(.reg ⟨[.lt 13 [] (.bin .leq (.m 1 3) (.m 1 1)),.lt 14 [] (.ite (.s 13) (.bin .leq (.m 1 4) (.bin .sub (.m 1 1) (.m 1 3))) (.c (.bool false))),.lt 15 [] (.ite (.s 14) (.bin .leq (.m 1 5) (.m 1 1)) (.c (.bool false)))],[([(13,true)],(.bin .leq (.m 1 4) (.bin .sub (.m 1 1) (.m 1 3)))),([(14,true)],(.bin .leq (.m 1 5) (.m 1 1))),([(15,true)],(.bin .leq (.m 1 6) (.bin .sub (.m 1 1) (.m 1 5))))],[(2,.v (.ite (.s 15) (.bin .leq (.m 1 6) (.bin .sub (.m 1 1) (.m 1 5))) (.c (.bool false))))]⟩)
.ret)))),
[(2,.v)]⟩
theorem c76:Z8 Tryz.prog fresh sig [.fz] [] Tryz.f76=some p76:=by kernel_rfl
def p83:Fn:=⟨12,[0,1,2,4,5,6,13,7,16,8,9,35],
(.seq
(.reg ⟨[],[],[(2,.m [(.fld (.sz (.s 0) 7) 0),(.fld (.sz (.s 0) 7) 1),(.fld (.sz (.s 0) 7) 2),(.fld (.sz (.s 0) 7) 3),(.fld (.sz (.s 0) 7) 4),(.fld (.sz (.s 0) 7) 5),(.fld (.sz (.s 0) 7) 6)]),(3,.m [(.c (.int .i64 (0))),(.c (.int .i64 (0)))]),(4,.v (.c (.int .i64 (0))))]⟩)
(.seq
(.reg ⟨[.call 12 [] (.id 76) false false [(.mm 2 0 7)]],[],[(5,.v (.s 12))]⟩)
(.seq
(.seq
(.reg ⟨[],[],[(6,.v (.un .not (.s 5)))]⟩)
(.cond (.s 6)
 (.seq
 (.reg ⟨[],[],[(3,.m [(.fld (.ag [(.c (.int .i64 (0))),(.c (.int .i64 (0)))]) 0),(.fld (.ag [(.c (.int .i64 (0))),(.c (.int .i64 (0)))]) 1)]),(4,.v (.c (.int .i64 (1))))]⟩)
 .ret)
 .skip))
(.seq
(.seq
(.reg ⟨[],[],[(7,.v (.c (.int .i64 (1))))]⟩)
(.block 0
 (.loop [0,1,2,3,4,5,6,7]
  (.seq
  (.seq
  (.reg ⟨[],[],[(8,.v (.bin .leq (.s 7) (.c (.int .i64 (4)))))]⟩)
  (.cond (.s 8)
   .skip
   (.exit 0)))
  (.seq
  (.block 1
   (.seq
   (.reg ⟨[.call 13 [] (.id 88) false false [(.mm 2 0 7),(.s 7)]],[],[(9,.v (.ext (.s 13) 0)),(10,.v (.ext (.s 13) 1))]⟩)
   (.seq
   (.reg ⟨[.lt 14 [] (.bin .geq (.s 1) (.s 9))],[([(14,true)],(.bin .lss (.s 1) (.bin .add (.s 9) (.conv .u64 (.s 10)))))],[(11,.v (.ite (.s 14) (.bin .lss (.s 1) (.bin .add (.s 9) (.conv .u64 (.s 10)))) (.c (.bool false))))]⟩)
   (.cond (.s 11)
    (.seq
    (.reg ⟨[],[],[(3,.m [(.fld (.ag [(.one (.s 7)),(.conv .i64 (.bin .sub (.s 1) (.s 9)))]) 0),(.fld (.ag [(.one (.s 7)),(.conv .i64 (.bin .sub (.s 1) (.s 9)))]) 1)]),(4,.v (.c (.int .i64 (0))))]⟩)
    .ret)
    .skip))))
  (.reg ⟨[],[],[(7,.v (.bin .add (.s 7) (.c (.int .i64 (1)))))]⟩))))))
(.seq
(.reg ⟨[],[],[(3,.m [(.fld (.ag [(.c (.int .i64 (0))),(.c (.int .i64 (0)))]) 0),(.fld (.ag [(.c (.int .i64 (0))),(.c (.int .i64 (0)))]) 1)]),(4,.v (.c (.int .i64 (6))))]⟩)
.ret))))),
[(3,(.ag 2)),(4,.v)]⟩
theorem c83:Z8 Tryz.prog fresh sig [.fz,.fz] [] Tryz.f83=some p83:=by kernel_rfl
def p86:Fn:=⟨4,[0,1,2,6],
(.seq
(.reg ⟨[],[],[(3,.v (.c (.bool false)))]⟩)
(.seq
(.reg ⟨[.lt 4 [] (.bin .geq (.s 0) (.c (.int .i64 (0)))),.lt 5 [] (.ite (.s 4) (.bin .geq (.s 1) (.c (.int .i64 (0)))) (.c (.bool false))),.lt 6 [] (.ite (.s 5) (.bin .leq (.s 0) (.s 2)) (.c (.bool false)))],[([(4,true)],(.bin .geq (.s 1) (.c (.int .i64 (0))))),([(5,true)],(.bin .leq (.s 0) (.s 2))),([(6,true)],(.bin .leq (.s 1) (.bin .sub (.s 2) (.s 0))))],[(3,.v (.ite (.s 6) (.bin .leq (.s 1) (.bin .sub (.s 2) (.s 0))) (.c (.bool false))))]⟩)
.ret)),
[(3,.v)]⟩
theorem c86:Z8 Tryz.prog fresh sig [.fz,.fz,.fz] [] Tryz.f86=some p86:=by kernel_rfl
def p87:Fn:=⟨3,[0,1,2],
(.seq
(.reg ⟨[],[],[(1,.m [(.fld (.sz (.s 0) 7) 0),(.fld (.sz (.s 0) 7) 1),(.fld (.sz (.s 0) 7) 2),(.fld (.sz (.s 0) 7) 3),(.fld (.sz (.s 0) 7) 4),(.fld (.sz (.s 0) 7) 5),(.fld (.sz (.s 0) 7) 6)]),(2,.m [(.c (.int .u64 (0))),(.c (.int .i64 (0))),(.c (.int .u64 (0))),(.c (.int .i64 (0))),(.c (.int .u64 (0))),(.c (.int .i64 (0))),(.c (.int .u64 (0))),(.c (.int .i64 (0)))])]⟩)
(.seq
(.reg ⟨[.call 3 [] (.id 100) false false [(.mm 1 0 7),(.c (.int .i64 (1)))],.call 4 [] (.id 100) false false [(.mm 1 0 7),(.c (.int .i64 (2)))],.call 5 [] (.id 100) false false [(.mm 1 0 7),(.c (.int .i64 (3)))],.call 6 [] (.id 100) false false [(.mm 1 0 7),(.c (.int .i64 (4)))]],[],[(2,.m [(.fld (.ag [(.fld (.ag [(.one (.s 3)),(.m 1 3)]) 0),(.fld (.ag [(.one (.s 3)),(.m 1 3)]) 1),(.fld (.ag [(.one (.s 4)),(.m 1 4)]) 0),(.fld (.ag [(.one (.s 4)),(.m 1 4)]) 1),(.fld (.ag [(.one (.s 5)),(.m 1 5)]) 0),(.fld (.ag [(.one (.s 5)),(.m 1 5)]) 1),(.fld (.ag [(.one (.s 6)),(.m 1 6)]) 0),(.fld (.ag [(.one (.s 6)),(.m 1 6)]) 1)]) 0),(.fld (.ag [(.fld (.ag [(.one (.s 3)),(.m 1 3)]) 0),(.fld (.ag [(.one (.s 3)),(.m 1 3)]) 1),(.fld (.ag [(.one (.s 4)),(.m 1 4)]) 0),(.fld (.ag [(.one (.s 4)),(.m 1 4)]) 1),(.fld (.ag [(.one (.s 5)),(.m 1 5)]) 0),(.fld (.ag [(.one (.s 5)),(.m 1 5)]) 1),(.fld (.ag [(.one (.s 6)),(.m 1 6)]) 0),(.fld (.ag [(.one (.s 6)),(.m 1 6)]) 1)]) 1),(.fld (.ag [(.fld (.ag [(.one (.s 3)),(.m 1 3)]) 0),(.fld (.ag [(.one (.s 3)),(.m 1 3)]) 1),(.fld (.ag [(.one (.s 4)),(.m 1 4)]) 0),(.fld (.ag [(.one (.s 4)),(.m 1 4)]) 1),(.fld (.ag [(.one (.s 5)),(.m 1 5)]) 0),(.fld (.ag [(.one (.s 5)),(.m 1 5)]) 1),(.fld (.ag [(.one (.s 6)),(.m 1 6)]) 0),(.fld (.ag [(.one (.s 6)),(.m 1 6)]) 1)]) 2),(.fld (.ag [(.fld (.ag [(.one (.s 3)),(.m 1 3)]) 0),(.fld (.ag [(.one (.s 3)),(.m 1 3)]) 1),(.fld (.ag [(.one (.s 4)),(.m 1 4)]) 0),(.fld (.ag [(.one (.s 4)),(.m 1 4)]) 1),(.fld (.ag [(.one (.s 5)),(.m 1 5)]) 0),(.fld (.ag [(.one (.s 5)),(.m 1 5)]) 1),(.fld (.ag [(.one (.s 6)),(.m 1 6)]) 0),(.fld (.ag [(.one (.s 6)),(.m 1 6)]) 1)]) 3),(.fld (.ag [(.fld (.ag [(.one (.s 3)),(.m 1 3)]) 0),(.fld (.ag [(.one (.s 3)),(.m 1 3)]) 1),(.fld (.ag [(.one (.s 4)),(.m 1 4)]) 0),(.fld (.ag [(.one (.s 4)),(.m 1 4)]) 1),(.fld (.ag [(.one (.s 5)),(.m 1 5)]) 0),(.fld (.ag [(.one (.s 5)),(.m 1 5)]) 1),(.fld (.ag [(.one (.s 6)),(.m 1 6)]) 0),(.fld (.ag [(.one (.s 6)),(.m 1 6)]) 1)]) 4),(.fld (.ag [(.fld (.ag [(.one (.s 3)),(.m 1 3)]) 0),(.fld (.ag [(.one (.s 3)),(.m 1 3)]) 1),(.fld (.ag [(.one (.s 4)),(.m 1 4)]) 0),(.fld (.ag [(.one (.s 4)),(.m 1 4)]) 1),(.fld (.ag [(.one (.s 5)),(.m 1 5)]) 0),(.fld (.ag [(.one (.s 5)),(.m 1 5)]) 1),(.fld (.ag [(.one (.s 6)),(.m 1 6)]) 0),(.fld (.ag [(.one (.s 6)),(.m 1 6)]) 1)]) 5),(.fld (.ag [(.fld (.ag [(.one (.s 3)),(.m 1 3)]) 0),(.fld (.ag [(.one (.s 3)),(.m 1 3)]) 1),(.fld (.ag [(.one (.s 4)),(.m 1 4)]) 0),(.fld (.ag [(.one (.s 4)),(.m 1 4)]) 1),(.fld (.ag [(.one (.s 5)),(.m 1 5)]) 0),(.fld (.ag [(.one (.s 5)),(.m 1 5)]) 1),(.fld (.ag [(.one (.s 6)),(.m 1 6)]) 0),(.fld (.ag [(.one (.s 6)),(.m 1 6)]) 1)]) 6),(.fld (.ag [(.fld (.ag [(.one (.s 3)),(.m 1 3)]) 0),(.fld (.ag [(.one (.s 3)),(.m 1 3)]) 1),(.fld (.ag [(.one (.s 4)),(.m 1 4)]) 0),(.fld (.ag [(.one (.s 4)),(.m 1 4)]) 1),(.fld (.ag [(.one (.s 5)),(.m 1 5)]) 0),(.fld (.ag [(.one (.s 5)),(.m 1 5)]) 1),(.fld (.ag [(.one (.s 6)),(.m 1 6)]) 0),(.fld (.ag [(.one (.s 6)),(.m 1 6)]) 1)]) 7)])]⟩)
.ret)),
[(2,(.ag 8))]⟩
theorem c87:Z8 Tryz.prog fresh sig [.fz] [] Tryz.f87=some p87:=by kernel_rfl
def p88:Fn:=⟨12,[0,1,2,4,5,6,7,28,27,33,45,50],
(.seq
(.reg ⟨[],[],[(2,.m [(.fld (.sz (.s 0) 7) 0),(.fld (.sz (.s 0) 7) 1),(.fld (.sz (.s 0) 7) 2),(.fld (.sz (.s 0) 7) 3),(.fld (.sz (.s 0) 7) 4),(.fld (.sz (.s 0) 7) 5),(.fld (.sz (.s 0) 7) 6)]),(3,.v (.c (.int .u64 (0)))),(4,.v (.c (.int .i64 (0))))]⟩)
(.seq
(.reg ⟨[],[],[(5,.v (.bin .add (.m 2 0) (.conv .u64 (.bin .mul (.m 2 2) (.m 2 1)))))]⟩)
(.seq
(.reg ⟨[],[],[(6,.v (.bin .add (.m 2 0) (.conv .u64 (.bin .mul (.bin .sub (.c (.int .i64 (1))) (.m 2 2)) (.m 2 1)))))]⟩)
(.seq
(.seq
(.reg ⟨[],[],[(8,.v (.s 1))]⟩)
(.block 0
 (.seq
 (.reg ⟨[],[],[(7,.v (.bin .eql (.s 8) (.c (.int .i64 (1)))))]⟩)
 (.cond (.s 7)
  (.seq
  (.reg ⟨[],[],[(3,.v (.s 5)),(4,.v (.m 2 3))]⟩)
  .ret)
  (.seq
  (.reg ⟨[],[],[(9,.v (.bin .eql (.s 8) (.c (.int .i64 (2)))))]⟩)
  (.cond (.s 9)
   (.seq
   (.reg ⟨[],[],[(3,.v (.bin .add (.s 5) (.conv .u64 (.bin .sub (.m 2 1) (.m 2 4))))),(4,.v (.m 2 4))]⟩)
   .ret)
   (.seq
   (.reg ⟨[],[],[(10,.v (.bin .eql (.s 8) (.c (.int .i64 (3)))))]⟩)
   (.cond (.s 10)
    (.seq
    (.reg ⟨[],[],[(3,.v (.s 6)),(4,.v (.m 2 5))]⟩)
    .ret)
    (.seq
    (.reg ⟨[],[],[(11,.v (.bin .eql (.s 8) (.c (.int .i64 (4)))))]⟩)
    (.cond (.s 11)
     (.seq
     (.reg ⟨[],[],[(3,.v (.bin .add (.s 6) (.conv .u64 (.bin .sub (.m 2 1) (.m 2 6))))),(4,.v (.m 2 6))]⟩)
     .ret)
     .skip))))))))))
(.seq
(.reg ⟨[],[],[(3,.v (.c (.int .u64 (0)))),(4,.v (.c (.int .i64 (0))))]⟩)
.ret))))),
[(3,.v),(4,.v)]⟩
theorem c88:Z8 Tryz.prog fresh sig [.fz,.fz] [] Tryz.f88=some p88:=by kernel_rfl
def p99:Fn:=⟨5,[0,1,2,3,7],
(.seq
(.reg ⟨[],[],[(1,.m [(.fld (.sz (.s 0) 7) 0),(.fld (.sz (.s 0) 7) 1),(.fld (.sz (.s 0) 7) 2),(.fld (.sz (.s 0) 7) 3),(.fld (.sz (.s 0) 7) 4),(.fld (.sz (.s 0) 7) 5),(.fld (.sz (.s 0) 7) 6)]),(2,.v (.c (.int .i64 (0))))]⟩)
(.seq
(.reg ⟨[.call 5 [] (.id 76) false false [(.mm 1 0 7)]],[],[(3,.v (.s 5))]⟩)
(.seq
(.seq
(.reg ⟨[],[],[(4,.v (.un .not (.s 3)))]⟩)
(.cond (.s 4)
 (.seq
 (.reg ⟨[],[],[(2,.v (.c (.int .i64 (0))))]⟩)
 .ret)
 .skip))
(.seq
(.reg ⟨[],[],[(2,.v (.bin .sub (.bin .sub (.m 1 1) (.m 1 3)) (.m 1 4)))]⟩)
.ret)))),
[(2,.v)]⟩
theorem c99:Z8 Tryz.prog fresh sig [.fz] [] Tryz.f99=some p99:=by kernel_rfl
def p100:Fn:=⟨10,[0,1,2,4,5,9,8,11,13,15],
(.seq
(.reg ⟨[],[],[(2,.m [(.fld (.sz (.s 0) 7) 0),(.fld (.sz (.s 0) 7) 1),(.fld (.sz (.s 0) 7) 2),(.fld (.sz (.s 0) 7) 3),(.fld (.sz (.s 0) 7) 4),(.fld (.sz (.s 0) 7) 5),(.fld (.sz (.s 0) 7) 6)]),(3,.v (.c (.int .u64 (0))))]⟩)
(.seq
(.reg ⟨[],[],[(4,.v (.m 2 0))]⟩)
(.seq
(.seq
(.reg ⟨[],[],[(6,.v (.s 1))]⟩)
(.block 0
 (.seq
 (.block 4
  (.seq
  (.block 3
   (.seq
   (.block 2
    (.seq
    (.block 1
     (.seq
     (.seq
     (.seq
     (.reg ⟨[],[],[(5,.v (.bin .eql (.s 6) (.c (.int .i64 (2)))))]⟩)
     (.cond (.s 5)
      (.exit 1)
      .skip))
     (.seq
     (.seq
     (.reg ⟨[],[],[(7,.v (.bin .eql (.s 6) (.c (.int .i64 (1)))))]⟩)
     (.cond (.s 7)
      (.exit 2)
      .skip))
     (.seq
     (.seq
     (.reg ⟨[],[],[(8,.v (.bin .eql (.s 6) (.c (.int .i64 (4)))))]⟩)
     (.cond (.s 8)
      (.exit 3)
      .skip))
     (.seq
     (.reg ⟨[],[],[(9,.v (.bin .eql (.s 6) (.c (.int .i64 (3)))))]⟩)
     (.cond (.s 9)
      (.exit 4)
      .skip)))))
     (.exit 0)))
    (.reg ⟨[],[],[(4,.v (.bin .add (.s 4) (.conv .u64 (.bin .sub (.m 2 1) (.m 2 4)))))]⟩)))
   (.seq
   (.reg ⟨[],[],[(4,.v (.bin .add (.s 4) (.conv .u64 (.bin .mul (.m 2 2) (.m 2 1)))))]⟩)
   (.exit 0))))
  (.reg ⟨[],[],[(4,.v (.bin .add (.s 4) (.conv .u64 (.bin .sub (.m 2 1) (.m 2 6)))))]⟩)))
 (.seq
 (.reg ⟨[],[],[(4,.v (.bin .add (.s 4) (.conv .u64 (.bin .mul (.bin .sub (.c (.int .i64 (1))) (.m 2 2)) (.m 2 1)))))]⟩)
 (.exit 0)))))
(.seq
(.reg ⟨[],[],[(3,.v (.s 4))]⟩)
.ret)))),
[(3,.v)]⟩
theorem c100:Z8 Tryz.prog fresh sig [.fz,.fz] [] Tryz.f100=some p100:=by kernel_rfl
end Vm
end
section
namespace Vm
open Go Go.Proofs
set_option maxRecDepth 100000
structure Ly where
 base:Int
 cap:Int
 to:Int
 low:Int
 high:Int
 old:Int
 far:Int
 deriving DecidableEq,Inhabited
def lyV(l:Ly):V:= .agg [vu l.base,vi l.cap,vi l.to,vi l.low,vi l.high,vi l.old,vi l.far]
@[simp] theorem Z4l(l:Ly):szV (lyV l) 7=some (lyV l):=rfl
@[simp] theorem Z2L(l:Ly):(lyV l).cells= [vu l.base,vi l.cap,vi l.to,vi l.low,vi l.high,vi l.old,vi l.far]:=rfl
@[simp] theorem Z37(l:Ly):fldV (lyV l) 0=some (vu l.base):=rfl
@[simp] theorem Z2C(l:Ly):fldV (lyV l) 1=some (vi l.cap):=rfl
@[simp] theorem Z3h(l:Ly):fldV (lyV l) 2=some (vi l.to):=rfl
@[simp] theorem Z2r(l:Ly):fldV (lyV l) 3=some (vi l.low):=rfl
@[simp] theorem Z1C(l:Ly):fldV (lyV l) 4=some (vi l.high):=rfl
@[simp] theorem Z2H(l:Ly):fldV (lyV l) 5=some (vi l.old):=rfl
@[simp] theorem Z3n(l:Ly):fldV (lyV l) 6=some (vi l.far):=rfl
def Ly.fits(l:Ly):Prop:=U64 l.base∧Fit l.cap∧Fit l.to∧Fit l.low∧Fit l.high∧Fit l.old∧Fit l.far
def XE(a b words:Int):Bool:=decide (0≤a)&&decide (0≤b)&&decide (a≤words)&&decide (b≤words-a)
def Z7(l:Ly):Bool:=decide (0≤l.cap)&&decide (l.cap≤4096)&&decide (1≤l.base)&&decide (l.base≤9223372036854775808-2*l.cap)&&(decide (l.to=0)||decide (l.to=1))&&XE l.low l.high l.cap&&XE l.old l.far l.cap
theorem Zp{l:Ly}:Z7 l=true↔0≤l.cap∧l.cap≤4096∧1≤l.base∧l.base≤9223372036854775808-2*l.cap∧(l.to=0∨l.to=1)∧(0≤l.low∧0≤l.high∧l.low≤l.cap∧l.high≤l.cap-l.low)∧(0≤l.old∧0≤l.far∧l.old≤l.cap∧l.far≤l.cap-l.old):=by
 simp[Z7,XE,and_assoc]
theorem Zw{l:Ly}:Z7 l=false↔ ¬(0≤l.cap∧l.cap≤4096∧1≤l.base∧l.base≤9223372036854775808-2*l.cap∧(l.to=0∨l.to=1)∧(0≤l.low∧0≤l.high∧l.low≤l.cap∧l.high≤l.cap-l.low)∧(0≤l.old∧0≤l.far∧l.old≤l.cap∧l.far≤l.cap-l.old)):=by
 rw[←Zp];simp
theorem Qg{a b w:Int}(ha:Fit a)(hb:Fit b)(hw:Fit w):VC Tryz.prog 86 false [vi a,vi b,vi w] (.bool (XE a b w)):=by
 refine Z3 Tryz.func86 follows (by kernel_rfl) c86 rfl ?_
 obtain⟨a1,a2⟩:=ha
 obtain⟨w1,w2⟩:=hw
 by_cases h1:0≤a
 ·by_cases h2:a≤w
  ·have e:=Z1 (w-a) (by omega) (by omega)
   by_cases h3:0≤b<;>simp[p86,XE,h1,h2,h3,e]
  ·by_cases h3:0≤b<;>simp[p86,XE,h1,h2,h3]
 ·simp[p86,XE,h1]
theorem WL{l:Ly}(hl:l.fits):VC Tryz.prog 58 false [lyV l] (.bool (Z7 l)):=by
 refine Z3 Tryz.func58 follows (by kernel_rfl) c58 rfl ?_
 obtain⟨⟨hb1,hb2⟩,hc,ht,h1,h2,h3,h4⟩:=hl
 obtain⟨c1,c2⟩:=hc
 simp[p58]
 by_cases g1:l.cap<0
 ·have:Z7 l=false:=Zw.2 (by omega)
  simp[g1,this]
 by_cases g2:4096<l.cap
 ·have:Z7 l=false:=Zw.2 (by omega)
  simp[g1,g2,this]
 by_cases g3:l.base<1
 ·have:Z7 l=false:=Zw.2 (by omega)
  simp[g1,g2,g3,this]
 have e1:=Zb l.cap (by omega) (by omega)
 have e2:=Zb (2*l.cap) (by omega) (by omega)
 have e3:=Zb (9223372036854775808-2*l.cap) (by omega) (by omega)
 by_cases g4:9223372036854775808-2*l.cap<l.base
 ·have:Z7 l=false:=Zw.2 (by omega)
  simp[g1,g2,g3,e1,e2,e3,g4,this]
 by_cases g5:l.to=0∨l.to=1
 ·have k1:=Qg h1 h2 ⟨c1,c2⟩
  have k2:=Qg h3 h4 ⟨c1,c2⟩
  have hr:Z7 l=(XE l.low l.high l.cap&&XE l.old l.far l.cap):=by
   rcases g5 with h|h<;>simp[Z7,show 0≤l.cap by omega,show l.cap≤4096 by omega,show 1≤l.base by omega,show l.base≤9223372036854775808-2*l.cap by omega,h]
  rw[hr]
  rcases g5 with g5|g5
  all_goals
   cases hw:XE l.low l.high l.cap
   ·rw[hw]at k1
    simp[g1,g2,g3,e1,e2,e3,g4,g5]
    refine Z0 k1 (by simp) ?_
    simp
   ·rw[hw]at k1
    simp[g1,g2,g3,e1,e2,e3,g4,g5]
    refine Z0 k1 (by simp) ?_
    simp
    refine Z0 k2 (by simp) ?_
    simp
 ·have:Z7 l=false:=Zw.2 (by omega)
  have g6: ¬l.to=0:=fun h=>g5 (.inl h)
  have g7: ¬l.to=1:=fun h=>g5 (.inr h)
  simp[g1,g2,g3,e1,e2,e3,g4,g6,g7,this]
theorem YT{l:Ly}(hl:l.fits):VC Tryz.prog 76 false [lyV l] (.bool (Z7 l)):=by
 refine Z3 Tryz.func76 follows (by kernel_rfl) c76 rfl ?_
 obtain⟨⟨hb1,hb2⟩,hc,ht,h1,h2,h3,h4⟩:=hl
 obtain⟨c1,c2⟩:=hc
 simp[p76]
 by_cases g3:l.base<1
 ·have:Z7 l=false:=Zw.2 (by omega)
  simp[g3,this]
 by_cases g1:l.cap<0
 ·have:Z7 l=false:=Zw.2 (by omega)
  simp[g1,g3,this]
 by_cases g2:4096<l.cap
 ·have:Z7 l=false:=Zw.2 (by omega)
  simp[g1,g2,g3,this]
 have e1:=Zb l.cap (by omega) (by omega)
 have e2:=Zb (2*l.cap) (by omega) (by omega)
 have e3:=Zb (9223372036854775808-2*l.cap) (by omega) (by omega)
 by_cases g4:9223372036854775808-2*l.cap<l.base
 ·have:Z7 l=false:=Zw.2 (by omega)
  simp[g1,g2,g3,e1,e2,e3,g4,this]
 by_cases g5:l.to<0
 ·have:Z7 l=false:=Zw.2 (by omega)
  simp[g1,g2,g3,e1,e2,e3,g4,g5,this]
 by_cases g6:1<l.to
 ·have:Z7 l=false:=Zw.2 (by omega)
  simp[g1,g2,g3,e1,e2,e3,g4,g5,g6,this]
 by_cases q1:l.low<0
 ·have:Z7 l=false:=Zw.2 (by omega)
  simp[g1,g2,g3,e1,e2,e3,g4,g5,g6,q1,this]
 by_cases q2:l.high<0
 ·have:Z7 l=false:=Zw.2 (by omega)
  simp[g1,g2,g3,e1,e2,e3,g4,g5,g6,q1,q2,this]
 by_cases q3:l.old<0
 ·have:Z7 l=false:=Zw.2 (by omega)
  simp[g1,g2,g3,e1,e2,e3,g4,g5,g6,q1,q2,q3,this]
 by_cases q4:l.far<0
 ·have:Z7 l=false:=Zw.2 (by omega)
  simp[g1,g2,g3,e1,e2,e3,g4,g5,g6,q1,q2,q3,q4,this]
 obtain⟨l1,l2⟩:=h1
 obtain⟨o1,o2⟩:=h3
 have w1:=Z1 (l.cap-l.low) (by omega) (by omega)
 have w2:=Z1 (l.cap-l.old) (by omega) (by omega)
 by_cases r1:l.low≤l.cap
 ·by_cases r2:l.high≤l.cap-l.low
  ·by_cases r3:l.old≤l.cap
   ·by_cases r4:l.far≤l.cap-l.old
    ·have:Z7 l=true:=Zp.2 (by omega)
     simp[g1,g2,g3,e1,e2,e3,g4,g5,g6,q1,q2,q3,q4,w1,w2,r1,r2,r3,r4,this]
    ·have:Z7 l=false:=Zw.2 (by omega)
     simp[g1,g2,g3,e1,e2,e3,g4,g5,g6,q1,q2,q3,q4,w1,w2,r1,r2,r3,r4,this]
   ·have:Z7 l=false:=Zw.2 (by omega)
    simp[g1,g2,g3,e1,e2,e3,g4,g5,g6,q1,q2,q3,q4,w1,w2,r1,r2,r3,this]
  ·have:Z7 l=false:=Zw.2 (by omega)
   simp[g1,g2,g3,e1,e2,e3,g4,g5,g6,q1,q2,q3,q4,w1,w2,r1,r2,this]
 ·have:Z7 l=false:=Zw.2 (by omega)
  simp[g1,g2,g3,e1,e2,e3,g4,g5,g6,q1,q2,q3,q4,w1,w2,r1,this]
def Ye(l:Ly):Int:=if Z7 l then l.cap-l.low-l.high else 0
theorem jz{l:Ly}(hl:l.fits):VC Tryz.prog 73 false [lyV l] (vi (Ye l)):=by
 refine Z3 Tryz.func73 follows (by kernel_rfl) c73 rfl ?_
 simp[p73]
 refine Z0 (WL hl) (by simp) ?_
 cases h:Z7 l
 ·simp[Ye,h]
 ·have h':=Zp.1 h
  have e1:=Z1 (l.cap-l.low) (by omega) (by omega)
  have e2:=Z1 (l.cap-l.low-l.high) (by omega) (by omega)
  simp[Ye,h,e1,e2]
theorem Jy{l:Ly}(hl:l.fits):VC Tryz.prog 99 false [lyV l] (vi (Ye l)):=by
 refine Z3 Tryz.func99 follows (by kernel_rfl) c99 rfl ?_
 simp[p99]
 refine Z0 (YT hl) (by simp) ?_
 cases h:Z7 l
 ·simp[Ye,h]
 ·have h':=Zp.1 h
  have e1:=Z1 (l.cap-l.low) (by omega) (by omega)
  have e2:=Z1 (l.cap-l.low-l.high) (by omega) (by omega)
  simp[Ye,h,e1,e2]
def fstL(l:Ly)(part:Int):Int:=
 if part=1 then l.base+l.to*l.cap else if part=2 then l.base+l.to*l.cap+(l.cap-l.high)else if part=3 then l.base+(1-l.to)*l.cap else l.base+(1-l.to)*l.cap+(l.cap-l.far)
def sizL(l:Ly)(part:Int):Int:=if part=1 then l.low else if part=2 then l.high else if part=3 then l.old else l.far
theorem ji{l:Ly}(hr:Z7 l=true):(l.to*l.cap=0∧(1-l.to)*l.cap=l.cap)∨(l.to*l.cap=l.cap∧(1-l.to)*l.cap=0):=by
 obtain⟨_,_,_,_,ht,_⟩:=Zp.1 hr
 rcases ht with h|h
 ·rw[h];exact .inl ⟨by simp,by simp⟩
 ·rw[h];exact .inr ⟨by simp,by simp⟩
theorem Zx{l:Ly}(hr:Z7 l=true)(k:Int):1≤fstL l k∧fstL l k+sizL l k≤9223372036854775808∧0≤sizL l k∧sizL l k≤4096:=by
 have h:=Zp.1 hr
 have ht:=ji hr
 unfold fstL sizL
 by_cases k1:k=1
 ·simp only[if_pos k1];omega
 by_cases k2:k=2
 ·simp only[if_neg k1,if_pos k2];omega
 by_cases k3:k=3
 ·simp only[if_neg k1,if_neg k2,if_pos k3];omega
 ·simp only[if_neg k1,if_neg k2,if_neg k3];omega
theorem UZ{l:Ly}(hr:Z7 l=true){k:Int}(hk:1≤k∧k≤4):VC Tryz.prog 100 false [lyV l,vi k] (vu (fstL l k)):=by
 refine Z3 Tryz.func100 follows (by kernel_rfl) c100 rfl ?_
 have h:=Zp.1 hr
 have ht:=ji hr
 have w1:=Z1 (l.to*l.cap) (by omega) (by omega)
 have w2:=Z1 (1-l.to) (by omega) (by omega)
 have w3:=Z1 ((1-l.to)*l.cap) (by omega) (by omega)
 have w4:=Z1 (l.cap-l.high) (by omega) (by omega)
 have w5:=Z1 (l.cap-l.far) (by omega) (by omega)
 have u1:=Zb (l.to*l.cap) (by omega) (by omega)
 have u3:=Zb ((1-l.to)*l.cap) (by omega) (by omega)
 have u4:=Zb (l.cap-l.high) (by omega) (by omega)
 have u5:=Zb (l.cap-l.far) (by omega) (by omega)
 have v1:=Zb (l.base+l.to*l.cap) (by omega) (by omega)
 have v2:=Zb (l.base+(l.cap-l.high)) (by omega) (by omega)
 have v3:=Zb (l.base+(l.cap-l.high)+l.to*l.cap) (by omega) (by omega)
 have v4:=Zb (l.base+(1-l.to)*l.cap) (by omega) (by omega)
 have v5:=Zb (l.base+(l.cap-l.far)) (by omega) (by omega)
 have v6:=Zb (l.base+(l.cap-l.far)+(1-l.to)*l.cap) (by omega) (by omega)
 have hk':k=1∨k=2∨k=3∨k=4:=by omega
 rcases hk' with rfl|rfl|rfl|rfl
 ·simp[p100,V8,fstL,w1,u1,v1]
 ·simp[p100,V8,fstL,w1,u1,w4,u4,v2,v3]
  omega
 ·simp[p100,V8,fstL,w2,w3,u3,v4]
 ·simp[p100,V8,fstL,w2,w3,u3,w5,u5,v5,v6]
  omega
def Yw(l:Ly):V:= .agg [vu (fstL l 1),vi l.low,vu (fstL l 2),vi l.high,vu (fstL l 3),vi l.old,vu (fstL l 4),vi l.far]
theorem KW{l:Ly}(hr:Z7 l=true):VC Tryz.prog 87 false [lyV l] (Yw l):=by
 refine Z3 Tryz.func87 follows (by kernel_rfl) c87 rfl ?_
 simp[p87]
 refine Z0 (UZ hr (k:=1) (by omega)) (by simp[lyV]) ?_
 simp
 refine Z0 (UZ hr (k:=2) (by omega)) (by simp[lyV]) ?_
 simp
 refine Z0 (UZ hr (k:=3) (by omega)) (by simp[lyV]) ?_
 simp
 refine Z0 (UZ hr (k:=4) (by omega)) (by simp[lyV]) ?_
 simp[Yw]
@[simp] theorem J5(l:Ly):sizL l 1=l.low:=rfl
@[simp] theorem Q2(l:Ly):sizL l 2=l.high:=rfl
@[simp] theorem RX(l:Ly):sizL l 3=l.old:=rfl
@[simp] theorem QT(l:Ly):sizL l 4=l.far:=rfl
def Zy(l:Ly)(part at_:Int):Int×Int:=
 if Z7 l=false then(0,1)else if part<1∨4<part then(0,6)else if at_<0∨sizL l part≤at_ then(0,6)else(fstL l part+at_,0)
theorem KF{l:Ly}(hl:l.fits){part at_:Int}:VC Tryz.prog 61 false [lyV l,.agg [vi part,vi at_]] (.tup [vu (Zy l part at_).1,vi (Zy l part at_).2]):=by
 refine Z3 Tryz.func61 follows (by kernel_rfl) c61 rfl ?_
 simp[p61]
 refine Z0 (WL hl) (by simp) ?_
 cases hr:Z7 l
 ·simp[Zy,hr]
 ·simp
  by_cases h1:part<1
  ·simp[Zy,hr,h1]
  by_cases h2:4<part
  ·simp[Zy,hr,h1,h2]
  have hk:part=1∨part=2∨part=3∨part=4:=by omega
  simp[h1,h2]
  refine Z0 (KW hr) (by simp[Yw]) ?_
  rcases hk with rfl|rfl|rfl|rfl
  ·have hw:=Zx hr 1
   simp only[J5]at hw
   simp[Yw,aiV,Z1]
   by_cases h3:at_<0
   ·simp[Zy,hr,h3]
   by_cases h4:l.low≤at_
   ·simp[Zy,hr,h3,h4]
   ·have u1:=Zb at_ (by omega) (by omega)
    have u2:=Zb (fstL l 1+at_) (by omega) (by omega)
    simp[Zy,hr,h3,h4,u1,u2]
  ·have hw:=Zx hr 2
   simp only[Q2]at hw
   simp[Yw,aiV,Z1]
   by_cases h3:at_<0
   ·simp[Zy,hr,h3]
   by_cases h4:l.high≤at_
   ·simp[Zy,hr,h3,h4]
   ·have u1:=Zb at_ (by omega) (by omega)
    have u2:=Zb (fstL l 2+at_) (by omega) (by omega)
    simp[Zy,hr,h3,h4,u1,u2]
  ·have hw:=Zx hr 3
   simp only[RX]at hw
   simp[Yw,aiV,Z1]
   by_cases h3:at_<0
   ·simp[Zy,hr,h3]
   by_cases h4:l.old≤at_
   ·simp[Zy,hr,h3,h4]
   ·have u1:=Zb at_ (by omega) (by omega)
    have u2:=Zb (fstL l 3+at_) (by omega) (by omega)
    simp[Zy,hr,h3,h4,u1,u2]
  ·have hw:=Zx hr 4
   simp only[QT]at hw
   simp[Yw,aiV,Z1]
   by_cases h3:at_<0
   ·simp[Zy,hr,h3]
   by_cases h4:l.far≤at_
   ·simp[Zy,hr,h3,h4]
   ·have u1:=Zb at_ (by omega) (by omega)
    have u2:=Zb (fstL l 4+at_) (by omega) (by omega)
    simp[Zy,hr,h3,h4,u1,u2]
theorem ZC{l:Ly}(hr:Z7 l=true){k:Int}(hk:1≤k∧k≤4):VC Tryz.prog 88 false [lyV l,vi k] (.tup [vu (fstL l k),vi (sizL l k)]):=by
 refine Z3 Tryz.func88 follows (by kernel_rfl) c88 rfl ?_
 have h:=Zp.1 hr
 have ht:=ji hr
 have w1:=Z1 (l.to*l.cap) (by omega) (by omega)
 have w2:=Z1 (1-l.to) (by omega) (by omega)
 have w3:=Z1 ((1-l.to)*l.cap) (by omega) (by omega)
 have w4:=Z1 (l.cap-l.high) (by omega) (by omega)
 have w5:=Z1 (l.cap-l.far) (by omega) (by omega)
 have u1:=Zb (l.to*l.cap) (by omega) (by omega)
 have u3:=Zb ((1-l.to)*l.cap) (by omega) (by omega)
 have u4:=Zb (l.cap-l.high) (by omega) (by omega)
 have u5:=Zb (l.cap-l.far) (by omega) (by omega)
 have v1:=Zb (l.base+l.to*l.cap) (by omega) (by omega)
 have v2:=Zb (l.base+l.to*l.cap+(l.cap-l.high)) (by omega) (by omega)
 have v4:=Zb (l.base+(1-l.to)*l.cap) (by omega) (by omega)
 have v5:=Zb (l.base+(1-l.to)*l.cap+(l.cap-l.far)) (by omega) (by omega)
 have hk':k=1∨k=2∨k=3∨k=4:=by omega
 rcases hk' with rfl|rfl|rfl|rfl
 all_goals simp[p88,V8,fstL,w1,u1,w2,w3,u3,w4,u4,w5,u5,v1,v2,v4,v5]
theorem Sc{l:Ly}(hr:Z7 l=true){k:Int}(hk:k<1∨4<k):VC Tryz.prog 88 false [lyV l,vi k] (.tup [vu 0,vi 0]):=by
 refine Z3 Tryz.func88 follows (by kernel_rfl) c88 rfl ?_
 simp[p88,V8,show k≠1 by omega,show k≠2 by omega,show k≠3 by omega,show k≠4 by omega]
theorem Vn{l:Ly}(hl:l.fits){part at_:Int}:VC Tryz.prog 66 false [lyV l,.agg [vi part,vi at_]] (.tup [vu (Zy l part at_).1,vi (Zy l part at_).2]):=by
 refine Z3 Tryz.func66 follows (by kernel_rfl) c66 rfl ?_
 simp[p66]
 refine Z0 (YT hl) (by simp) ?_
 cases hr:Z7 l
 ·simp[Zy,hr]
 ·simp
  by_cases hp:part<1∨4<part
  ·refine Z0 (Sc hr hp) (by simp) ?_
   by_cases h3:at_<0
   ·simp[Zy,hr,hp,h3]
   ·simp[Zy,hr,hp,h3,show 0≤at_ by omega]
  have hk:part=1∨part=2∨part=3∨part=4:=by omega
  rcases hk with rfl|rfl|rfl|rfl
  ·have hw:=Zx hr 1
   simp only[J5]at hw
   refine Z0 (ZC hr (k:=1) (by omega)) (by simp) ?_
   by_cases h3:at_<0
   ·simp[Zy,hr,h3]
   by_cases h4:l.low≤at_
   ·simp[Zy,hr,h3,h4]
   ·have u1:=Zb at_ (by omega) (by omega)
    have u2:=Zb (fstL l 1+at_) (by omega) (by omega)
    simp[Zy,hr,h3,h4,u1,u2]
  ·have hw:=Zx hr 2
   simp only[Q2]at hw
   refine Z0 (ZC hr (k:=2) (by omega)) (by simp) ?_
   by_cases h3:at_<0
   ·simp[Zy,hr,h3]
   by_cases h4:l.high≤at_
   ·simp[Zy,hr,h3,h4]
   ·have u1:=Zb at_ (by omega) (by omega)
    have u2:=Zb (fstL l 2+at_) (by omega) (by omega)
    simp[Zy,hr,h3,h4,u1,u2]
  ·have hw:=Zx hr 3
   simp only[RX]at hw
   refine Z0 (ZC hr (k:=3) (by omega)) (by simp) ?_
   by_cases h3:at_<0
   ·simp[Zy,hr,h3]
   by_cases h4:l.old≤at_
   ·simp[Zy,hr,h3,h4]
   ·have u1:=Zb at_ (by omega) (by omega)
    have u2:=Zb (fstL l 3+at_) (by omega) (by omega)
    simp[Zy,hr,h3,h4,u1,u2]
  ·have hw:=Zx hr 4
   simp only[QT]at hw
   refine Z0 (ZC hr (k:=4) (by omega)) (by simp) ?_
   by_cases h3:at_<0
   ·simp[Zy,hr,h3]
   by_cases h4:l.far≤at_
   ·simp[Zy,hr,h3,h4]
   ·have u1:=Zb at_ (by omega) (by omega)
    have u2:=Zb (fstL l 4+at_) (by omega) (by omega)
    simp[Zy,hr,h3,h4,u1,u2]
def inL(l:Ly)(a k:Int):Bool:=decide (fstL l k≤a)&&decide (a<fstL l k+sizL l k)
theorem YI{l:Ly}{a k:Int}:inL l a k=true↔fstL l k≤a∧a<fstL l k+sizL l k:=by simp[inL]
theorem Uw{l:Ly}{a k:Int}:inL l a k=false↔ ¬(fstL l k≤a∧a<fstL l k+sizL l k):=by rw[←YI];simp
def Zu(l:Ly)(a:Int):Int×Int×Int:=
 if Z7 l=false then(0,0,1)else if inL l a 1 then(1,a-fstL l 1,0)else if inL l a 2 then(2,a-fstL l 2,0)else if inL l a 3 then(3,a-fstL l 3,0)else if inL l a 4 then(4,a-fstL l 4,0)else(0,0,6)
theorem jP{l:Ly}(hl:l.fits){a:Int}(ha:U64 a):VC Tryz.prog 60 false [lyV l,vu a] (.tup [.agg [vi (Zu l a).1,vi (Zu l a).2.1],vi (Zu l a).2.2]):=by
 refine Z3 Tryz.func60 follows (by kernel_rfl) c60 rfl ?_
 simp[p60]
 refine Z0 (WL hl) (by simp) ?_
 cases hr:Z7 l
 ·simp[Zu,hr]
 ·obtain⟨a1,a2⟩:=ha
  simp
  refine Z0 (KW hr) (by simp[lyV]) ?_
  simp
  have hw: ∀k,1≤fstL l k∧fstL l k+sizL l k≤9223372036854775808∧0≤sizL l k∧sizL l k≤4096:=fun k=>Zx hr k
  have w1:=hw 1
  have w2:=hw 2
  have w3:=hw 3
  have w4:=hw 4
  simp only[J5,Q2,RX,QT]at w1 w2 w3 w4
  refine Yn 6 4 (fun i=>(0<i→inL l a 1=false)∧(1<i→inL l a 2=false)∧(2<i→inL l a 3=false)∧(3<i→inL l a 4=false)) (by simp) (by simp) (by simp) ?_
  rintro i hi ⟨i1,i2,i3,i4⟩
  have hi':i=0∨i=1∨i=2∨i=3∨i=4:=by omega
  rcases hi' with rfl|rfl|rfl|rfl|rfl
  ·have u0:=Zb l.low (by omega) (by omega)
   by_cases h1:fstL l 1≤a
   ·have u1:=Zb (a-fstL l 1) (by omega) (by omega)
    by_cases h2:a-fstL l 1<l.low
    ·have u2:=Z1 (a-fstL l 1) (by omega) (by omega)
     have hin:inL l a 1=true:=YI.2 ⟨h1,by rw[J5];omega⟩
     simp[Yw,aiV,Z1,h1,u0,u1,h2,u2,Zu,hr,hin]
    ·have hin:inL l a 1=false:=Uw.2 (by rw[J5];omega)
     simp[Yw,aiV,Z1,h1,u0,u1,h2,hin]
   ·have hin:inL l a 1=false:=by simp[inL,h1]
    simp[Yw,aiV,Z1,h1,hin]
  ·have u0:=Zb l.high (by omega) (by omega)
   by_cases h1:fstL l 2≤a
   ·have u1:=Zb (a-fstL l 2) (by omega) (by omega)
    by_cases h2:a-fstL l 2<l.high
    ·have u2:=Z1 (a-fstL l 2) (by omega) (by omega)
     have hin:inL l a 2=true:=YI.2 ⟨h1,by rw[Q2];omega⟩
     simp[Yw,aiV,Z1,h1,u0,u1,h2,u2,Zu,hr,hin,i1 (by omega)]
    ·have hin:inL l a 2=false:=Uw.2 (by rw[Q2];omega)
     simp[Yw,aiV,Z1,h1,u0,u1,h2,hin,i1 (by omega)]
   ·have hin:inL l a 2=false:=by simp[inL,h1]
    simp[Yw,aiV,Z1,h1,hin,i1 (by omega)]
  ·have u0:=Zb l.old (by omega) (by omega)
   by_cases h1:fstL l 3≤a
   ·have u1:=Zb (a-fstL l 3) (by omega) (by omega)
    by_cases h2:a-fstL l 3<l.old
    ·have u2:=Z1 (a-fstL l 3) (by omega) (by omega)
     have hin:inL l a 3=true:=YI.2 ⟨h1,by rw[RX];omega⟩
     simp[Yw,aiV,Z1,h1,u0,u1,h2,u2,Zu,hr,hin,i1 (by omega),i2 (by omega)]
    ·have hin:inL l a 3=false:=Uw.2 (by rw[RX];omega)
     simp[Yw,aiV,Z1,h1,u0,u1,h2,hin,i1 (by omega),i2 (by omega)]
   ·have hin:inL l a 3=false:=by simp[inL,h1]
    simp[Yw,aiV,Z1,h1,hin,i1 (by omega),i2 (by omega)]
  ·have u0:=Zb l.far (by omega) (by omega)
   by_cases h1:fstL l 4≤a
   ·have u1:=Zb (a-fstL l 4) (by omega) (by omega)
    by_cases h2:a-fstL l 4<l.far
    ·have u2:=Z1 (a-fstL l 4) (by omega) (by omega)
     have hin:inL l a 4=true:=YI.2 ⟨h1,by rw[QT];omega⟩
     simp[Yw,aiV,Z1,h1,u0,u1,h2,u2,Zu,hr,hin,i1 (by omega),i2 (by omega),i3 (by omega)]
    ·have hin:inL l a 4=false:=Uw.2 (by rw[QT];omega)
     simp[Yw,aiV,Z1,h1,u0,u1,h2,hin,i1 (by omega),i2 (by omega),i3 (by omega)]
   ·have hin:inL l a 4=false:=by simp[inL,h1]
    simp[Yw,aiV,Z1,h1,hin,i1 (by omega),i2 (by omega),i3 (by omega)]
  ·simp[Zu,hr,i1 (by omega),i2 (by omega),i3 (by omega),i4 (by omega)]
theorem JZ{l:Ly}(hl:l.fits){a:Int}(ha:U64 a):VC Tryz.prog 83 false [lyV l,vu a] (.tup [.agg [vi (Zu l a).1,vi (Zu l a).2.1],vi (Zu l a).2.2]):=by
 refine Z3 Tryz.func83 follows (by kernel_rfl) c83 rfl ?_
 simp[p83]
 refine Z0 (YT hl) (by simp) ?_
 cases hr:Z7 l
 ·simp[Zu,hr]
 ·obtain⟨a1,a2⟩:=ha
  simp
  have hw: ∀k,1≤fstL l k∧fstL l k+sizL l k≤9223372036854775808∧0≤sizL l k∧sizL l k≤4096:=fun k=>Zx hr k
  have w1:=hw 1
  have w2:=hw 2
  have w3:=hw 3
  have w4:=hw 4
  simp only[J5,Q2,RX,QT]at w1 w2 w3 w4
  refine Zz (fun(i:Nat)=> [(7,.v (vi ((i+1:Nat):Int)))]) (fun i=>i≤4∧(0<i→inL l a 1=false)∧(1<i→inL l a 2=false)∧(2<i→inL l a 3=false)∧(3<i→inL l a 4=false)) (cnt 7 5) 0 (by simp) (by simp) ?_
  rintro i ⟨hi,i1,i2,i3,i4⟩
  have hi':i=0∨i=1∨i=2∨i=3∨i=4:=by omega
  rcases hi' with rfl|rfl|rfl|rfl|rfl
  ·have u0:=Zb l.low (by omega) (by omega)
   have u3:=Zb (fstL l 1+l.low) (by omega) (by omega)
   simp
   refine Z0 (ZC hr (k:=1) (by omega)) (by simp) ?_
   by_cases h1:fstL l 1≤a
   ·by_cases h2:a<fstL l 1+l.low
    ·have u1:=Zb (a-fstL l 1) (by omega) (by omega)
     have u2:=Z1 (a-fstL l 1) (by omega) (by omega)
     have hin:inL l a 1=true:=YI.2 ⟨h1,by rw[J5];omega⟩
     simp[Z1,h1,u0,u1,h2,u2,u3,Zu,hr,hin]
    ·have hin:inL l a 1=false:=Uw.2 (by rw[J5];omega)
     simp[Z1,h1,u0,u3,h2]
     exact⟨1,by simp[hin],by simp,by simp[cnt]⟩
   ·have hin:inL l a 1=false:=by simp[inL,h1]
    simp[Z1,h1]
    exact⟨1,by simp[hin],by simp,by simp[cnt]⟩
  ·have u0:=Zb l.high (by omega) (by omega)
   have u3:=Zb (fstL l 2+l.high) (by omega) (by omega)
   simp
   refine Z0 (ZC hr (k:=2) (by omega)) (by simp) ?_
   by_cases h1:fstL l 2≤a
   ·by_cases h2:a<fstL l 2+l.high
    ·have u1:=Zb (a-fstL l 2) (by omega) (by omega)
     have u2:=Z1 (a-fstL l 2) (by omega) (by omega)
     have hin:inL l a 2=true:=YI.2 ⟨h1,by rw[Q2];omega⟩
     simp[Z1,h1,u0,u1,h2,u2,u3,Zu,hr,hin,i1 (by omega)]
    ·have hin:inL l a 2=false:=Uw.2 (by rw[Q2];omega)
     simp[Z1,h1,u0,u3,h2]
     exact⟨2,by simp[hin,i1 (by omega)],by simp,by simp[cnt]⟩
   ·have hin:inL l a 2=false:=by simp[inL,h1]
    simp[Z1,h1]
    exact⟨2,by simp[hin,i1 (by omega)],by simp,by simp[cnt]⟩
  ·have u0:=Zb l.old (by omega) (by omega)
   have u3:=Zb (fstL l 3+l.old) (by omega) (by omega)
   simp
   refine Z0 (ZC hr (k:=3) (by omega)) (by simp) ?_
   by_cases h1:fstL l 3≤a
   ·by_cases h2:a<fstL l 3+l.old
    ·have u1:=Zb (a-fstL l 3) (by omega) (by omega)
     have u2:=Z1 (a-fstL l 3) (by omega) (by omega)
     have hin:inL l a 3=true:=YI.2 ⟨h1,by rw[RX];omega⟩
     simp[Z1,h1,u0,u1,h2,u2,u3,Zu,hr,hin,i1 (by omega),i2 (by omega)]
    ·have hin:inL l a 3=false:=Uw.2 (by rw[RX];omega)
     simp[Z1,h1,u0,u3,h2]
     exact⟨3,by simp[hin,i1 (by omega),i2 (by omega)],by simp,by simp[cnt]⟩
   ·have hin:inL l a 3=false:=by simp[inL,h1]
    simp[Z1,h1]
    exact⟨3,by simp[hin,i1 (by omega),i2 (by omega)],by simp,by simp[cnt]⟩
  ·have u0:=Zb l.far (by omega) (by omega)
   have u3:=Zb (fstL l 4+l.far) (by omega) (by omega)
   simp
   refine Z0 (ZC hr (k:=4) (by omega)) (by simp) ?_
   by_cases h1:fstL l 4≤a
   ·by_cases h2:a<fstL l 4+l.far
    ·have u1:=Zb (a-fstL l 4) (by omega) (by omega)
     have u2:=Z1 (a-fstL l 4) (by omega) (by omega)
     have hin:inL l a 4=true:=YI.2 ⟨h1,by rw[QT];omega⟩
     simp[Z1,h1,u0,u1,h2,u2,u3,Zu,hr,hin,i1 (by omega),i2 (by omega),i3 (by omega)]
    ·have hin:inL l a 4=false:=Uw.2 (by rw[QT];omega)
     simp[Z1,h1,u0,u3,h2]
     exact⟨4,by simp[hin,i1 (by omega),i2 (by omega),i3 (by omega)],by simp,by simp[cnt]⟩
   ·have hin:inL l a 4=false:=by simp[inL,h1]
    simp[Z1,h1]
    exact⟨4,by simp[hin,i1 (by omega),i2 (by omega),i3 (by omega)],by simp,by simp[cnt]⟩
  ·simp[Zu,hr,i1 (by omega),i2 (by omega),i3 (by omega),i4 (by omega)]
end Vm
end
section
namespace Vm
open Go
open Go.Proofs
set_option maxRecDepth 100000
def p6:Fn:=⟨9,[0,1,2,3,6,10,7,14,18],
(.seq
(.reg ⟨[],[],[(3,.m [(.fld (.sz (.s 0) 10) 0),(.fld (.sz (.s 0) 10) 1),(.fld (.sz (.s 0) 10) 2),(.fld (.sz (.s 0) 10) 3),(.fld (.sz (.s 0) 10) 4),(.fld (.sz (.s 0) 10) 5),(.fld (.sz (.s 0) 10) 6),(.fld (.sz (.s 0) 10) 7),(.fld (.sz (.s 0) 10) 8),(.fld (.sz (.s 0) 10) 9)]),(4,.m [(.c (.int .u64 (0))),(.c (.int .i64 (0))),(.c (.int .i64 (0))),(.c (.bool false)),(.c (.int .i64 (0))),(.c (.sl [])),(.c (.sl [])),(.c (.sl [])),(.c (.sl [])),(.c (.sl []))])]⟩)
(.seq
(.seq
(.reg ⟨[],[],[(6,.v (.s 1))]⟩)
(.block 0
 (.seq
 (.reg ⟨[],[],[(5,.v (.bin .eql (.s 6) (.c (.int .i64 (1)))))]⟩)
 (.cond (.s 5)
  (.reg ⟨[],[],[(3,.m [(.m 3 0),(.m 3 1),(.m 3 2),(.m 3 3),(.m 3 4),(.one (.s 2)),(.m 3 6),(.m 3 7),(.m 3 8),(.m 3 9)])]⟩)
  (.seq
  (.reg ⟨[],[],[(7,.v (.bin .eql (.s 6) (.c (.int .i64 (2)))))]⟩)
  (.cond (.s 7)
   (.reg ⟨[],[],[(3,.m [(.m 3 0),(.m 3 1),(.m 3 2),(.m 3 3),(.m 3 4),(.m 3 5),(.one (.s 2)),(.m 3 7),(.m 3 8),(.m 3 9)])]⟩)
   (.seq
   (.reg ⟨[],[],[(8,.v (.bin .eql (.s 6) (.c (.int .i64 (3)))))]⟩)
   (.cond (.s 8)
    (.reg ⟨[],[],[(3,.m [(.m 3 0),(.m 3 1),(.m 3 2),(.m 3 3),(.m 3 4),(.m 3 5),(.m 3 6),(.one (.s 2)),(.m 3 8),(.m 3 9)])]⟩)
    (.reg ⟨[],[],[(3,.m [(.m 3 0),(.m 3 1),(.m 3 2),(.m 3 3),(.m 3 4),(.m 3 5),(.m 3 6),(.m 3 7),(.one (.s 2)),(.m 3 9)])]⟩)))))))))
(.seq
(.reg ⟨[],[],[(4,.m [(.fld (.mm 3 0 10) 0),(.fld (.mm 3 0 10) 1),(.fld (.mm 3 0 10) 2),(.fld (.mm 3 0 10) 3),(.fld (.mm 3 0 10) 4),(.fld (.mm 3 0 10) 5),(.fld (.mm 3 0 10) 6),(.fld (.mm 3 0 10) 7),(.fld (.mm 3 0 10) 8),(.fld (.mm 3 0 10) 9)])]⟩)
.ret))),
[(4,(.ag 10))]⟩
theorem c6:Z8 Tryz.prog fresh sig [.fz,.fz,.fz] [] Tryz.f6=some p6:=by kernel_rfl
def p7:Fn:=⟨8,[0,1,2,4,6,5,10,14],
(.seq
(.reg ⟨[],[],[(2,.m [(.fld (.sz (.s 0) 10) 0),(.fld (.sz (.s 0) 10) 1),(.fld (.sz (.s 0) 10) 2),(.fld (.sz (.s 0) 10) 3),(.fld (.sz (.s 0) 10) 4),(.fld (.sz (.s 0) 10) 5),(.fld (.sz (.s 0) 10) 6),(.fld (.sz (.s 0) 10) 7),(.fld (.sz (.s 0) 10) 8),(.fld (.sz (.s 0) 10) 9)]),(3,.v (.c (.sl [])))]⟩)
(.seq
(.seq
(.reg ⟨[],[],[(5,.v (.s 1))]⟩)
(.block 0
 (.seq
 (.reg ⟨[],[],[(4,.v (.bin .eql (.s 5) (.c (.int .i64 (1)))))]⟩)
 (.cond (.s 4)
  (.seq
  (.reg ⟨[],[],[(3,.v (.m 2 5))]⟩)
  .ret)
  (.seq
  (.reg ⟨[],[],[(6,.v (.bin .eql (.s 5) (.c (.int .i64 (2)))))]⟩)
  (.cond (.s 6)
   (.seq
   (.reg ⟨[],[],[(3,.v (.m 2 6))]⟩)
   .ret)
   (.seq
   (.reg ⟨[],[],[(7,.v (.bin .eql (.s 5) (.c (.int .i64 (3)))))]⟩)
   (.cond (.s 7)
    (.seq
    (.reg ⟨[],[],[(3,.v (.m 2 7))]⟩)
    .ret)
    .skip))))))))
(.seq
(.reg ⟨[],[],[(3,.v (.m 2 8))]⟩)
.ret))),
[(3,.v)]⟩
theorem c7:Z8 Tryz.prog fresh sig [.fz,.fz] [] Tryz.f7=some p7:=by kernel_rfl
def p12:Fn:=⟨10,[0,1,2,3,4,39,5,41,6,52],
(.seq
(.reg ⟨[],[],[(2,.m [(.fld (.sz (.s 0) 10) 0),(.fld (.sz (.s 0) 10) 1),(.fld (.sz (.s 0) 10) 2),(.fld (.sz (.s 0) 10) 3),(.fld (.sz (.s 0) 10) 4),(.fld (.sz (.s 0) 10) 5),(.fld (.sz (.s 0) 10) 6),(.fld (.sz (.s 0) 10) 7),(.fld (.sz (.s 0) 10) 8),(.fld (.sz (.s 0) 10) 9)]),(3,.m [(.fld (.sz (.s 1) 10) 0),(.fld (.sz (.s 1) 10) 1),(.fld (.sz (.s 1) 10) 2),(.fld (.sz (.s 1) 10) 3),(.fld (.sz (.s 1) 10) 4),(.fld (.sz (.s 1) 10) 5),(.fld (.sz (.s 1) 10) 6),(.fld (.sz (.s 1) 10) 7),(.fld (.sz (.s 1) 10) 8),(.fld (.sz (.s 1) 10) 9)]),(4,.v (.c (.bool false)))]⟩)
(.seq
(.seq
(.reg ⟨[.lt 10 [] (.bin .neq (.m 2 0) (.m 3 0)),.lt 11 [] (.ite (.s 10) (.c (.bool true)) (.bin .neq (.m 2 1) (.m 3 1))),.lt 12 [] (.ite (.s 11) (.c (.bool true)) (.bin .neq (.m 2 2) (.m 3 2))),.lt 13 [] (.ite (.s 12) (.c (.bool true)) (.eqv true (.m 2 3) (.m 3 3)))],[([(10,false)],(.bin .neq (.m 2 1) (.m 3 1))),([(11,false)],(.bin .neq (.m 2 2) (.m 3 2))),([(12,false)],(.eqv true (.m 2 3) (.m 3 3))),([(13,false)],(.bin .neq (.m 2 4) (.m 3 4)))],[(5,.v (.ite (.s 13) (.c (.bool true)) (.bin .neq (.m 2 4) (.m 3 4))))]⟩)
(.cond (.s 5)
 (.seq
 (.reg ⟨[],[],[(4,.v (.c (.bool false)))]⟩)
 .ret)
 .skip))
(.seq
(.seq
(.reg ⟨[],[],[(6,.v (.c (.int .i64 (1))))]⟩)
(.block 0
 (.loop [0,1,2,3,4,5,6]
  (.seq
  (.seq
  (.reg ⟨[],[],[(7,.v (.bin .leq (.s 6) (.c (.int .i64 (4)))))]⟩)
  (.cond (.s 7)
   .skip
   (.exit 0)))
  (.seq
  (.block 1
   (.seq
   (.reg ⟨[.call 14 [] (.id 7) false false [(.mm 2 0 10),(.s 6)],.call 15 [] (.id 7) false false [(.mm 3 0 10),(.s 6)],.call 16 [] (.id 30) false false [(.s 14),(.s 15)]],[],[(8,.v (.s 16))]⟩)
   (.seq
   (.reg ⟨[],[],[(9,.v (.un .not (.s 8)))]⟩)
   (.cond (.s 9)
    (.seq
    (.reg ⟨[],[],[(4,.v (.c (.bool false)))]⟩)
    .ret)
    .skip))))
  (.reg ⟨[],[],[(6,.v (.bin .add (.s 6) (.c (.int .i64 (1)))))]⟩))))))
(.seq
(.reg ⟨[.call 17 [] (.id 30) false false [(.m 2 9),(.m 3 9)]],[],[(4,.v (.s 17))]⟩)
.ret)))),
[(4,.v)]⟩
theorem c12:Z8 Tryz.prog fresh sig [.fz,.fz] [] Tryz.f12=some p12:=by kernel_rfl
def p25:Fn:=⟨4,[0,1,4,6],
(.seq
(.reg ⟨[],[],[(2,.v (.c (.int .i64 (0))))]⟩)
(.seq
(.seq
(.reg ⟨[],[],[(3,.v (.bin .lss (.s 0) (.c (.int .i64 (0)))))]⟩)
(.cond (.s 3)
 (.reg ⟨[],[],[(0,.v (.un .neg (.bin .add (.s 0) (.c (.int .i64 (1))))))]⟩)
 .skip))
(.seq
(.reg ⟨[],[],[(2,.v (.bin .rem (.s 0) (.s 1)))]⟩)
.ret))),
[(2,.v)]⟩
theorem c25:Z8 Tryz.prog fresh sig [.fz,.fz] [] Tryz.f25=some p25:=by kernel_rfl
def p30:Fn:=⟨7,[0,1,4,10,5,14,25],
(.seq
(.reg ⟨[],[],[(2,.v (.c (.bool false)))]⟩)
(.seq
(.seq
(.reg ⟨[],[],[(3,.v (.bin .neq (.len (.s 0)) (.len (.s 1))))]⟩)
(.cond (.s 3)
 (.seq
 (.reg ⟨[],[],[(2,.v (.c (.bool false)))]⟩)
 .ret)
 .skip))
(.seq
(.seq
(.reg ⟨[],[],[(4,.v (.c (.int .i64 (0))))]⟩)
(.block 0
 (.loop [0,1,2,3,4]
  (.seq
  (.seq
  (.reg ⟨[],[],[(5,.v (.bin .lss (.s 4) (.len (.s 0))))]⟩)
  (.cond (.s 5)
   .skip
   (.exit 0)))
  (.seq
  (.block 1
   (.seq
   (.reg ⟨[],[],[(6,.v (.bin .neq (.fld (.idx (.s 0) (.s 4) 1) 0) (.fld (.idx (.s 1) (.s 4) 1) 0)))]⟩)
   (.cond (.s 6)
    (.seq
    (.reg ⟨[],[],[(2,.v (.c (.bool false)))]⟩)
    .ret)
    .skip)))
  (.reg ⟨[],[],[(4,.v (.bin .add (.s 4) (.c (.int .i64 (1)))))]⟩))))))
(.seq
(.reg ⟨[],[],[(2,.v (.c (.bool true)))]⟩)
.ret)))),
[(2,.v)]⟩
theorem c30:Z8 Tryz.prog fresh sig [.fz,.fz] [] Tryz.f30=some p30:=by kernel_rfl
def p33:Fn:=⟨3,[0,1,2],
(.seq
(.reg ⟨[],[],[(1,.m [(.fld (.sz (.s 0) 10) 0),(.fld (.sz (.s 0) 10) 1),(.fld (.sz (.s 0) 10) 2),(.fld (.sz (.s 0) 10) 3),(.fld (.sz (.s 0) 10) 4),(.fld (.sz (.s 0) 10) 5),(.fld (.sz (.s 0) 10) 6),(.fld (.sz (.s 0) 10) 7),(.fld (.sz (.s 0) 10) 8),(.fld (.sz (.s 0) 10) 9)]),(2,.m [(.c (.int .u64 (0))),(.c (.int .i64 (0))),(.c (.int .i64 (0))),(.c (.int .i64 (0))),(.c (.int .i64 (0))),(.c (.int .i64 (0))),(.c (.int .i64 (0)))])]⟩)
(.seq
(.reg ⟨[],[],[(2,.m [(.fld (.ag [(.m 1 0),(.m 1 1),(.m 1 2),(.len (.m 1 5)),(.len (.m 1 6)),(.len (.m 1 7)),(.len (.m 1 8))]) 0),(.fld (.ag [(.m 1 0),(.m 1 1),(.m 1 2),(.len (.m 1 5)),(.len (.m 1 6)),(.len (.m 1 7)),(.len (.m 1 8))]) 1),(.fld (.ag [(.m 1 0),(.m 1 1),(.m 1 2),(.len (.m 1 5)),(.len (.m 1 6)),(.len (.m 1 7)),(.len (.m 1 8))]) 2),(.fld (.ag [(.m 1 0),(.m 1 1),(.m 1 2),(.len (.m 1 5)),(.len (.m 1 6)),(.len (.m 1 7)),(.len (.m 1 8))]) 3),(.fld (.ag [(.m 1 0),(.m 1 1),(.m 1 2),(.len (.m 1 5)),(.len (.m 1 6)),(.len (.m 1 7)),(.len (.m 1 8))]) 4),(.fld (.ag [(.m 1 0),(.m 1 1),(.m 1 2),(.len (.m 1 5)),(.len (.m 1 6)),(.len (.m 1 7)),(.len (.m 1 8))]) 5),(.fld (.ag [(.m 1 0),(.m 1 1),(.m 1 2),(.len (.m 1 5)),(.len (.m 1 6)),(.len (.m 1 7)),(.len (.m 1 8))]) 6)])]⟩)
.ret)),
[(2,(.ag 7))]⟩
theorem c33:Z8 Tryz.prog fresh sig [.fz] [] Tryz.f33=some p33:=by kernel_rfl
def p36:Fn:=⟨4,[0,1,4,6],
(.seq
(.reg ⟨[],[],[(2,.v (.c (.int .i64 (0))))]⟩)
(.seq
(.seq
(.reg ⟨[],[],[(3,.v (.bin .lss (.s 0) (.c (.int .i64 (0)))))]⟩)
(.cond (.s 3)
 (.reg ⟨[],[],[(0,.v (.un .neg (.bin .add (.s 0) (.c (.int .i64 (1))))))]⟩)
 .skip))
(.seq
(.reg ⟨[],[],[(2,.v (.bin .rem (.s 0) (.s 1)))]⟩)
.ret))),
[(2,.v)]⟩
theorem c36:Z8 Tryz.prog fresh sig [.fz,.fz] [] Tryz.f36=some p36:=by kernel_rfl
def p67:Fn:=⟨3,[0,1,2],
(.seq
(.reg ⟨[],[],[(1,.m [(.fld (.sz (.s 0) 10) 0),(.fld (.sz (.s 0) 10) 1),(.fld (.sz (.s 0) 10) 2),(.fld (.sz (.s 0) 10) 3),(.fld (.sz (.s 0) 10) 4),(.fld (.sz (.s 0) 10) 5),(.fld (.sz (.s 0) 10) 6),(.fld (.sz (.s 0) 10) 7),(.fld (.sz (.s 0) 10) 8),(.fld (.sz (.s 0) 10) 9)]),(2,.m [(.c (.int .u64 (0))),(.c (.int .i64 (0))),(.c (.int .i64 (0))),(.c (.int .i64 (0))),(.c (.int .i64 (0))),(.c (.int .i64 (0))),(.c (.int .i64 (0)))])]⟩)
(.seq
(.reg ⟨[],[],[(2,.m [(.fld (.ag [(.m 1 0),(.m 1 1),(.m 1 2),(.len (.m 1 5)),(.len (.m 1 6)),(.len (.m 1 7)),(.len (.m 1 8))]) 0),(.fld (.ag [(.m 1 0),(.m 1 1),(.m 1 2),(.len (.m 1 5)),(.len (.m 1 6)),(.len (.m 1 7)),(.len (.m 1 8))]) 1),(.fld (.ag [(.m 1 0),(.m 1 1),(.m 1 2),(.len (.m 1 5)),(.len (.m 1 6)),(.len (.m 1 7)),(.len (.m 1 8))]) 2),(.fld (.ag [(.m 1 0),(.m 1 1),(.m 1 2),(.len (.m 1 5)),(.len (.m 1 6)),(.len (.m 1 7)),(.len (.m 1 8))]) 3),(.fld (.ag [(.m 1 0),(.m 1 1),(.m 1 2),(.len (.m 1 5)),(.len (.m 1 6)),(.len (.m 1 7)),(.len (.m 1 8))]) 4),(.fld (.ag [(.m 1 0),(.m 1 1),(.m 1 2),(.len (.m 1 5)),(.len (.m 1 6)),(.len (.m 1 7)),(.len (.m 1 8))]) 5),(.fld (.ag [(.m 1 0),(.m 1 1),(.m 1 2),(.len (.m 1 5)),(.len (.m 1 6)),(.len (.m 1 7)),(.len (.m 1 8))]) 6)])]⟩)
.ret)),
[(2,(.ag 7))]⟩
theorem c67:Z8 Tryz.prog fresh sig [.fz] [] Tryz.f67=some p67:=by kernel_rfl
end Vm
end
section
namespace Vm
open Go Go.Proofs
set_option maxRecDepth 100000
structure Hp where
 base:Int
 cap:Int
 to:Int
 cycle:Bool
 scan:Int
 low:List Int
 high:List Int
 old:List Int
 far:List Int
 roots:List Int
 deriving DecidableEq,Inhabited
def hpCs(h:Hp):List V:= [vu h.base,vi h.cap,vi h.to,.bool h.cycle,vi h.scan,.sl (h.low.map vu),.sl (h.high.map vu),.sl (h.old.map vu),.sl (h.far.map vu),.sl (h.roots.map vu)]
def hpV(h:Hp):V:= .agg [vu h.base,vi h.cap,vi h.to,.bool h.cycle,vi h.scan,.sl (h.low.map vu),.sl (h.high.map vu),.sl (h.old.map vu),.sl (h.far.map vu),.sl (h.roots.map vu)]
@[simp] theorem Z4R(h:Hp):szV (hpV h) 10=some (hpV h):=rfl
@[simp] theorem Z2X(h:Hp):(hpV h).cells= [vu h.base,vi h.cap,vi h.to,.bool h.cycle,vi h.scan,.sl (h.low.map vu),.sl (h.high.map vu),.sl (h.old.map vu),.sl (h.far.map vu),.sl (h.roots.map vu)]:=rfl
@[simp] theorem Z2Y(h:Hp):fldV (hpV h) 0=some (vu h.base):=rfl
@[simp] theorem Z2N(h:Hp):fldV (hpV h) 1=some (vi h.cap):=rfl
@[simp] theorem Z2F(h:Hp):fldV (hpV h) 2=some (vi h.to):=rfl
@[simp] theorem Z2u(h:Hp):fldV (hpV h) 3=some (.bool h.cycle):=rfl
@[simp] theorem Z2T(h:Hp):fldV (hpV h) 4=some (vi h.scan):=rfl
@[simp] theorem Z2o(h:Hp):fldV (hpV h) 5=some (.sl (h.low.map vu)):=rfl
@[simp] theorem Z2U(h:Hp):fldV (hpV h) 6=some (.sl (h.high.map vu)):=rfl
@[simp] theorem Z1G(h:Hp):fldV (hpV h) 7=some (.sl (h.old.map vu)):=rfl
@[simp] theorem Z2c(h:Hp):fldV (hpV h) 8=some (.sl (h.far.map vu)):=rfl
@[simp] theorem Z2k(h:Hp):fldV (hpV h) 9=some (.sl (h.roots.map vu)):=rfl
def layH(h:Hp):Ly:=⟨h.base,h.cap,h.to,h.low.length,h.high.length,h.old.length,h.far.length⟩
structure Hp.ok (h:Hp):Prop where
 base:U64 h.base
 cap:Fit h.cap
 to:Fit h.to
 scan:Fit h.scan
 low:h.low.length≤1000000
 high:h.high.length≤1000000
 old:h.old.length≤1000000
 far:h.far.length≤1000000
 roots:h.roots.length≤1000000
 lowW: ∀w∈h.low,U64 w
 highW: ∀w∈h.high,U64 w
 oldW: ∀w∈h.old,U64 w
 farW: ∀w∈h.far,U64 w
 rootsW: ∀w∈h.roots,U64 w
theorem Rx{α:Type}{l:List α}(h:l.length≤1000000):Fit (l.length:Int):=⟨by omega,by omega⟩
theorem Hp.ok.lay{h:Hp}(hh:h.ok):(layH h).fits:=⟨hh.base,hh.cap,hh.to,Rx hh.low,Rx hh.high,Rx hh.old,Rx hh.far⟩
theorem J0{h:Hp}:VC Tryz.prog 33 false [hpV h] (lyV (layH h)):=by
 refine Z3 Tryz.func33 follows (by kernel_rfl) c33 rfl ?_
 simp[p33,lyV,layH]
theorem Y9{h:Hp}:VC Tryz.prog 67 false [hpV h] (lyV (layH h)):=by
 refine Z3 Tryz.func67 follows (by kernel_rfl) c67 rfl ?_
 simp[p67,lyV,layH]
def Z5(h:Hp)(n:Int):List Int:=if n=1 then h.low else if n=2 then h.high else if n=3 then h.old else h.far
@[simp] theorem Xe(h:Hp):Z5 h 1=h.low:=rfl
@[simp] theorem KH(h:Hp):Z5 h 2=h.high:=rfl
@[simp] theorem Kt(h:Hp):Z5 h 3=h.old:=rfl
@[simp] theorem Kq(h:Hp):Z5 h 4=h.far:=rfl
theorem Yq{h:Hp}{n:Int}:VC Tryz.prog 7 false [hpV h,vi n] (.sl ((Z5 h n).map vu)):=by
 refine Z3 Tryz.func7 follows (by kernel_rfl) c7 rfl ?_
 by_cases h1:n=1
 ·simp[p7,Z5,h1]
 by_cases h2:n=2
 ·simp[p7,Z5,h2]
 by_cases h3:n=3<;>simp[p7,Z5,h1,h2,h3]
def Ym(h:Hp)(n:Int)(l:List Int):Hp:=if n=1 then {h with low:=l}else if n=2 then {h with high:=l}else if n=3 then {h with old:=l}else {h with far:=l}
@[simp] theorem Z5n(h:Hp)(l:List Int):Ym h 1 l= {h with low:=l}:=rfl
@[simp] theorem Z5d(h:Hp)(l:List Int):Ym h 2 l= {h with high:=l}:=rfl
@[simp] theorem Z3q(h:Hp)(l:List Int):Ym h 3 l= {h with old:=l}:=rfl
@[simp] theorem Z1A(h:Hp)(l:List Int):Ym h 4 l= {h with far:=l}:=rfl
theorem Tw{h:Hp}{n:Int}{l:List Int}:VC Tryz.prog 6 false [hpV h,vi n,.sl (l.map vu)] (hpV (Ym h n l)):=by
 refine Z3 Tryz.func6 follows (by kernel_rfl) c6 rfl ?_
 by_cases h1:n=1
 ·simp[p6,Ym,h1,hpV]
 by_cases h2:n=2
 ·simp[p6,Ym,h2,hpV]
 by_cases h3:n=3<;>simp[p6,Ym,h1,h2,h3,hpV]
theorem Q9{α:Type}{a b:List α}{i:Nat}(h:a.take i=b.take i)(hx:a[i]? =b[i]?):a.take (i+1)=b.take (i+1):=by
 rw[List.take_add_one,List.take_add_one,h,hx]
theorem Z4F{α:Type}{a b:List α}{i:Nat}(h:a[i]? ≠b[i]?):a≠b:=fun e=>h (by rw[e])
theorem S3{a b:List Int}(ha:a.length≤1000000):VC Tryz.prog 30 false [.sl (a.map vu),.sl (b.map vu)] (.bool (decide (a=b))):=by
 refine Z3 Tryz.func30 follows (by kernel_rfl) c30 rfl ?_
 by_cases hl:a.length=b.length
 ·simp[p30,hl]
  refine Yn 4 b.length (fun i=>a.take i=b.take i) (by simp) (by simp) (by simp) ?_
  intro i hi heq
  have hw:=Z1 ((i:Int)+1) (by omega) (by omega)
  by_cases h:i<b.length
  ·have h':i<a.length:=by omega
   by_cases hx:a[i]=b[i]
   ·simp[h,h',hx,hw]
    exact Q9 heq (by simp[h,h',hx])
   ·simp[h,h',hx]
    exact Z4F (i:=i) (by simp[h,h',hx])
  ·have:i=b.length:=by omega
   subst this
   rw[List.take_length,List.take_of_length_le (by omega)]at heq
   simp[heq]
 ·simp[p30,show ¬((a.length:Int)=(b.length:Int))by omega]
  intro e;subst e;exact hl rfl
theorem UR{a b:Hp}(ha:a.ok):VC Tryz.prog 12 false [hpV a,hpV b] (.bool (decide (a=b))):=by
 refine Z3 Tryz.func12 follows (by kernel_rfl) c12 rfl ?_
 simp[p12]
 have hp: ∀k,(Z5 a k).length≤1000000:=fun k=>by
  unfold Z5
  split
  ·exact ha.low
  split
  ·exact ha.high
  split
  ·exact ha.old
  ·exact ha.far
 by_cases g1:a.base=b.base
 case neg=>
  have:a≠b:=fun e=>g1 (by rw[e])
  simp[g1,this]
 by_cases g2:a.cap=b.cap
 case neg=>
  have:a≠b:=fun e=>g2 (by rw[e])
  simp[g1,g2,this]
 by_cases g3:a.to=b.to
 case neg=>
  have:a≠b:=fun e=>g3 (by rw[e])
  simp[g1,g2,g3,this]
 by_cases g4:a.cycle=b.cycle
 case neg=>
  have:a≠b:=fun e=>g4 (by rw[e])
  have g4':(a.cycle==b.cycle)=false:=by simpa using g4
  simp[g1,g2,g3,g4,g4',this]
 by_cases g5:a.scan=b.scan
 case neg=>
  have:a≠b:=fun e=>g5 (by rw[e])
  simp[g1,g2,g3,g4,g5,this]
 simp[g1,g2,g3,g4,g5]
 refine Zz (fun(i:Nat)=> [(6,.v (vi ((i+1:Nat):Int)))]) (fun i=>i≤4∧(0<i→a.low=b.low)∧(1<i→a.high=b.high)∧(2<i→a.old=b.old)∧(3<i→a.far=b.far)) (cnt 6 5) 0 (by simp) (by simp) ?_
 rintro i ⟨hi,i1,i2,i3,i4⟩
 have hi':i=0∨i=1∨i=2∨i=3∨i=4:=by omega
 rcases hi' with rfl|rfl|rfl|rfl|rfl
 ·simp
  refine Z0 (Yq (h:=⟨b.base,b.cap,b.to,b.cycle,b.scan,a.low,a.high,a.old,a.far,a.roots⟩) (n:=1)) (by simp[hpV]) ?_
  simp
  refine Z0 (Yq (h:=b) (n:=1)) (by simp[hpV]) ?_
  simp
  refine Z0 (S3 (b:=b.low) (hp 1)) (by simp) ?_
  by_cases hx:a.low=b.low
  ·simp[hx,Z1]
   exact⟨1,by simp[hx],by simp,by simp[cnt]⟩
  ·have:a≠b:=fun e=>hx (by rw[e])
   simp[hx,this]
 ·simp
  refine Z0 (Yq (h:=⟨b.base,b.cap,b.to,b.cycle,b.scan,a.low,a.high,a.old,a.far,a.roots⟩) (n:=2)) (by simp[hpV]) ?_
  simp
  refine Z0 (Yq (h:=b) (n:=2)) (by simp[hpV]) ?_
  simp
  refine Z0 (S3 (b:=b.high) (hp 2)) (by simp) ?_
  by_cases hx:a.high=b.high
  ·simp[hx,Z1]
   exact⟨2,by simp[hx,i1 (by omega)],by simp,by simp[cnt]⟩
  ·have:a≠b:=fun e=>hx (by rw[e])
   simp[hx,this]
 ·simp
  refine Z0 (Yq (h:=⟨b.base,b.cap,b.to,b.cycle,b.scan,a.low,a.high,a.old,a.far,a.roots⟩) (n:=3)) (by simp[hpV]) ?_
  simp
  refine Z0 (Yq (h:=b) (n:=3)) (by simp[hpV]) ?_
  simp
  refine Z0 (S3 (b:=b.old) (hp 3)) (by simp) ?_
  by_cases hx:a.old=b.old
  ·simp[hx,Z1]
   exact⟨3,by simp[hx,i1 (by omega),i2 (by omega)],by simp,by simp[cnt]⟩
  ·have:a≠b:=fun e=>hx (by rw[e])
   simp[hx,this]
 ·simp
  refine Z0 (Yq (h:=⟨b.base,b.cap,b.to,b.cycle,b.scan,a.low,a.high,a.old,a.far,a.roots⟩) (n:=4)) (by simp[hpV]) ?_
  simp
  refine Z0 (Yq (h:=b) (n:=4)) (by simp[hpV]) ?_
  simp
  refine Z0 (S3 (b:=b.far) (hp 4)) (by simp) ?_
  by_cases hx:a.far=b.far
  ·simp[hx,Z1]
   exact⟨4,by simp[hx,i1 (by omega),i2 (by omega),i3 (by omega)],by simp,by simp[cnt]⟩
  ·have:a≠b:=fun e=>hx (by rw[e])
   simp[hx,this]
 ·simp
  refine Z0 (S3 (b:=b.roots) ha.roots) (by simp) ?_
  by_cases hx:a.roots=b.roots
  ·have:a=b:=by
    have h1:=i1 (by omega)
    have h2:=i2 (by omega)
    have h3:=i3 (by omega)
    have h4:=i4 (by omega)
    obtain⟨_,_,_,_,_,_,_,_,_,_⟩:=a
    obtain⟨_,_,_,_,_,_,_,_,_,_⟩:=b
    simp only at g1 g2 g3 g4 g5 h1 h2 h3 h4 hx
    subst g1 g2 g3 g4 g5 h1 h2 h3 h4 hx
    rfl
   subst this
   simp
  ·have:a≠b:=fun e=>hx (by rw[e])
   simp[hx,this]
def pick(c n:Int):Int:=(if c<0 then-(c+1)else c) %n
theorem YW{c n:Int}(hn:0<n):0≤pick c n∧pick c n<n:=⟨Int.emod_nonneg _ (by omega),Int.emod_lt_of_pos _ hn⟩
theorem Yx{c n:Int}(hc:Fit c)(hn:0<n):VC Tryz.prog 25 false [vi c,vi n] (vi (pick c n)):=by
 refine Z3 Tryz.func25 follows (by kernel_rfl) c25 rfl ?_
 obtain⟨h1,h2⟩:=hc
 by_cases h:c<0
 ·simp[p25,h]
  simp(disch:=omega) only[Z1]
  refine⟨by omega,?_⟩
  unfold pick
  rw[if_pos h,Int.tmod_eq_emod_of_nonneg (by omega)]
 ·simp[p25,h]
  refine⟨by omega,?_⟩
  unfold pick
  rw[if_neg h,Int.tmod_eq_emod_of_nonneg (by omega)]
theorem QZ{c n:Int}(hc:Fit c)(hn:0<n):VC Tryz.prog 36 false [vi c,vi n] (vi (pick c n)):=by
 refine Z3 Tryz.func36 follows (by kernel_rfl) c36 rfl ?_
 obtain⟨h1,h2⟩:=hc
 by_cases h:c<0
 ·simp[p36,h]
  simp(disch:=omega) only[Z1]
  refine⟨by omega,?_⟩
  unfold pick
  rw[if_pos h,Int.tmod_eq_emod_of_nonneg (by omega)]
 ·simp[p36,h]
  refine⟨by omega,?_⟩
  unfold pick
  rw[if_neg h,Int.tmod_eq_emod_of_nonneg (by omega)]
end Vm
end
section
namespace Vm
open Go
open Go.Proofs
set_option maxRecDepth 100000
def p39:Fn:=⟨13,[0,1,4,5,6,7,16,8,9,30,10,78,97],
(.seq
(.reg ⟨[],[],[(2,.m [(.c (.sl [])),(.c (.sl []))])]⟩)
(.seq
(.reg ⟨[],[],[(3,.v (.mn (.len (.s 0)) (.c (.int .i64 (10)))))]⟩)
(.seq
(.reg ⟨[],[],[(4,.m [(.c (.sl [])),(.c (.sl []))])]⟩)
(.seq
(.seq
(.reg ⟨[],[],[(5,.v (.c (.int .i64 (0))))]⟩)
(.block 0
 (.loop [0,1,2,3,4,5]
  (.seq
  (.seq
  (.reg ⟨[],[],[(6,.v (.bin .lss (.s 5) (.s 3)))]⟩)
  (.cond (.s 6)
   .skip
   (.exit 0)))
  (.seq
  (.block 1
   (.seq
   (.reg ⟨[],[],[(7,.m [(.c (.sl [])),(.c (.sl []))])]⟩)
   (.seq
   (.seq
   (.reg ⟨[],[],[(8,.v (.c (.int .i64 (0))))]⟩)
   (.block 2
    (.loop [0,1,2,3,4,5,6,7,8]
     (.seq
     (.seq
     (.reg ⟨[.lt 13 [] (.bin .lss (.s 8) (.len (.fld (.idx (.s 0) (.s 5) 2) 0)))],[([(13,true)],(.bin .lss (.s 8) (.c (.int .i64 (4)))))],[(9,.v (.ite (.s 13) (.bin .lss (.s 8) (.c (.int .i64 (4)))) (.c (.bool false))))]⟩)
     (.cond (.s 9)
      .skip
      (.exit 2)))
     (.seq
     (.block 3
      (.reg ⟨[.call 14 [] (.id 36) false false [(.fld (.idx (.fld (.idx (.s 0) (.s 5) 2) 0) (.s 8) 1) 0),(.bin .add (.s 3) (.c (.int .i64 (1))))]],[],[(7,.m [(.app (.m 7 0) (.lit [(.bin .sub (.s 14) (.c (.int .i64 (1))))]) 1),(.m 7 1)])]⟩))
     (.reg ⟨[],[],[(8,.v (.bin .add (.s 8) (.c (.int .i64 (1)))))]⟩))))))
   (.seq
   (.reg ⟨[],[],[(7,.m [(.m 7 0),(.app (.c (.sl [])) (.slc (.fld (.idx (.s 0) (.s 5) 2) 1) (.c (.int .i64 (0))) (.mn (.len (.fld (.idx (.s 0) (.s 5) 2) 1)) (.c (.int .i64 (4)))) 1) 1)])]⟩)
   (.reg ⟨[],[],[(4,.m [(.app (.m 4 0) (.lit [(.mm 7 0 2)]) 2),(.m 4 1)])]⟩)))))
  (.reg ⟨[],[],[(5,.v (.bin .add (.s 5) (.c (.int .i64 (1)))))]⟩))))))
(.seq
(.seq
(.reg ⟨[],[],[(10,.v (.c (.int .i64 (0))))]⟩)
(.block 4
 (.loop [0,1,2,3,4,5,6,10]
  (.seq
  (.seq
  (.reg ⟨[.lt 15 [] (.bin .lss (.s 10) (.len (.s 1)))],[([(15,true)],(.bin .lss (.s 10) (.c (.int .i64 (5)))))],[(11,.v (.ite (.s 15) (.bin .lss (.s 10) (.c (.int .i64 (5)))) (.c (.bool false))))]⟩)
  (.cond (.s 11)
   .skip
   (.exit 4)))
  (.seq
  (.block 5
   (.reg ⟨[.call 16 [] (.id 36) false false [(.fld (.idx (.s 1) (.s 10) 1) 0),(.bin .add (.s 3) (.c (.int .i64 (1))))]],[],[(4,.m [(.m 4 0),(.app (.m 4 1) (.lit [(.bin .sub (.s 16) (.c (.int .i64 (1))))]) 1)])]⟩))
  (.reg ⟨[],[],[(10,.v (.bin .add (.s 10) (.c (.int .i64 (1)))))]⟩))))))
(.seq
(.seq
(.reg ⟨[],[],[(12,.v (.bin .eql (.len (.m 4 1)) (.c (.int .i64 (0)))))]⟩)
(.cond (.s 12)
 (.reg ⟨[],[],[(4,.m [(.m 4 0),(.app (.m 4 1) (.lit [(.bin .sub (.s 3) (.c (.int .i64 (1))))]) 1)])]⟩)
 .skip))
(.seq
(.reg ⟨[],[],[(2,.m [(.fld (.mm 4 0 2) 0),(.fld (.mm 4 0 2) 1)])]⟩)
.ret))))))),
[(2,(.ag 2))]⟩
theorem c39:Z8 Tryz.prog fresh sig [.fz,.fz] [] Tryz.f39=some p39:=by kernel_rfl
def p40:Fn:=⟨10,[0,1,2,3,6,7,8,14,9,31],
(.seq
(.reg ⟨[],[],[(3,.m [(.fld (.sz (.s 0) 7) 0),(.fld (.sz (.s 0) 7) 1),(.fld (.sz (.s 0) 7) 2),(.fld (.sz (.s 0) 7) 3),(.fld (.sz (.s 0) 7) 4),(.fld (.sz (.s 0) 7) 5),(.fld (.sz (.s 0) 7) 6)]),(4,.v (.c (.int .i64 (0)))),(5,.v (.c (.bool false)))]⟩)
(.seq
(.reg ⟨[],[],[(6,.v (.s 1))]⟩)
(.seq
(.seq
(.reg ⟨[],[],[(7,.v (.bin .gtr (.len (.m 3 2)) (.c (.int .i64 (0)))))]⟩)
(.cond (.s 7)
 (.reg ⟨[],[],[(6,.v (.fld (.idx (.m 3 2) (.bin .rem (.s 1) (.len (.m 3 2))) 1) 0))]⟩)
 .skip))
(.seq
(.reg ⟨[.call 10 [] (.id 25) false false [(.s 6),(.c (.int .i64 (3)))]],[],[(8,.v (.s 10))]⟩)
(.seq
(.seq
(.reg ⟨[.lt 11 [] (.bin .eql (.s 8) (.c (.int .i64 (2))))],[([(11,true)],(.un .not (.s 2)))],[(9,.v (.ite (.s 11) (.un .not (.s 2)) (.c (.bool false))))]⟩)
(.cond (.s 9)
 (.reg ⟨[],[],[(8,.v (.c (.int .i64 (1))))]⟩)
 .skip))
(.seq
(.reg ⟨[.call 12 [] (.id 25) false false [(.bin .quo (.s 6) (.c (.int .i64 (3)))),(.c (.int .i64 (2)))]],[],[(4,.v (.s 8)),(5,.v (.bin .eql (.s 12) (.c (.int .i64 (1)))))]⟩)
.ret)))))),
[(4,.v),(5,.v)]⟩
theorem c40:Z8 Tryz.prog fresh sig [.fz,.fz,.fz] [] Tryz.f40=some p40:=by kernel_rfl
def p41:Fn:=⟨15,[0,1,2,3,4,5,6,8,9,10,11,12,44,13,76],
(.seq
(.reg ⟨[],[],[(4,.m [(.fld (.sz (.s 0) 14) 0),(.fld (.sz (.s 0) 14) 1),(.fld (.sz (.s 0) 14) 2),(.fld (.sz (.s 0) 14) 3),(.fld (.sz (.s 0) 14) 4),(.fld (.sz (.s 0) 14) 5),(.fld (.sz (.s 0) 14) 6),(.fld (.sz (.s 0) 14) 7),(.fld (.sz (.s 0) 14) 8),(.fld (.sz (.s 0) 14) 9),(.fld (.sz (.s 0) 14) 10),(.fld (.sz (.s 0) 14) 11),(.fld (.sz (.s 0) 14) 12),(.fld (.sz (.s 0) 14) 13)]),(5,.m [(.fld (.sz (.s 1) 2) 0),(.fld (.sz (.s 1) 2) 1)]),(6,.m [(.fld (.sz (.s 2) 2) 0),(.fld (.sz (.s 2) 2) 1)]),(7,.m [(.c (.int .u64 (0))),(.c (.int .i64 (0))),(.c (.int .i64 (0))),(.c (.bool false)),(.c (.int .i64 (0))),(.c (.sl [])),(.c (.sl [])),(.c (.sl [])),(.c (.sl [])),(.c (.sl [])),(.c (.sl [])),(.c (.sl [])),(.c (.sl [])),(.c (.sl []))])]⟩)
(.seq
(.reg ⟨[.call 15 [] (.id 7) false false [(.mm 4 0 10),(.m 5 0)]],[],[(8,.v (.app (.c (.sl [])) (.s 15) 1))]⟩)
(.seq
(.reg ⟨[.call 16 [] (.id 64) false false [(.ag [(.bin .add (.len (.m 6 0)) (.len (.m 6 1))),(.len (.m 6 0))])]],[],[(9,.v (.ext (.s 16) 0)),(10,.v (.ext (.s 16) 1))]⟩)
(.seq
(.reg ⟨[],[([],(.idx (.s 8) (.m 5 1) 1))],[(8,.v (.upd (.s 8) (.m 5 1) 0 (.one (.s 9))))]⟩)
(.seq
(.seq
(.reg ⟨[],[],[(11,.v (.c (.int .i64 (0))))]⟩)
(.block 0
 (.loop [0,1,2,3,4,5,6,7,8,9,10,11]
  (.seq
  (.seq
  (.reg ⟨[],[],[(12,.v (.bin .lss (.s 11) (.len (.m 6 0))))]⟩)
  (.cond (.s 12)
   .skip
   (.exit 0)))
  (.seq
  (.block 1
   (.reg ⟨[.call 17 [] (.id 65) false false [(.mm 4 0 14),(.ag [(.m 5 0),(.bin .add (.bin .add (.m 5 1) (.c (.int .i64 (1)))) (.s 11))]),(.fld (.idx (.m 6 0) (.s 11) 1) 0),(.bin .add (.s 3) (.s 11))]],[([],(.idx (.s 8) (.bin .add (.bin .add (.m 5 1) (.c (.int .i64 (1)))) (.s 11)) 1))],[(8,.v (.upd (.s 8) (.bin .add (.bin .add (.m 5 1) (.c (.int .i64 (1)))) (.s 11)) 0 (.one (.s 17))))]⟩))
  (.reg ⟨[],[],[(11,.v (.bin .add (.s 11) (.c (.int .i64 (1)))))]⟩))))))
(.seq
(.seq
(.reg ⟨[],[],[(13,.v (.c (.int .i64 (0))))]⟩)
(.block 2
 (.loop [0,1,2,3,4,5,6,7,8,9,10,11,12,13]
  (.seq
  (.seq
  (.reg ⟨[],[],[(14,.v (.bin .lss (.s 13) (.len (.m 6 1))))]⟩)
  (.cond (.s 14)
   .skip
   (.exit 2)))
  (.seq
  (.block 3
   (.reg ⟨[],[([],(.idx (.s 8) (.bin .add (.bin .add (.bin .add (.m 5 1) (.c (.int .i64 (1)))) (.len (.m 6 0))) (.s 13)) 1))],[(8,.v (.upd (.s 8) (.bin .add (.bin .add (.bin .add (.m 5 1) (.c (.int .i64 (1)))) (.len (.m 6 0))) (.s 13)) 0 (.fld (.idx (.m 6 1) (.s 13) 1) 0)))]⟩))
  (.reg ⟨[],[],[(13,.v (.bin .add (.s 13) (.c (.int .i64 (1)))))]⟩))))))
(.seq
(.reg ⟨[.call 18 [] (.id 6) false false [(.mm 4 0 10),(.m 5 0),(.s 8)]],[],[(4,.m [(.fld (.sz (.s 18) 10) 0),(.fld (.sz (.s 18) 10) 1),(.fld (.sz (.s 18) 10) 2),(.fld (.sz (.s 18) 10) 3),(.fld (.sz (.s 18) 10) 4),(.fld (.sz (.s 18) 10) 5),(.fld (.sz (.s 18) 10) 6),(.fld (.sz (.s 18) 10) 7),(.fld (.sz (.s 18) 10) 8),(.fld (.sz (.s 18) 10) 9),(.m 4 10),(.m 4 11),(.m 4 12),(.m 4 13)])]⟩)
(.seq
(.reg ⟨[],[],[(7,.m [(.fld (.mm 4 0 14) 0),(.fld (.mm 4 0 14) 1),(.fld (.mm 4 0 14) 2),(.fld (.mm 4 0 14) 3),(.fld (.mm 4 0 14) 4),(.fld (.mm 4 0 14) 5),(.fld (.mm 4 0 14) 6),(.fld (.mm 4 0 14) 7),(.fld (.mm 4 0 14) 8),(.fld (.mm 4 0 14) 9),(.fld (.mm 4 0 14) 10),(.fld (.mm 4 0 14) 11),(.fld (.mm 4 0 14) 12),(.fld (.mm 4 0 14) 13)])]⟩)
.ret)))))))),
[(7,(.ag 14))]⟩
theorem c41:Z8 Tryz.prog fresh sig [.fz,.fz,.fz,.fz] [] Tryz.f41=some p41:=by kernel_rfl
def p42:Fn:=⟨10,[0,1,2,3,4,11,5,6,7,8],
(.seq
(.reg ⟨[],[],[(2,.m [(.fld (.sz (.s 0) 14) 0),(.fld (.sz (.s 0) 14) 1),(.fld (.sz (.s 0) 14) 2),(.fld (.sz (.s 0) 14) 3),(.fld (.sz (.s 0) 14) 4),(.fld (.sz (.s 0) 14) 5),(.fld (.sz (.s 0) 14) 6),(.fld (.sz (.s 0) 14) 7),(.fld (.sz (.s 0) 14) 8),(.fld (.sz (.s 0) 14) 9),(.fld (.sz (.s 0) 14) 10),(.fld (.sz (.s 0) 14) 11),(.fld (.sz (.s 0) 14) 12),(.fld (.sz (.s 0) 14) 13)]),(3,.m [(.fld (.sz (.s 1) 2) 0),(.fld (.sz (.s 1) 2) 1)]),(4,.v (.c (.int .u64 (0))))]⟩)
(.seq
(.seq
(.reg ⟨[],[],[(5,.v (.bin .eql (.m 3 0) (.c (.int .i64 (0)))))]⟩)
(.cond (.s 5)
 (.seq
 (.reg ⟨[],[],[(4,.v (.c (.int .u64 (0))))]⟩)
 .ret)
 .skip))
(.seq
(.reg ⟨[.call 10 [] (.id 67) false false [(.mm 2 0 10)],.call 11 [] (.id 66) false false [(.s 10),(.mm 3 0 2)]],[],[(6,.v (.ext (.s 11) 0)),(7,.v (.ext (.s 11) 1))]⟩)
(.seq
(.reg ⟨[.call 12 [] (.id 68) false false [(.s 6)]],[],[(8,.v (.ext (.s 12) 0)),(9,.v (.ext (.s 12) 1))]⟩)
(.seq
(.reg ⟨[],[],[(4,.v (.s 8))]⟩)
.ret))))),
[(4,.v)]⟩
theorem c42:Z8 Tryz.prog fresh sig [.fz,.fz] [] Tryz.f42=some p42:=by kernel_rfl
def p65:Fn:=⟨10,[0,1,2,3,4,5,8,10,13,54],
(.seq
(.reg ⟨[],[],[(4,.m [(.fld (.sz (.s 0) 14) 0),(.fld (.sz (.s 0) 14) 1),(.fld (.sz (.s 0) 14) 2),(.fld (.sz (.s 0) 14) 3),(.fld (.sz (.s 0) 14) 4),(.fld (.sz (.s 0) 14) 5),(.fld (.sz (.s 0) 14) 6),(.fld (.sz (.s 0) 14) 7),(.fld (.sz (.s 0) 14) 8),(.fld (.sz (.s 0) 14) 9),(.fld (.sz (.s 0) 14) 10),(.fld (.sz (.s 0) 14) 11),(.fld (.sz (.s 0) 14) 12),(.fld (.sz (.s 0) 14) 13)]),(5,.m [(.fld (.sz (.s 1) 2) 0),(.fld (.sz (.s 1) 2) 1)]),(6,.v (.c (.int .u64 (0))))]⟩)
(.seq
(.seq
(.reg ⟨[],[],[(7,.v (.bin .lss (.s 2) (.c (.int .i64 (0)))))]⟩)
(.cond (.s 7)
 (.seq
 (.reg ⟨[],[],[(6,.v (.c (.int .u64 (0))))]⟩)
 .ret)
 .skip))
(.seq
(.seq
(.reg ⟨[],[],[(8,.v (.bin .gtr (.m 5 0) (.c (.int .i64 (2)))))]⟩)
(.cond (.s 8)
 (.seq
 (.reg ⟨[.call 10 [] (.id 42) false false [(.mm 4 0 14),(.flds (.idx (.m 4 13) (.s 2) 2) 0 2)]],[],[(6,.v (.s 10))]⟩)
 .ret)
 .skip))
(.seq
(.seq
(.reg ⟨[.lt 11 [] (.bin .eql (.m 5 0) (.c (.int .i64 (1)))),.lt 12 [] (.ite (.s 11) (.bin .geq (.m 5 1) (.m 4 4)) (.c (.bool false))),.lt 13 [(12,true)] (.bin .eql (.fld (.idx (.m 4 12) (.s 2) 2) 0) (.c (.int .i64 (0)))),.lt 14 [(12,true),(13,false)] (.bin .gtr (.fld (.idx (.m 4 13) (.s 2) 2) 0) (.c (.int .i64 (0))))],[([(11,true)],(.bin .geq (.m 5 1) (.m 4 4))),([(12,true),(13,false),(14,true)],(.bin .eql (.bin .rem (.s 3) (.c (.int .i64 (2)))) (.c (.int .i64 (0))))),([(12,true),(13,false)],(.ite (.s 14) (.bin .eql (.bin .rem (.s 3) (.c (.int .i64 (2)))) (.c (.int .i64 (0)))) (.c (.bool false)))),([(12,true)],(.ite (.s 13) (.c (.bool true)) (.ite (.s 14) (.bin .eql (.bin .rem (.s 3) (.c (.int .i64 (2)))) (.c (.int .i64 (0)))) (.c (.bool false)))))],[(9,.v (.ite (.s 12) (.ite (.s 13) (.c (.bool true)) (.ite (.s 14) (.bin .eql (.bin .rem (.s 3) (.c (.int .i64 (2)))) (.c (.int .i64 (0)))) (.c (.bool false)))) (.c (.bool false))))]⟩)
(.cond (.s 9)
 (.seq
 (.reg ⟨[.call 15 [] (.id 42) false false [(.mm 4 0 14),(.flds (.idx (.m 4 13) (.s 2) 2) 0 2)]],[],[(6,.v (.s 15))]⟩)
 .ret)
 .skip))
(.seq
(.reg ⟨[.call 16 [] (.id 42) false false [(.mm 4 0 14),(.flds (.idx (.m 4 12) (.s 2) 2) 0 2)]],[],[(6,.v (.s 16))]⟩)
.ret))))),
[(6,.v)]⟩
theorem c65:Z8 Tryz.prog fresh sig [.fz,.fz,.fz,.fz] [] Tryz.f65=some p65:=by kernel_rfl
end Vm
end
section
namespace Vm
open Go Go.Proofs
set_option maxRecDepth 100000
structure Nd where
 ptrs:List Int
 data:List Int
 deriving DecidableEq,Inhabited
structure Gr where
 nodes:List Nd
 roots:List Int
 deriving DecidableEq,Inhabited
def ndV(n:Nd):V:= .agg [.sl (n.ptrs.map vi),.sl (n.data.map vu)]
def grV(g:Gr):V:= .agg [.sl (g.nodes.map ndV),.sl (g.roots.map vi)]
@[simp] theorem Z1H(n:Nd):(ndV n).cells= [.sl (n.ptrs.map vi),.sl (n.data.map vu)]:=rfl
@[simp] theorem Z1r(l:List Nd):ZR 2 (l.map ndV)=true:=X7 fun _=>rfl
@[simp] theorem Z2h(n:Nd):Tn (ndV n) 0 2=some (ndV n):=rfl
@[simp] theorem Z3e(n:Nd):fldV (ndV n) 0=some (.sl (n.ptrs.map vi)):=rfl
@[simp] theorem Z2t(n:Nd):fldV (ndV n) 1=some (.sl (n.data.map vu)):=rfl
@[simp] theorem Z4B(n:Nd):szV (ndV n) 2=some (ndV n):=rfl
@[simp] theorem Z27(g:Gr):Tn (grV g) 0 2=some (grV g):=rfl
@[simp] theorem Z3c(g:Gr):fldV (grV g) 0=some (.sl (g.nodes.map ndV)):=rfl
@[simp] theorem Z39(g:Gr):fldV (grV g) 1=some (.sl (g.roots.map vi)):=rfl
@[simp] theorem Z4r(g:Gr):szV (grV g) 2=some (grV g):=rfl
@[simp] theorem Z25(g:Gr):(grV g).cells= [.sl (g.nodes.map ndV),.sl (g.roots.map vi)]:=rfl
@[simp] theorem Z1Q{k:IntKind}{l:List V}(j n:Nat):slcV n (.sl l) (.int k 0) (.int k (j:Int))=if j≤l.length∧ZR n l=true then some (.sl (l.take j))else none:=by
 have:=Ky (k:=k) (l:=l) 0 j n
 simpa using this
def rp(n:Nat)(p:Int):Int:=pick p (n+1) -1
def mkNd(n:Nat)(x:Nd):Nd:=⟨(x.ptrs.take 4).map (rp n),x.data.take 4⟩
def mkN(l:List Nd):Nat:=min l.length 10
def mkG(l:List Nd)(roots:List Int):Gr:=⟨(l.take (mkN l)).map (mkNd (mkN l)),if roots.take 5= []then [(mkN l:Int) -1]else(roots.take 5).map (rp (mkN l))⟩
theorem jS{l:List Nd}{roots:List Int}(hl: ∀x∈l,∀p∈x.ptrs,Fit p)(hr: ∀p∈roots,Fit p):VC Tryz.prog 39 false [.sl (l.map ndV),.sl (roots.map vi)] (grV (mkG l roots)):=by
 refine Z3 Tryz.func39 follows (by kernel_rfl) c39 rfl ?_
 have hn10:mkN l≤10:=by unfold mkN;omega
 have hnl:mkN l≤l.length:=by unfold mkN;omega
 have hmin:(if(10:Int) < (l.length:Int)then(10:Int)else(l.length:Int))=(mkN l:Int):=by
  unfold mkN;split<;>omega
 simp[p39,hmin]
 generalize hn:mkN l=n at*
 have hwn:=Z1 ((n:Int)+1) (by omega) (by omega)
 refine Rq (fun t=> ∃i:Nat,i≤n∧t= [.v (.sl (l.map ndV)),.v (.sl (roots.map vi)),.m [.sl [],.sl []],.v (vi n),.m [.sl (((l.take i).map (mkNd n)).map ndV),.sl []],.v (vi i)]) (fun t=>match get t 5 with| .v (.int _ i)=>n-i.toNat|_=>0) ?_ ?_
 ·exact⟨0,by simp,by simp⟩
 ·rintro t ⟨i,hi,rfl⟩
  have hw:=Z1 ((i:Int)+1) (by omega) (by omega)
  by_cases h:i<n
  ·have hil:i<l.length:=by omega
   have hx:l[i]? =some l[i]:=List.getElem?_eq_getElem hil
   simp[h]
   generalize hnd:l[i]=x at hx
   have hxp: ∀p∈x.ptrs,Fit p:=hl x (List.mem_of_getElem? hx)
   have hdm:(if(4:Int) < (x.data.length:Int)then(4:Int)else(x.data.length:Int))=((min x.data.length 4:Nat):Int):=by split<;>omega
   refine Rq (fun t=> ∃k:Nat,k≤x.ptrs.length∧k≤4∧t= [.v (.sl (l.map ndV)),.v (.sl (roots.map vi)),.m [.sl [],.sl []],.v (vi n),.m [.sl (((l.take i).map (mkNd n)).map ndV),.sl []],.v (vi i),.v (.bool true),.m [.sl (((x.ptrs.take k).map (rp n)).map vi),.sl []],.v (vi k)]) (fun t=>match get t 8 with| .v (.int _ i)=>4-i.toNat|_=>0) ?_ ?_
   ·exact⟨0,by simp,by simp,by simp⟩
   ·rintro t ⟨k,hk,hk4,rfl⟩
    have hwk:=Z1 ((k:Int)+1) (by omega) (by omega)
    by_cases h4:k<x.ptrs.length∧k<4
    ·obtain⟨ha,hb⟩:=h4
     have hp:x.ptrs[k]? =some x.ptrs[k]:=List.getElem?_eq_getElem ha
     have hkb:(k:Int) <4:=by omega
     simp[hil,hnd,ha,hkb,hwn]
     refine Z0 (QZ (hxp _ (List.getElem_mem ha)) (by omega)) (by simp) ?_
     have hpl:=YW (c:=x.ptrs[k]) (n:=(n:Int)+1) (by omega)
     have hwp:=Z1 (pick x.ptrs[k] ((n:Int)+1) -1) (by omega) (by omega)
     simp[hwk,hwp]
     refine⟨by simp[lim];omega,⟨k+1,by omega,by omega,?_,by simp⟩,by omega⟩
     rw[List.take_add_one,List.getElem?_map,hp]
     rfl
    ·have hend:(x.ptrs.take k)=x.ptrs.take 4:=by
      by_cases ha:k<x.ptrs.length
      ·have:k=4:=by omega
       rw[this]
      ·rw[List.take_of_length_le (by omega),List.take_of_length_le (by omega)]
     have hfin:(l.take (i+1)).map (ndV∘mkNd n)=(l.take i).map (ndV∘mkNd n)++ [V.agg [.sl ((x.ptrs.take k).map (vi∘rp n)),.sl ((x.data.take (min x.data.length 4)).map vu)]]:=by
      rw[List.take_add_one,hx,List.map_append,hend]
      have hmd:x.data.take (min x.data.length 4)=x.data.take 4:=by
       by_cases hd:x.data.length≤4
       ·rw[List.take_of_length_le (by omega),List.take_of_length_le (by omega)]
       ·congr 1;omega
      rw[hmd]
      simp[ndV,mkNd]
     have hsz:ZR 1 ((x.data.take (min x.data.length 4)).map vu)=true:=XI _
     have hl1:min x.data.length 4≤lim:=by simp[lim];omega
     have hl2:min i l.length+1≤lim:=by simp[lim];omega
     have hl3:min x.data.length 4≤x.data.length:=by omega
     simp only[List.map_take]at hfin hsz
     have hkb:k<x.ptrs.length→ ¬(k:Int) <4:=by omega
     by_cases ha:k<x.ptrs.length
     all_goals (
      simp[hil,hnd,ha,hkb,hdm,hl1,hl2,hsz,hw,hl3]
      exact⟨⟨i+1,by omega,hfin.symm,by simp⟩,by omega⟩)
  ·have:i=n:=by omega
   subst this
   simp
   have hwn1:=Z1 ((i:Int) -1) (by omega) (by omega)
   refine Rq (fun t=> ∃k:Nat,k≤roots.length∧k≤5∧t= [.v (.sl (l.map ndV)),.v (.sl (roots.map vi)),.m [.sl [],.sl []],.v (vi i),.m [.sl ((l.take i).map (ndV∘mkNd i)),.sl ((roots.take k).map (vi∘rp i))],.v (vi i),.v (.bool false),.no,.no,.no,.v (vi k)]) (fun t=>match get t 10 with| .v (.int _ i)=>5-i.toNat|_=>0) ?_ ?_
   ·exact⟨0,by simp,by simp,by simp⟩
   ·rintro t ⟨k,hk,hk5,rfl⟩
    have hwk:=Z1 ((k:Int)+1) (by omega) (by omega)
    by_cases h5:k<roots.length∧k<5
    ·obtain⟨ha,hb⟩:=h5
     have hp:roots[k]? =some roots[k]:=List.getElem?_eq_getElem ha
     have hkb:(k:Int) <5:=by omega
     simp[ha,hkb,hwn]
     refine Z0 (QZ (hr _ (List.getElem_mem ha)) (by omega)) (by simp) ?_
     have hpl:=YW (c:=roots[k]) (n:=(i:Int)+1) (by omega)
     have hwp:=Z1 (pick roots[k] ((i:Int)+1) -1) (by omega) (by omega)
     simp[hwk,hwp]
     refine⟨by simp[lim];omega,⟨k+1,by omega,by omega,?_,by simp⟩,by omega⟩
     rw[List.take_add_one,List.getElem?_map,hp]
     rfl
    ·have hend:(roots.take k)=roots.take 5:=by
      by_cases ha:k<roots.length
      ·have:k=5:=by omega
       rw[this]
      ·rw[List.take_of_length_le (by omega),List.take_of_length_le (by omega)]
     have hkb:k<roots.length→ ¬(k:Int) <5:=by omega
     have hg:mkG l roots=⟨(l.take i).map (mkNd i),if roots.take 5= []then [(i:Int) -1]else(roots.take 5).map (rp i)⟩:=by
      unfold mkG;rw[hn]
     have hlen:(roots.take k).length=k:=by rw[List.length_take];omega
     by_cases hz:k=0
     ·subst hz
      have hnil:roots.take 5= []:=by rw[←hend];rfl
      rw[hg,if_pos hnil]
      have ha: ¬0<roots.length:=by omega
      have hl1:1≤lim:=by simp[lim]
      simp[ha,grV,hwn1,hl1]
     ·have hnil:roots.take 5≠ []:=by
       rw[←hend];intro h;rw[h]at hlen;simp at hlen;omega
      rw[hg,if_neg hnil,←hend]
      have hr0: ¬roots= []:=by intro h;rw[h]at hk;simp at hk;omega
      by_cases ha:k<roots.length
      all_goals simp[ha,hkb,grV,hz,hr0]
theorem Z2b{n:Nat}{p:Int}: -1≤rp n p∧rp n p<n:=by
 have:=YW (c:=p) (n:=(n:Int)+1) (by omega)
 unfold rp;omega
theorem VE(l:List Nd)(roots:List Int):(mkG l roots).nodes.length=mkN l:=by
 simp[mkG,mkN]
theorem SD(l:List Nd)(roots:List Int):mkN l≤10∧(mkG l roots).roots.length≤5∧ ∀x∈(mkG l roots).nodes,x.ptrs.length≤4∧x.data.length≤4:=by
 refine⟨by unfold mkN;omega,?_,fun x hx=> ?_⟩
 ·simp only[mkG];split
  ·simp
  ·simp;omega
 ·simp only[mkG,List.mem_map]at hx
  obtain⟨y,_,rfl⟩:=hx
  simp only[mkNd,List.length_map,List.length_take];omega
end Vm
end
section
namespace Vm
open Go
open Go.Proofs
set_option maxRecDepth 100000
def p8:Fn:=⟨5,[0,1,2,3,10],
(.seq
(.reg ⟨[],[],[(1,.m [(.fld (.sz (.s 0) 7) 0),(.fld (.sz (.s 0) 7) 1),(.fld (.sz (.s 0) 7) 2),(.fld (.sz (.s 0) 7) 3),(.fld (.sz (.s 0) 7) 4),(.fld (.sz (.s 0) 7) 5),(.fld (.sz (.s 0) 7) 6)]),(2,.m [(.c (.int .u64 (0))),(.c (.int .i64 (0))),(.c (.int .i64 (0))),(.c (.bool false)),(.c (.int .i64 (0))),(.c (.sl [])),(.c (.sl [])),(.c (.sl [])),(.c (.sl [])),(.c (.sl []))])]⟩)
(.seq
(.reg ⟨[.call 5 [] (.id 22) false false [(.mm 1 0 7),(.c (.bool true))]],[],[(3,.m [(.fld (.sz (.s 5) 14) 0),(.fld (.sz (.s 5) 14) 1),(.fld (.sz (.s 5) 14) 2),(.fld (.sz (.s 5) 14) 3),(.fld (.sz (.s 5) 14) 4),(.fld (.sz (.s 5) 14) 5),(.fld (.sz (.s 5) 14) 6),(.fld (.sz (.s 5) 14) 7),(.fld (.sz (.s 5) 14) 8),(.fld (.sz (.s 5) 14) 9),(.fld (.sz (.s 5) 14) 10),(.fld (.sz (.s 5) 14) 11),(.fld (.sz (.s 5) 14) 12),(.fld (.sz (.s 5) 14) 13)])]⟩)
(.seq
(.seq
(.reg ⟨[],[],[(4,.v (.bin .eql (.len (.m 3 5)) (.c (.int .i64 (0)))))]⟩)
(.cond (.s 4)
 (.seq
 (.reg ⟨[.call 6 [] (.id 23) false false [(.mm 1 0 7)]],[],[(2,.m [(.fld (.sz (.s 6) 10) 0),(.fld (.sz (.s 6) 10) 1),(.fld (.sz (.s 6) 10) 2),(.fld (.sz (.s 6) 10) 3),(.fld (.sz (.s 6) 10) 4),(.fld (.sz (.s 6) 10) 5),(.fld (.sz (.s 6) 10) 6),(.fld (.sz (.s 6) 10) 7),(.fld (.sz (.s 6) 10) 8),(.fld (.sz (.s 6) 10) 9)])]⟩)
 .ret)
 .skip))
(.seq
(.reg ⟨[.call 7 [] (.id 24) false false [(.mm 3 0 14),(.mm 1 0 7)]],[],[(2,.m [(.fld (.sz (.s 7) 10) 0),(.fld (.sz (.s 7) 10) 1),(.fld (.sz (.s 7) 10) 2),(.fld (.sz (.s 7) 10) 3),(.fld (.sz (.s 7) 10) 4),(.fld (.sz (.s 7) 10) 5),(.fld (.sz (.s 7) 10) 6),(.fld (.sz (.s 7) 10) 7),(.fld (.sz (.s 7) 10) 8),(.fld (.sz (.s 7) 10) 9)])]⟩)
.ret)))),
[(2,(.ag 10))]⟩
theorem c8:Z8 Tryz.prog fresh sig [.fz] [] Tryz.f8=some p8:=by kernel_rfl
def p22:Fn:=⟨19,[0,1,2,4,5,6,7,8,26,9,10,11,12,13,57,81,14,82,165],
(.seq
(.reg ⟨[],[],[(2,.m [(.fld (.sz (.s 0) 7) 0),(.fld (.sz (.s 0) 7) 1),(.fld (.sz (.s 0) 7) 2),(.fld (.sz (.s 0) 7) 3),(.fld (.sz (.s 0) 7) 4),(.fld (.sz (.s 0) 7) 5),(.fld (.sz (.s 0) 7) 6)]),(3,.m [(.c (.int .u64 (0))),(.c (.int .i64 (0))),(.c (.int .i64 (0))),(.c (.bool false)),(.c (.int .i64 (0))),(.c (.sl [])),(.c (.sl [])),(.c (.sl [])),(.c (.sl [])),(.c (.sl [])),(.c (.sl [])),(.c (.sl [])),(.c (.sl [])),(.c (.sl []))])]⟩)
(.seq
(.reg ⟨[.call 19 [] (.id 39) false false [(.m 2 0),(.m 2 1)]],[([],(.ag [(.c (.int .u64 (0))),(.c (.int .i64 (0))),(.c (.int .i64 (0))),(.c (.bool false)),(.c (.int .i64 (0))),(.c (.sl [])),(.c (.sl [])),(.c (.sl [])),(.c (.sl [])),(.c (.sl [])),(.fld (.sz (.s 19) 2) 0),(.fld (.sz (.s 19) 2) 1),(.c (.sl [])),(.c (.sl []))]))],[(4,.m [(.c (.int .u64 (0))),(.c (.int .i64 (0))),(.c (.int .i64 (0))),(.c (.bool false)),(.c (.int .i64 (0))),(.c (.sl [])),(.c (.sl [])),(.c (.sl [])),(.c (.sl [])),(.c (.sl [])),(.fld (.sz (.s 19) 2) 0),(.fld (.sz (.s 19) 2) 1),(.c (.sl [])),(.c (.sl []))])]⟩)
(.seq
(.reg ⟨[],[],[(5,.m [(.c (.int .i64 (0))),(.c (.int .i64 (0))),(.c (.int .i64 (0))),(.c (.int .i64 (0))),(.c (.int .i64 (0)))])]⟩)
(.seq
(.reg ⟨[],[],[(6,.v (.c (.int .i64 (0))))]⟩)
(.seq
(.seq
(.reg ⟨[],[],[(7,.v (.c (.int .i64 (0))))]⟩)
(.block 0
 (.loop [0,1,2,3,4,5,6,7]
  (.seq
  (.seq
  (.reg ⟨[],[],[(8,.v (.bin .lss (.s 7) (.len (.m 4 10))))]⟩)
  (.cond (.s 8)
   .skip
   (.exit 0)))
  (.seq
  (.block 1
   (.seq
   (.reg ⟨[.call 20 [] (.id 40) false false [(.mm 2 0 7),(.s 7),(.s 1)]],[],[(9,.v (.ext (.s 20) 0)),(10,.v (.ext (.s 20) 1))]⟩)
   (.seq
   (.reg ⟨[],[],[(11,.v (.bin .add (.bin .add (.c (.int .i64 (1))) (.len (.fld (.idx (.m 4 10) (.s 7) 2) 0))) (.len (.fld (.idx (.m 4 10) (.s 7) 2) 1))))]⟩)
   (.seq
   (.reg ⟨[],[],[(12,.m [(.fld (.ag [(.c (.int .i64 (0))),(.c (.int .i64 (0)))]) 0),(.fld (.ag [(.c (.int .i64 (0))),(.c (.int .i64 (0)))]) 1)])]⟩)
   (.seq
   (.reg ⟨[],[],[(13,.m [(.fld (.ag [(.c (.int .i64 (0))),(.c (.int .i64 (0)))]) 0),(.fld (.ag [(.c (.int .i64 (0))),(.c (.int .i64 (0)))]) 1)])]⟩)
   (.seq
   (.seq
   (.reg ⟨[],[],[(14,.v (.bin .lss (.s 9) (.c (.int .i64 (2)))))]⟩)
   (.cond (.s 14)
    (.seq
    (.reg ⟨[],[([],(.ai (.c (.agg [(.bool true),(.bool true),(.bool true),(.bool true),(.bool true)])) (.bin .sub (.c (.int .i64 (2))) (.s 9)) 5 1 false))],[(12,.m [(.fld (.ag [(.bin .sub (.c (.int .i64 (2))) (.s 9)),(.one (.ai (.mm 5 0 5) (.bin .sub (.c (.int .i64 (2))) (.s 9)) 5 1 false))]) 0),(.fld (.ag [(.bin .sub (.c (.int .i64 (2))) (.s 9)),(.one (.ai (.mm 5 0 5) (.bin .sub (.c (.int .i64 (2))) (.s 9)) 5 1 false))]) 1)])]⟩)
    (.reg ⟨[],[([],(.ai (.c (.agg [(.bool true),(.bool true),(.bool true),(.bool true),(.bool true)])) (.bin .sub (.c (.int .i64 (2))) (.s 9)) 5 1 false))],[(5,.m [(.fld (.aput (.mm 5 0 5) (.bin .sub (.c (.int .i64 (2))) (.s 9)) 5 1 (.bin .add (.ai (.mm 5 0 5) (.bin .sub (.c (.int .i64 (2))) (.s 9)) 5 1 false) (.s 11))) 0),(.fld (.aput (.mm 5 0 5) (.bin .sub (.c (.int .i64 (2))) (.s 9)) 5 1 (.bin .add (.ai (.mm 5 0 5) (.bin .sub (.c (.int .i64 (2))) (.s 9)) 5 1 false) (.s 11))) 1),(.fld (.aput (.mm 5 0 5) (.bin .sub (.c (.int .i64 (2))) (.s 9)) 5 1 (.bin .add (.ai (.mm 5 0 5) (.bin .sub (.c (.int .i64 (2))) (.s 9)) 5 1 false) (.s 11))) 2),(.fld (.aput (.mm 5 0 5) (.bin .sub (.c (.int .i64 (2))) (.s 9)) 5 1 (.bin .add (.ai (.mm 5 0 5) (.bin .sub (.c (.int .i64 (2))) (.s 9)) 5 1 false) (.s 11))) 3),(.fld (.aput (.mm 5 0 5) (.bin .sub (.c (.int .i64 (2))) (.s 9)) 5 1 (.bin .add (.ai (.mm 5 0 5) (.bin .sub (.c (.int .i64 (2))) (.s 9)) 5 1 false) (.s 11))) 4)])]⟩))
    (.reg ⟨[],[],[(6,.v (.bin .add (.s 6) (.s 11)))]⟩)))
   (.seq
   (.seq
   (.reg ⟨[.lt 21 [] (.bin .gtr (.s 9) (.c (.int .i64 (0))))],[],[(15,.v (.ite (.s 21) (.s 1) (.c (.bool false))))]⟩)
   (.cond (.s 15)
    (.seq
    (.reg ⟨[],[],[(16,.v (.c (.int .i64 (3))))]⟩)
    (.seq
    (.seq
    (.reg ⟨[],[],[(17,.v (.s 10))]⟩)
    (.cond (.s 17)
     (.reg ⟨[],[],[(16,.v (.c (.int .i64 (4))))]⟩)
     .skip))
    (.seq
    (.reg ⟨[],[([],(.ai (.c (.agg [(.bool true),(.bool true),(.bool true),(.bool true),(.bool true)])) (.s 16) 5 1 false))],[(13,.m [(.fld (.ag [(.one (.s 16)),(.one (.ai (.mm 5 0 5) (.s 16) 5 1 false))]) 0),(.fld (.ag [(.one (.s 16)),(.one (.ai (.mm 5 0 5) (.s 16) 5 1 false))]) 1)])]⟩)
    (.reg ⟨[],[([],(.ai (.c (.agg [(.bool true),(.bool true),(.bool true),(.bool true),(.bool true)])) (.s 16) 5 1 false))],[(5,.m [(.fld (.aput (.mm 5 0 5) (.s 16) 5 1 (.bin .add (.ai (.mm 5 0 5) (.s 16) 5 1 false) (.s 11))) 0),(.fld (.aput (.mm 5 0 5) (.s 16) 5 1 (.bin .add (.ai (.mm 5 0 5) (.s 16) 5 1 false) (.s 11))) 1),(.fld (.aput (.mm 5 0 5) (.s 16) 5 1 (.bin .add (.ai (.mm 5 0 5) (.s 16) 5 1 false) (.s 11))) 2),(.fld (.aput (.mm 5 0 5) (.s 16) 5 1 (.bin .add (.ai (.mm 5 0 5) (.s 16) 5 1 false) (.s 11))) 3),(.fld (.aput (.mm 5 0 5) (.s 16) 5 1 (.bin .add (.ai (.mm 5 0 5) (.s 16) 5 1 false) (.s 11))) 4)])]⟩))))
    .skip))
   (.seq
   (.reg ⟨[],[],[(4,.m [(.m 4 0),(.m 4 1),(.m 4 2),(.m 4 3),(.m 4 4),(.m 4 5),(.m 4 6),(.m 4 7),(.m 4 8),(.m 4 9),(.m 4 10),(.m 4 11),(.app (.m 4 12) (.lit [(.mm 12 0 2)]) 2),(.m 4 13)])]⟩)
   (.reg ⟨[],[],[(4,.m [(.m 4 0),(.m 4 1),(.m 4 2),(.m 4 3),(.m 4 4),(.m 4 5),(.m 4 6),(.m 4 7),(.m 4 8),(.m 4 9),(.m 4 10),(.m 4 11),(.m 4 12),(.app (.m 4 13) (.lit [(.mm 13 0 2)]) 2)])]⟩)))))))))
  (.reg ⟨[],[],[(7,.v (.bin .add (.s 7) (.c (.int .i64 (1)))))]⟩))))))
(.seq
(.reg ⟨[.call 22 [] (.id 25) false false [(.m 2 6),(.c (.int .i64 (2)))]],[([],(.ai (.c (.agg [(.bool true),(.bool true),(.bool true),(.bool true),(.bool true)])) (.c (.int .i64 (1))) 5 1 false)),([],(.ai (.c (.agg [(.bool true),(.bool true),(.bool true),(.bool true),(.bool true)])) (.c (.int .i64 (2))) 5 1 false)),([],(.ai (.c (.agg [(.bool true),(.bool true),(.bool true),(.bool true),(.bool true)])) (.c (.int .i64 (3))) 5 1 false)),([],(.ai (.c (.agg [(.bool true),(.bool true),(.bool true),(.bool true),(.bool true)])) (.c (.int .i64 (4))) 5 1 false)),([],(.ag [(.c (.int .u64 (0))),(.c (.int .i64 (0))),(.one (.s 22)),(.one (.s 1)),(.c (.int .i64 (0))),(.mk (.int .u64 (0)) (.ai (.mm 5 0 5) (.c (.int .i64 (1))) 5 1 false)),(.mk (.int .u64 (0)) (.ai (.mm 5 0 5) (.c (.int .i64 (2))) 5 1 false)),(.mk (.int .u64 (0)) (.ai (.mm 5 0 5) (.c (.int .i64 (3))) 5 1 false)),(.mk (.int .u64 (0)) (.ai (.mm 5 0 5) (.c (.int .i64 (4))) 5 1 false)),(.c (.sl []))]))],[(4,.m [(.c (.int .u64 (0))),(.c (.int .i64 (0))),(.one (.s 22)),(.one (.s 1)),(.c (.int .i64 (0))),(.mk (.int .u64 (0)) (.ai (.mm 5 0 5) (.c (.int .i64 (1))) 5 1 false)),(.mk (.int .u64 (0)) (.ai (.mm 5 0 5) (.c (.int .i64 (2))) 5 1 false)),(.mk (.int .u64 (0)) (.ai (.mm 5 0 5) (.c (.int .i64 (3))) 5 1 false)),(.mk (.int .u64 (0)) (.ai (.mm 5 0 5) (.c (.int .i64 (4))) 5 1 false)),(.c (.sl [])),(.m 4 10),(.m 4 11),(.m 4 12),(.m 4 13)])]⟩)
(.seq
(.reg ⟨[.call 23 [] (.id 25) false false [(.m 2 4),(.c (.int .i64 (12)))]],[([],(.ai (.c (.agg [(.bool true),(.bool true),(.bool true),(.bool true),(.bool true)])) (.c (.int .i64 (1))) 5 1 false)),([],(.ai (.c (.agg [(.bool true),(.bool true),(.bool true),(.bool true),(.bool true)])) (.c (.int .i64 (2))) 5 1 false)),([],(.ai (.c (.agg [(.bool true),(.bool true),(.bool true),(.bool true),(.bool true)])) (.c (.int .i64 (3))) 5 1 false)),([],(.ai (.c (.agg [(.bool true),(.bool true),(.bool true),(.bool true),(.bool true)])) (.c (.int .i64 (4))) 5 1 false))],[(4,.m [(.m 4 0),(.bin .add (.mx (.bin .add (.bin .add (.ai (.mm 5 0 5) (.c (.int .i64 (1))) 5 1 false) (.ai (.mm 5 0 5) (.c (.int .i64 (2))) 5 1 false)) (.s 6)) (.bin .add (.ai (.mm 5 0 5) (.c (.int .i64 (3))) 5 1 false) (.ai (.mm 5 0 5) (.c (.int .i64 (4))) 5 1 false))) (.s 23)),(.m 4 2),(.m 4 3),(.m 4 4),(.m 4 5),(.m 4 6),(.m 4 7),(.m 4 8),(.m 4 9),(.m 4 10),(.m 4 11),(.m 4 12),(.m 4 13)])]⟩)
(.seq
(.reg ⟨[],[],[(4,.m [(.bin .add (.c (.int .u64 (1))) (.bin .rem (.m 2 3) (.bin .sub (.c (.int .u64 (9223372036854775808))) (.bin .mul (.c (.int .u64 (2))) (.conv .u64 (.m 4 1)))))),(.m 4 1),(.m 4 2),(.m 4 3),(.m 4 4),(.m 4 5),(.m 4 6),(.m 4 7),(.m 4 8),(.m 4 9),(.m 4 10),(.m 4 11),(.m 4 12),(.m 4 13)])]⟩)
(.seq
(.reg ⟨[],[([],(.ai (.c (.agg [(.bool true),(.bool true),(.bool true),(.bool true),(.bool true)])) (.c (.int .i64 (1))) 5 1 false))],[(4,.m [(.m 4 0),(.m 4 1),(.m 4 2),(.m 4 3),(.one (.ai (.mm 5 0 5) (.c (.int .i64 (1))) 5 1 false)),(.m 4 5),(.m 4 6),(.m 4 7),(.m 4 8),(.m 4 9),(.m 4 10),(.m 4 11),(.m 4 12),(.m 4 13)])]⟩)
(.seq
(.seq
(.reg ⟨[.lt 24 [] (.s 1)],[([(24,true)],(.ai (.c (.agg [(.bool true),(.bool true),(.bool true),(.bool true),(.bool true)])) (.c (.int .i64 (1))) 5 1 false)),([(24,true)],(.bin .gtr (.ai (.mm 5 0 5) (.c (.int .i64 (1))) 5 1 false) (.c (.int .i64 (0)))))],[(18,.v (.ite (.s 24) (.bin .gtr (.ai (.mm 5 0 5) (.c (.int .i64 (1))) 5 1 false) (.c (.int .i64 (0)))) (.c (.bool false))))]⟩)
(.cond (.s 18)
 (.reg ⟨[.call 25 [] (.id 25) false false [(.m 2 5),(.ai (.mm 5 0 5) (.c (.int .i64 (1))) 5 1 false)]],[([],(.ai (.c (.agg [(.bool true),(.bool true),(.bool true),(.bool true),(.bool true)])) (.c (.int .i64 (1))) 5 1 false))],[(4,.m [(.m 4 0),(.m 4 1),(.m 4 2),(.m 4 3),(.one (.s 25)),(.m 4 5),(.m 4 6),(.m 4 7),(.m 4 8),(.m 4 9),(.m 4 10),(.m 4 11),(.m 4 12),(.m 4 13)])]⟩)
 .skip))
(.seq
(.reg ⟨[],[],[(3,.m [(.fld (.mm 4 0 14) 0),(.fld (.mm 4 0 14) 1),(.fld (.mm 4 0 14) 2),(.fld (.mm 4 0 14) 3),(.fld (.mm 4 0 14) 4),(.fld (.mm 4 0 14) 5),(.fld (.mm 4 0 14) 6),(.fld (.mm 4 0 14) 7),(.fld (.mm 4 0 14) 8),(.fld (.mm 4 0 14) 9),(.fld (.mm 4 0 14) 10),(.fld (.mm 4 0 14) 11),(.fld (.mm 4 0 14) 12),(.fld (.mm 4 0 14) 13)])]⟩)
.ret))))))))))),
[(3,(.ag 14))]⟩
theorem c22:Z8 Tryz.prog fresh sig [.fz,.fz] [] Tryz.f22=some p22:=by kernel_rfl
def p23:Fn:=⟨3,[0,1,2],
(.seq
(.reg ⟨[],[],[(1,.m [(.fld (.sz (.s 0) 7) 0),(.fld (.sz (.s 0) 7) 1),(.fld (.sz (.s 0) 7) 2),(.fld (.sz (.s 0) 7) 3),(.fld (.sz (.s 0) 7) 4),(.fld (.sz (.s 0) 7) 5),(.fld (.sz (.s 0) 7) 6)]),(2,.m [(.c (.int .u64 (0))),(.c (.int .i64 (0))),(.c (.int .i64 (0))),(.c (.bool false)),(.c (.int .i64 (0))),(.c (.sl [])),(.c (.sl [])),(.c (.sl [])),(.c (.sl [])),(.c (.sl []))])]⟩)
(.seq
(.reg ⟨[.call 3 [] (.id 22) false false [(.mm 1 0 7),(.c (.bool false))],.call 4 [] (.id 24) false false [(.s 3),(.mm 1 0 7)]],[],[(2,.m [(.fld (.sz (.s 4) 10) 0),(.fld (.sz (.s 4) 10) 1),(.fld (.sz (.s 4) 10) 2),(.fld (.sz (.s 4) 10) 3),(.fld (.sz (.s 4) 10) 4),(.fld (.sz (.s 4) 10) 5),(.fld (.sz (.s 4) 10) 6),(.fld (.sz (.s 4) 10) 7),(.fld (.sz (.s 4) 10) 8),(.fld (.sz (.s 4) 10) 9)])]⟩)
.ret)),
[(2,(.ag 10))]⟩
theorem c23:Z8 Tryz.prog fresh sig [.fz] [] Tryz.f23=some p23:=by kernel_rfl
def p24:Fn:=⟨17,[0,1,2,3,4,5,16,6,31,59,83,7,8,9,125,10,134],
(.seq
(.reg ⟨[],[],[(2,.m [(.fld (.sz (.s 0) 14) 0),(.fld (.sz (.s 0) 14) 1),(.fld (.sz (.s 0) 14) 2),(.fld (.sz (.s 0) 14) 3),(.fld (.sz (.s 0) 14) 4),(.fld (.sz (.s 0) 14) 5),(.fld (.sz (.s 0) 14) 6),(.fld (.sz (.s 0) 14) 7),(.fld (.sz (.s 0) 14) 8),(.fld (.sz (.s 0) 14) 9),(.fld (.sz (.s 0) 14) 10),(.fld (.sz (.s 0) 14) 11),(.fld (.sz (.s 0) 14) 12),(.fld (.sz (.s 0) 14) 13)]),(3,.m [(.fld (.sz (.s 1) 7) 0),(.fld (.sz (.s 1) 7) 1),(.fld (.sz (.s 1) 7) 2),(.fld (.sz (.s 1) 7) 3),(.fld (.sz (.s 1) 7) 4),(.fld (.sz (.s 1) 7) 5),(.fld (.sz (.s 1) 7) 6)]),(4,.m [(.c (.int .u64 (0))),(.c (.int .i64 (0))),(.c (.int .i64 (0))),(.c (.bool false)),(.c (.int .i64 (0))),(.c (.sl [])),(.c (.sl [])),(.c (.sl [])),(.c (.sl [])),(.c (.sl []))])]⟩)
(.seq
(.seq
(.reg ⟨[],[],[(5,.v (.c (.int .i64 (0))))]⟩)
(.block 0
 (.loop [0,1,2,3,4,5]
  (.seq
  (.seq
  (.reg ⟨[],[],[(6,.v (.bin .lss (.s 5) (.len (.m 2 10))))]⟩)
  (.cond (.s 6)
   .skip
   (.exit 0)))
  (.seq
  (.block 1
   (.seq
   (.reg ⟨[],[],[(7,.m [(.fld (.flds (.idx (.m 2 10) (.s 5) 2) 0 2) 0),(.fld (.flds (.idx (.m 2 10) (.s 5) 2) 0 2) 1)])]⟩)
   (.seq
   (.seq
   (.reg ⟨[],[],[(8,.v (.bin .gtr (.fld (.idx (.m 2 12) (.s 5) 2) 0) (.c (.int .i64 (0)))))]⟩)
   (.cond (.s 8)
    (.reg ⟨[.call 17 [] (.id 41) false false [(.mm 2 0 14),(.flds (.idx (.m 2 12) (.s 5) 2) 0 2),(.mm 7 0 2),(.bin .add (.m 3 4) (.s 5))]],[],[(2,.m [(.fld (.sz (.s 17) 14) 0),(.fld (.sz (.s 17) 14) 1),(.fld (.sz (.s 17) 14) 2),(.fld (.sz (.s 17) 14) 3),(.fld (.sz (.s 17) 14) 4),(.fld (.sz (.s 17) 14) 5),(.fld (.sz (.s 17) 14) 6),(.fld (.sz (.s 17) 14) 7),(.fld (.sz (.s 17) 14) 8),(.fld (.sz (.s 17) 14) 9),(.fld (.sz (.s 17) 14) 10),(.fld (.sz (.s 17) 14) 11),(.fld (.sz (.s 17) 14) 12),(.fld (.sz (.s 17) 14) 13)])]⟩)
    .skip))
   (.seq
   (.seq
   (.reg ⟨[.lt 18 [] (.bin .gtr (.fld (.idx (.m 2 13) (.s 5) 2) 0) (.c (.int .i64 (0))))],[([(18,true)],(.bin .eql (.fld (.idx (.m 2 12) (.s 5) 2) 0) (.c (.int .i64 (0)))))],[(9,.v (.ite (.s 18) (.bin .eql (.fld (.idx (.m 2 12) (.s 5) 2) 0) (.c (.int .i64 (0)))) (.c (.bool false))))]⟩)
   (.cond (.s 9)
    (.reg ⟨[.call 19 [] (.id 41) false false [(.mm 2 0 14),(.flds (.idx (.m 2 13) (.s 5) 2) 0 2),(.mm 7 0 2),(.c (.int .i64 (0)))]],[],[(2,.m [(.fld (.sz (.s 19) 14) 0),(.fld (.sz (.s 19) 14) 1),(.fld (.sz (.s 19) 14) 2),(.fld (.sz (.s 19) 14) 3),(.fld (.sz (.s 19) 14) 4),(.fld (.sz (.s 19) 14) 5),(.fld (.sz (.s 19) 14) 6),(.fld (.sz (.s 19) 14) 7),(.fld (.sz (.s 19) 14) 8),(.fld (.sz (.s 19) 14) 9),(.fld (.sz (.s 19) 14) 10),(.fld (.sz (.s 19) 14) 11),(.fld (.sz (.s 19) 14) 12),(.fld (.sz (.s 19) 14) 13)])]⟩)
    .skip))
   (.seq
   (.reg ⟨[.lt 20 [] (.bin .gtr (.fld (.idx (.m 2 13) (.s 5) 2) 0) (.c (.int .i64 (0))))],[([(20,true)],(.bin .gtr (.fld (.idx (.m 2 12) (.s 5) 2) 0) (.c (.int .i64 (0)))))],[(10,.v (.ite (.s 20) (.bin .gtr (.fld (.idx (.m 2 12) (.s 5) 2) 0) (.c (.int .i64 (0)))) (.c (.bool false))))]⟩)
   (.cond (.s 10)
    (.seq
    (.reg ⟨[.call 21 [] (.id 7) false false [(.mm 2 0 10),(.fld (.idx (.m 2 13) (.s 5) 2) 0)]],[],[(11,.v (.app (.c (.sl [])) (.s 21) 1))]⟩)
    (.seq
    (.reg ⟨[.call 22 [] (.id 42) false false [(.mm 2 0 14),(.flds (.idx (.m 2 12) (.s 5) 2) 0 2)]],[([],(.idx (.s 11) (.fld (.idx (.m 2 13) (.s 5) 2) 1) 1))],[(11,.v (.upd (.s 11) (.fld (.idx (.m 2 13) (.s 5) 2) 1) 0 (.one (.s 22))))]⟩)
    (.reg ⟨[.call 23 [] (.id 6) false false [(.mm 2 0 10),(.fld (.idx (.m 2 13) (.s 5) 2) 0),(.s 11)]],[],[(2,.m [(.fld (.sz (.s 23) 10) 0),(.fld (.sz (.s 23) 10) 1),(.fld (.sz (.s 23) 10) 2),(.fld (.sz (.s 23) 10) 3),(.fld (.sz (.s 23) 10) 4),(.fld (.sz (.s 23) 10) 5),(.fld (.sz (.s 23) 10) 6),(.fld (.sz (.s 23) 10) 7),(.fld (.sz (.s 23) 10) 8),(.fld (.sz (.s 23) 10) 9),(.m 2 10),(.m 2 11),(.m 2 12),(.m 2 13)])]⟩)))
    .skip))))))
  (.reg ⟨[],[],[(5,.v (.bin .add (.s 5) (.c (.int .i64 (1)))))]⟩))))))
(.seq
(.reg ⟨[],[],[(12,.v (.c (.sl [])))]⟩)
(.seq
(.seq
(.reg ⟨[],[],[(13,.v (.c (.int .i64 (0))))]⟩)
(.block 2
 (.loop [0,1,2,3,4,5,6,12,13]
  (.seq
  (.seq
  (.reg ⟨[],[],[(14,.v (.bin .lss (.s 13) (.len (.m 2 11))))]⟩)
  (.cond (.s 14)
   .skip
   (.exit 2)))
  (.seq
  (.block 3
   (.seq
   (.reg ⟨[],[],[(15,.v (.c (.int .u64 (0))))]⟩)
   (.seq
   (.seq
   (.reg ⟨[],[],[(16,.v (.bin .geq (.fld (.idx (.m 2 11) (.s 13) 1) 0) (.c (.int .i64 (0)))))]⟩)
   (.cond (.s 16)
    (.reg ⟨[.call 24 [] (.id 42) false false [(.mm 2 0 14),(.flds (.idx (.m 2 12) (.fld (.idx (.m 2 11) (.s 13) 1) 0) 2) 0 2)]],[],[(15,.v (.s 24))]⟩)
    .skip))
   (.reg ⟨[],[],[(12,.v (.app (.s 12) (.lit [(.one (.s 15))]) 1))]⟩))))
  (.reg ⟨[],[],[(13,.v (.bin .add (.s 13) (.c (.int .i64 (1)))))]⟩))))))
(.seq
(.reg ⟨[],[],[(2,.m [(.m 2 0),(.m 2 1),(.m 2 2),(.m 2 3),(.m 2 4),(.m 2 5),(.m 2 6),(.m 2 7),(.m 2 8),(.one (.s 12)),(.m 2 10),(.m 2 11),(.m 2 12),(.m 2 13)])]⟩)
(.seq
(.reg ⟨[],[],[(4,.m [(.fld (.mm 2 0 10) 0),(.fld (.mm 2 0 10) 1),(.fld (.mm 2 0 10) 2),(.fld (.mm 2 0 10) 3),(.fld (.mm 2 0 10) 4),(.fld (.mm 2 0 10) 5),(.fld (.mm 2 0 10) 6),(.fld (.mm 2 0 10) 7),(.fld (.mm 2 0 10) 8),(.fld (.mm 2 0 10) 9)])]⟩)
.ret)))))),
[(4,(.ag 10))]⟩
theorem c24:Z8 Tryz.prog fresh sig [.fz,.fz] [] Tryz.f24=some p24:=by kernel_rfl
end Vm
end
section
namespace Vm
open Go Go.Proofs
set_option maxRecDepth 100000
set_option maxHeartbeats 1000000
structure Pl where
 part:Int
 at_:Int
 deriving DecidableEq,Inhabited
def plV(p:Pl):V:= .agg [vi p.part,vi p.at_]
@[simp] theorem Z2l(p:Pl):(plV p).cells= [vi p.part,vi p.at_]:=rfl
@[simp] theorem Z3f(p:Pl):Tn (plV p) 0 2=some (plV p):=rfl
@[simp] theorem Z1R(p:Pl):fldV (plV p) 0=some (vi p.part):=rfl
@[simp] theorem Z1W(p:Pl):fldV (plV p) 1=some (vi p.at_):=rfl
@[simp] theorem Z4s(p:Pl):szV (plV p) 2=some (plV p):=rfl
@[simp] theorem Z1w(l:List Pl):ZR 2 (l.map plV)=true:=X7 fun _=>rfl
structure Rw where
 nodes:List Nd
 roots:List Int
 cls:List Int
 base:Int
 slack:Int
 scan:Int
 to:Int
 deriving Inhabited
def rwV(x:Rw):V:= .agg [.sl (x.nodes.map ndV),.sl (x.roots.map vi),.sl (x.cls.map vi),vu x.base,vi x.slack,vi x.scan,vi x.to]
@[simp] theorem Z4T(x:Rw):szV (rwV x) 7=some (rwV x):=rfl
@[simp] theorem Z22(x:Rw):(rwV x).cells= [.sl (x.nodes.map ndV),.sl (x.roots.map vi),.sl (x.cls.map vi),vu x.base,vi x.slack,vi x.scan,vi x.to]:=rfl
@[simp] theorem Z2f(x:Rw):fldV (rwV x) 0=some (.sl (x.nodes.map ndV)):=rfl
@[simp] theorem Z1I(x:Rw):fldV (rwV x) 1=some (.sl (x.roots.map vi)):=rfl
@[simp] theorem Z2D(x:Rw):fldV (rwV x) 2=some (.sl (x.cls.map vi)):=rfl
@[simp] theorem Z2v(x:Rw):fldV (rwV x) 3=some (vu x.base):=rfl
@[simp] theorem Z3j(x:Rw):fldV (rwV x) 4=some (vi x.slack):=rfl
@[simp] theorem Z2A(x:Rw):fldV (rwV x) 5=some (vi x.scan):=rfl
@[simp] theorem Z1O(x:Rw):fldV (rwV x) 6=some (vi x.to):=rfl
structure Rw.ok (x:Rw):Prop where
 ptrs: ∀n∈x.nodes,∀p∈n.ptrs,Fit p
 data: ∀n∈x.nodes,∀p∈n.data,U64 p
 roots: ∀p∈x.roots,Fit p
 cls: ∀p∈x.cls,Fit p
 base:U64 x.base
 slack:Fit x.slack
 scan:Fit x.scan
 to:Fit x.to
def rawC(x:Rw)(i:Nat):Int:=if x.cls.length=0 then i else(x.cls[i%x.cls.length]?).getD 0
def clsK(x:Rw)(i:Nat)(cycle:Bool):Int:=if pick (rawC x i) 3=2∧cycle=false then 1 else pick (rawC x i) 3
def clsF(x:Rw)(i:Nat):Bool:=decide (pick ((rawC x i).tdiv 3) 2=1)
theorem Ut(x:Rw)(i:Nat)(cycle:Bool):clsK x i cycle=0∨clsK x i cycle=1∨(clsK x i cycle=2∧cycle=true):=by
 have:=YW (c:=rawC x i) (n:=3) (by omega)
 unfold clsK
 split
 ·exact .inr (.inl rfl)
 ·rename_i h
  cases cycle
  ·simp at h;omega
  ·simp;omega
theorem jo{x:Rw}(hx:x.ok){i:Nat}(hi:i≤1000){cycle:Bool}:VC Tryz.prog 40 false [rwV x,vi i,.bool cycle] (.tup [vi (clsK x i cycle),.bool (clsF x i)]):=by
 refine Z3 Tryz.func40 follows (by kernel_rfl) c40 rfl ?_
 have hc:Fit (rawC x i):=by
  unfold rawC
  split
  ·exact⟨by omega,by omega⟩
  ·rename_i h
   have:i%x.cls.length<x.cls.length:=Nat.mod_lt _ (by omega)
   rw[List.getElem?_eq_getElem this]
   exact hx.cls _ (List.getElem_mem this)
 have hp3:=Yx (c:=rawC x i) (n:=3) hc (by omega)
 have hd:Fit ((rawC x i).tdiv 3):=by
  obtain⟨h1,h2⟩:=hc
  unfold Fit
  rw[Int.tdiv_eq_ediv]
  have:Int.sign 3=1:=rfl
  split<;>omega
 have hwd:=Z1 _ hd.1 hd.2
 have hp2:=Yx (c:=(rawC x i).tdiv 3) (n:=2) hd (by omega)
 have fin: ∀(b:Bool),(decide (pick ((rawC x i).tdiv 3) 2=1)=b)→clsF x i=b:=fun b h=>h
 by_cases hl:x.cls.length=0
 ·have hr:rawC x i=i:=by simp[rawC,hl]
  rw[hr]at hp3 hp2 hwd
  rw[Int.tdiv_eq_ediv_of_nonneg (by omega)]at hp2 hwd
  simp[p40,hl]
  refine Z0 hp3 (by simp) ?_
  by_cases h2:pick (i:Int) 3=2
  ·cases cycle
   ·simp[h2,hwd]
    refine Z0 hp2 (by simp) ?_
    simp[clsK,clsF,hr,h2]
   ·simp[h2,hwd]
    refine Z0 hp2 (by simp) ?_
    simp[clsK,clsF,hr,h2]
  ·simp[h2,hwd]
   refine Z0 hp2 (by simp) ?_
   simp[clsK,clsF,hr,h2]
 ·have hlt:i%x.cls.length<x.cls.length:=Nat.mod_lt _ (by omega)
  have hg:x.cls[i%x.cls.length]? =some x.cls[i%x.cls.length]:=List.getElem?_eq_getElem hlt
  have hr:rawC x i=x.cls[i%x.cls.length]:=by simp[rawC,hl,hg]
  have hm:(i:Int).tmod (x.cls.length:Int)=((i%x.cls.length:Nat):Int):=by
   rw[Int.tmod_eq_emod_of_nonneg (by omega)];rfl
  rw[hr]at hp3 hp2 hwd
  have h0:0<x.cls.length:=by omega
  have hne:x.cls≠ []:=fun e=>by rw[e]at h0;simp at h0
  have hm':((i:Int) % (x.cls.length:Int))=((i%x.cls.length:Nat):Int):=rfl
  generalize hcc:x.cls[i%x.cls.length]=c at*
  generalize hii:i%x.cls.length=j at*
  simp[p40,h0,hne,hm,hlt,hcc]
  refine Z0 hp3 (by simp) ?_
  by_cases h2:pick c 3=2
  ·cases cycle
   ·simp[h2,hwd]
    refine Z0 hp2 (by simp) ?_
    simp[clsK,clsF,hr,h2]
   ·simp[h2,hwd]
    refine Z0 hp2 (by simp) ?_
    simp[clsK,clsF,hr,h2]
  ·simp[h2,hwd]
   refine Z0 hp2 (by simp) ?_
   simp[clsK,clsF,hr,h2]
def sizN(n:Nd):Nat:=1+n.ptrs.length+n.data.length
structure St8 where
 n1:Nat
 n2:Nat
 n3:Nat
 n4:Nat
 wt:Nat
 here:List Pl
 old:List Pl
def ZW(x:Rw)(cycle:Bool)(sz:Nat)(i:Nat)(s:St8):St8:=
 let k:=clsK x i cycle
 let far:=clsF x i
 let o:Bool:=decide (0<k)&&cycle
 {n1:=if k=1 then s.n1+sz else s.n1
  n2:=if k=0 then s.n2+sz else s.n2
  n3:=if o&& !far then s.n3+sz else s.n3
  n4:=if o&&far then s.n4+sz else s.n4
  wt:=if k=2 then s.wt+sz else s.wt
  here:=s.here++ [if k=0 then⟨2,s.n2⟩else if k=1 then⟨1,s.n1⟩else⟨0,0⟩]
  old:=s.old++ [if o then(if far then⟨4,s.n4⟩else⟨3,s.n3⟩)else⟨0,0⟩]}
def stN(x:Rw)(cycle:Bool)(g:Gr):Nat→St8
 |0=>⟨0,0,0,0,0,[],[]⟩
 |i+1=>ZW x cycle (sizN ((g.nodes[i]?).getD default)) i (stN x cycle g i)
theorem Q0{x:Rw}{cycle:Bool}{sz i:Nat}(hs:sz≤9)(s:St8)(h1:s.n1+s.n2+s.wt≤9*i)(h2:s.n3+s.n4≤9*i)(h3:s.here.length=i)(h4:s.old.length=i):
  (ZW x cycle sz i s).n1+(ZW x cycle sz i s).n2+(ZW x cycle sz i s).wt≤9*(i+1)∧(ZW x cycle sz i s).n3+(ZW x cycle sz i s).n4≤9*(i+1)∧(ZW x cycle sz i s).here.length=i+1∧(ZW x cycle sz i s).old.length=i+1:=by
 rcases Ut x i cycle with hk|hk| ⟨hk,rfl⟩
 ·simp[ZW,hk,h3,h4];omega
 ·cases cycle<;>cases hf:clsF x i<;>simp[ZW,hk,hf,h3,h4]<;>omega
 ·cases hf:clsF x i<;>simp[ZW,hk,hf,h3,h4]<;>omega
theorem U6{x:Rw}{cycle:Bool}{g:Gr}(hg: ∀n∈g.nodes,sizN n≤9): ∀i,i≤g.nodes.length→(stN x cycle g i).n1+(stN x cycle g i).n2+(stN x cycle g i).wt≤9*i∧(stN x cycle g i).n3+(stN x cycle g i).n4≤9*i∧(stN x cycle g i).here.length=i∧(stN x cycle g i).old.length=i
 |0,_=>by simp[stN]
 |i+1,hi=>by
  obtain⟨h1,h2,h3,h4⟩:=U6 (x:=x) (cycle:=cycle) hg i (by omega)
  have hn:=hg _ (List.getElem_mem (show i<g.nodes.length by omega))
  simp only[stN,List.getElem?_eq_getElem (show i<g.nodes.length by omega),Option.getD_some]
  exact Q0 hn _ h1 h2 h3 h4
structure Bt where
 h:Hp
 g:Gr
 here:List Pl
 old:List Pl
def btC(b:Bt):List V:= [vu b.h.base,vi b.h.cap,vi b.h.to,.bool b.h.cycle,vi b.h.scan,.sl (b.h.low.map vu),.sl (b.h.high.map vu),.sl (b.h.old.map vu),.sl (b.h.far.map vu),.sl (b.h.roots.map vu),.sl (b.g.nodes.map ndV),.sl (b.g.roots.map vi),.sl (b.here.map plV),.sl (b.old.map plV)]
def btV(b:Bt):V:= .agg [vu b.h.base,vi b.h.cap,vi b.h.to,.bool b.h.cycle,vi b.h.scan,.sl (b.h.low.map vu),.sl (b.h.high.map vu),.sl (b.h.old.map vu),.sl (b.h.far.map vu),.sl (b.h.roots.map vu),.sl (b.g.nodes.map ndV),.sl (b.g.roots.map vi),.sl (b.here.map plV),.sl (b.old.map plV)]
def XU(x:Rw)(cycle:Bool):Bt:=
 let g:=mkG x.nodes x.roots
 let s:=stN x cycle g g.nodes.length
 let cap:Int:=max ((s.n1:Int)+s.n2+s.wt) ((s.n3:Int)+s.n4)+pick x.slack 12
 ⟨⟨1+x.base% (9223372036854775808-2*cap),cap,pick x.to 2,cycle,if cycle=true∧0<s.n1 then pick x.scan s.n1 else s.n1,List.replicate s.n1 0,List.replicate s.n2 0,List.replicate s.n3 0,List.replicate s.n4 0,[]⟩,g,s.here,s.old⟩
theorem KG{x:Rw}(hx:x.ok){cycle:Bool}:VC Tryz.prog 22 false [rwV x,.bool cycle] (btV (XU x cycle)):=by
 refine Z3 Tryz.func22 follows (by kernel_rfl) c22 rfl ?_
 simp[p22]
 refine Z0 (jS hx.ptrs hx.roots) (by simp) ?_
 obtain⟨hb1,hb2,hb3⟩:=SD x.nodes x.roots
 have hb5:=VE x.nodes x.roots
 unfold XU
 generalize mkG x.nodes x.roots=g at*
 have hsz: ∀n∈g.nodes,sizN n≤9:=fun n hn=>by have:=hb3 n hn;unfold sizN;omega
 simp
 refine ZX 7 g.nodes.length (fun i=> [(4,.m [.int .u64 0,.int .i64 0,.int .i64 0,.bool false,.int .i64 0,.sl [],.sl [],.sl [],.sl [],.sl [],.sl (g.nodes.map ndV),.sl (g.roots.map vi),.sl ((stN x cycle g i).here.map plV),.sl ((stN x cycle g i).old.map plV)]),
  (5,.m [vi 0,vi (stN x cycle g i).n1,vi (stN x cycle g i).n2,vi (stN x cycle g i).n3,vi (stN x cycle g i).n4]),(6,.v (vi (stN x cycle g i).wt)),(7,.v (vi i))]) (fun _=>True) (by simp[stN]) (fun i=>by simp) trivial ?_
 rintro i hi-
 have hw:=Z1 ((i:Int)+1) (by omega) (by omega)
 obtain⟨s1,s2,s3,s4⟩:=U6 (x:=x) (cycle:=cycle) hsz i hi
 by_cases h:i<g.nodes.length
 ·have hn:g.nodes[i]? =some g.nodes[i]:=List.getElem?_eq_getElem h
  have hz:=hsz _ (List.getElem_mem h)
  simp only[stN,hn,Option.getD_some]
  generalize stN x cycle g i=s at*
  generalize g.nodes[i]=n at*
  have hc:=jo hx (i:=i) (by omega) (cycle:=cycle)
  have hkr:=Ut x i cycle
  have w1:=Z1 (1+(n.ptrs.length:Int)) (by unfold sizN at hz;omega) (by unfold sizN at hz;omega)
  have w2:=Z1 (1+(n.ptrs.length:Int)+n.data.length) (by unfold sizN at hz;omega) (by unfold sizN at hz;omega)
  have e2:(1+(n.ptrs.length:Int)+n.data.length)=(sizN n:Nat):=by unfold sizN;omega
  rw[e2]at w2
  simp[h]
  refine Z0 hc (by simp) ?_
  generalize hsz':sizN n=sz at*
  unfold ZW
  generalize clsF x i=fr at*
  generalize clsK x i cycle=k at*
  have u1:=Z1 ((s.n1:Int)+sz) (by omega) (by omega)
  have u2:=Z1 ((s.n2:Int)+sz) (by omega) (by omega)
  have u3:=Z1 ((s.n3:Int)+sz) (by omega) (by omega)
  have u4:=Z1 ((s.n4:Int)+sz) (by omega) (by omega)
  have u5:=Z1 ((s.wt:Int)+sz) (by omega) (by omega)
  have l1:s.here.length+1≤lim:=by simp[lim];omega
  have l2:s.old.length+1≤lim:=by simp[lim];omega
  rcases hkr with rfl|rfl| ⟨rfl,rfl⟩
  ·cases cycle<;>simp[hn,Zh hn,w1,e2,w2,aiV,S6,setCells,Z1,u1,u2,u3,u4,u5,l1,l2,plV,hw]
  ·cases cycle
   ·simp[hn,Zh hn,w1,e2,w2,aiV,S6,setCells,Z1,u1,u2,u3,u4,u5,l1,l2,plV,hw]
   ·cases fr<;>simp[hn,Zh hn,w1,e2,w2,aiV,S6,setCells,Z1,u1,u2,u3,u4,u5,l1,l2,plV,hw]
  ·cases fr<;>simp[hn,Zh hn,w1,e2,w2,aiV,S6,setCells,Z1,u1,u2,u3,u4,u5,l1,l2,plV,hw]
 ·have:i=g.nodes.length:=by omega
  subst this
  generalize hs8:stN x cycle g g.nodes.length=s at*
  have hpt:=Yx (c:=x.to) (n:=2) hx.to (by omega)
  have hps:=Yx (c:=x.slack) (n:=12) hx.slack (by omega)
  have hsl:=YW (c:=x.slack) (n:=12) (by omega)
  simp
  refine Z0 hpt (by simp) ?_
  have q1:s.n1≤lim:=by simp[lim];omega
  have q2:s.n2≤lim:=by simp[lim];omega
  have q3:s.n3≤lim:=by simp[lim];omega
  have q4:s.n4≤lim:=by simp[lim];omega
  simp[aiV,q1,q2,q3,q4]
  refine Z0 hps (by simp) ?_
  have w1:=Z1 ((s.n1:Int)+s.n2) (by omega) (by omega)
  have w2:=Z1 ((s.n1:Int)+s.n2+s.wt) (by omega) (by omega)
  have w3:=Z1 ((s.n3:Int)+s.n4) (by omega) (by omega)
  have hmax:(if(s.n1:Int)+s.n2+s.wt< (s.n3:Int)+s.n4 then(s.n3:Int)+s.n4 else(s.n1:Int)+s.n2+s.wt)=max ((s.n1:Int)+s.n2+s.wt) ((s.n3:Int)+s.n4):=by split<;>omega
  obtain⟨cap,hcap⟩: ∃cap:Int,max ((s.n1:Int)+s.n2+s.wt) ((s.n3:Int)+s.n4)+pick x.slack 12=cap:=⟨_,rfl⟩
  have hc0:0≤cap∧cap≤200:=by omega
  have w4:=Z1 cap (by omega) (by omega)
  have w5:=Zb cap (by omega) (by omega)
  have w6:=Zb (2*cap) (by omega) (by omega)
  have w7:=Zb (9223372036854775808-2*cap) (by omega) (by omega)
  obtain⟨b1,b2⟩:=hx.base
  have w8:x.base.tmod (9223372036854775808-2*cap)=x.base% (9223372036854775808-2*cap):=Int.tmod_eq_emod_of_nonneg b1
  have h1:=Int.emod_nonneg x.base (show(9223372036854775808-2*cap)≠0 by omega)
  have h2:=Int.emod_lt_of_pos x.base (show 0< (9223372036854775808-2*cap)by omega)
  have w9:=Zb (1+x.base% (9223372036854775808-2*cap)) (by omega) (by omega)
  have hne: ¬((9223372036854775808-2*cap)=0):=by omega
  simp[aiV,w1,w2,w3,hmax,hcap,w4,w5,w6,w7,w8,w9,hne]
  cases cycle
  ·simp[btV,hcap]
  ·by_cases h0:0<s.n1
   ·have hp:=Yx (c:=x.scan) (n:=(s.n1:Int)) hx.scan (by omega)
    simp[h0]
    refine Z0 hp (by simp) ?_
    simp[btV,hcap,h0,aiV]
   ·simp[btV,hcap,h0]
end Vm
namespace Vm
open Go Go.Proofs
set_option maxRecDepth 100000
set_option maxHeartbeats 1000000
@[simp] theorem Z4Q(b:Bt):szV (btV b) 14=some (btV b):=rfl
@[simp] theorem Z2w(b:Bt):(btV b).cells=btC b:=rfl
@[simp] theorem Z49(b:Bt)(i:Nat):fldV (btV b) i=(btC b)[i]?.bind oneV:=rfl
theorem JR(s p:Int):0≤(S7 s p).1∧(S7 s p).1<100000000:=by
 unfold S7
 split
 ·rename_i h
  obtain⟨h1,h2,h3,h4⟩:=Z2.1 h
  simp only;omega
 ·simp
theorem Jm(l:Ly)(hl:l.fits)(p a:Int):0≤(Zy l p a).1∧(Zy l p a).1≤9223372036854775807:=by
 unfold Zy
 split
 ·simp
 ·rename_i hr
  have hr':Z7 l=true:=by simpa using hr
  split
  ·simp
  ·split
   ·simp
   ·have:=Zx hr' p
    simp only;omega
theorem Kg{a:Int}:0≤(Xm a).1∧(Xm a).1<18446744073709551616:=by
 unfold Xm
 split
 ·simp
 ·simp only;omega
def refB(h:Hp)(p:Pl):Int:=if p.part=0 then 0 else(Xm (Zy (layH h) p.part p.at_).1).1
theorem WR(h:Hp)(p:Pl):U64 (refB h p):=by
 unfold refB
 split
 ·exact⟨by omega,by omega⟩
 ·exact Kg
theorem TN{b:Bt}(hb:(layH b.h).fits){p:Pl}:VC Tryz.prog 42 false [btV b,plV p] (vu (refB b.h p)):=by
 refine Z3 Tryz.func42 follows (by kernel_rfl) c42 rfl ?_
 by_cases h0:p.part=0
 ·simp[p42,btC,refB,h0]
 ·have hr:=Jm (layH b.h) hb p.part p.at_
  simp[p42,btC,h0]
  refine Z0 (Y9 (h:=b.h)) (by simp[hpV]) ?_
  simp
  refine Z0 (Vn hb (part:=p.part) (at_:=p.at_)) (by simp) ?_
  simp
  refine Z0 (Ty (a:=(Zy (layH b.h) p.part p.at_).1) ⟨hr.1,by omega⟩) (by simp) ?_
  simp[refB,h0]
def Qz(b:Bt)(p:Pl)(to tw:Int):Int:=
 if to<0 then 0 else if 2<p.part then refB b.h ((b.old[to.toNat]?).getD ⟨0,0⟩)
 else if p.part=1∧b.h.scan≤p.at_∧(((b.here[to.toNat]?).getD ⟨0,0⟩).part=0∨0< ((b.old[to.toNat]?).getD ⟨0,0⟩).part∧tw%2=0)then refB b.h ((b.old[to.toNat]?).getD ⟨0,0⟩)
 else refB b.h ((b.here[to.toNat]?).getD ⟨0,0⟩)
theorem K1(b:Bt)(p:Pl)(to tw:Int):U64 (Qz b p to tw):=by
 unfold Qz
 split
 ·exact⟨by omega,by omega⟩
 split
 ·exact WR _ _
 split<;>exact WR _ _
theorem Z1X(t:Int):t.tmod 2=0↔t%2=0:=by
 rw[Int.tmod_eq_emod]
 split<;>omega
theorem Z0b{b:Bt}(hb:(layH b.h).fits){p:Pl}{to tw:Int}(h1:to<b.here.length)(h2:to<b.old.length):VC Tryz.prog 65 false [btV b,plV p,vi to,vi tw] (vu (Qz b p to tw)):=by
 refine Z3 Tryz.func65 follows (by kernel_rfl) c65 rfl ?_
 by_cases h0:to<0
 ·simp[p65,btC,Qz,h0]
 obtain⟨t,rfl⟩:=Int.eq_ofNat_of_zero_le (show 0≤to by omega)
 have g1:b.here[t]? =some (b.here[t]'(by omega)):=List.getElem?_eq_getElem (by omega)
 have g2:b.old[t]? =some (b.old[t]'(by omega)):=List.getElem?_eq_getElem (by omega)
 generalize b.here[t]'(by omega)=x at*
 generalize b.old[t]'(by omega)=y at*
 unfold Qz
 simp only[Int.toNat_natCast,g1,g2,Option.getD_some,if_neg h0]
 by_cases q1:2<p.part
 ·simp[p65,btC,q1,g2]
  refine Z0 (TN hb (p:=y)) (by simp[btV]) ?_
  simp
 have k1:=TN hb (p:=x)
 have k2:=TN hb (p:=y)
 by_cases q2:p.part=1
 ·by_cases q3:b.h.scan≤p.at_
  ·by_cases q4:x.part=0
   ·simp[p65,btC,q1,q2,q3,q4,g1,g2]
    refine Z0 k2 (by simp[btV]) ?_
    simp
   ·by_cases q5:0<y.part
    ·by_cases q6:tw%2=0
     ·have q6':=(Z1X tw).2 q6
      simp[p65,btC,q1,q2,q3,q4,q5,q6,q6',g1,g2]
      refine Z0 k2 (by simp[btV]) ?_
      simp
     ·have q6':=mt (Z1X tw).1 q6
      simp[p65,btC,q1,q2,q3,q4,q5,q6,q6',g1,g2]
      refine Z0 k1 (by simp[btV]) ?_
      simp
    ·simp[p65,btC,q1,q2,q3,q4,q5,g1,g2]
     refine Z0 k1 (by simp[btV]) ?_
     simp
  ·simp[p65,btC,q1,q2,q3,g1,g2]
   refine Z0 k1 (by simp[btV]) ?_
   simp
 ·simp[p65,btC,q1,q2,g1,g2]
  refine Z0 k1 (by simp[btV]) ?_
  simp
@[simp] theorem yX(x y:Int):V.put (vu x) 0 [vu y]=vu y:=rfl
theorem R6{l pre:List Int}{m:Nat}(h:pre.length=m)(hm:m<l.length)(z:Int):(pre++l.drop m).set m z=pre++ [z]++l.drop (m+1):=by
 subst h
 rw[List.set_append_right _ _ (Nat.le_refl _),Nat.sub_self,List.drop_eq_getElem_cons hm,List.set_cons_zero,List.append_assoc]
 rfl
def YZ(b:Bt)(p:Pl)(a:Nat)(ps:List Int)(tw:Int):List Int:=(List.range ps.length).map fun i=>Qz b ⟨p.part,((a+1+i:Nat):Int)⟩ ((ps[i]?).getD 0) (IntKind.i64.wrap (tw+i))
def layL(b:Bt)(p:Pl)(a:Nat)(n:Nd)(tw:Int):List Int:=
 let l:=Z5 b.h p.part
 l.take a++ [(S7 ((n.ptrs.length:Int)+n.data.length) n.ptrs.length).1]++YZ b p a n.ptrs tw++n.data++l.drop (a+sizN n)
def layB(b:Bt)(p:Pl)(n:Nd)(tw:Int):Bt:= {b with h:=Ym b.h p.part (layL b p p.at_.toNat n tw)}
theorem Z0e{b:Bt}(hb:(layH b.h).fits){p:Pl}{n:Nd}{tw:Int}{a:Nat}(ha:p.at_=a)(hlen:(Z5 b.h p.part).length≤1000000)(hfit:a+sizN n≤(Z5 b.h p.part).length)
  (h1: ∀q∈n.ptrs,q<b.here.length∧q<b.old.length):VC Tryz.prog 41 false [btV b,plV p,ndV n,vi tw] (btV (layB b p n tw)):=by
 refine Z3 Tryz.func41 follows (by kernel_rfl) c41 rfl ?_
 have hlim:(Z5 b.h p.part).length≤lim:=by simp[lim];omega
 have w1:=Z1 ((n.ptrs.length:Int)+n.data.length) (by unfold sizN at hfit;omega) (by unfold sizN at hfit;omega)
 unfold layB
 rw[show p.at_.toNat=a by omega]
 simp[p41,btC]
 refine Z0 (Yq (h:=b.h) (n:=p.part)) (by simp[hpV]) ?_
 simp[hlim,w1]
 refine Z0 (SH (s:=(n.ptrs.length:Int)+n.data.length) (p:=n.ptrs.length)) (by simp) ?_
 have hpl:a< (Z5 b.h p.part).length:=by unfold sizN at hfit;omega
 simp[ha,hpl]
 generalize hl0:Z5 b.h p.part=l at*
 generalize hhd:(S7 ((n.ptrs.length:Int)+n.data.length) n.ptrs.length).1=hd at*
 have hset0:(l.map vu).set a (vu hd)=((l.take a++ [hd])++l.drop (a+1)).map vu:=by
  rw[←List.map_set]
  congr 1
  have:=R6 (l:=l) (pre:=l.take a) (m:=a) (by simp;omega) hpl hd
  rw[List.take_append_drop]at this
  exact this
 simp only[yX,hset0]
 have hw1:=Z1 ((a:Int)+1) (by omega) (by omega)
 have hnp:n.ptrs.length≤l.length:=by unfold sizN at hfit;omega
 have hsl:(YZ b p a n.ptrs tw).length=n.ptrs.length:=by simp[YZ]
 refine ZX 11 n.ptrs.length (fun k=> [(8,.v (.sl (((l.take a++ [hd]++(YZ b p a n.ptrs tw).take k)++l.drop (a+1+k)).map vu))),(11,.v (vi k))]) (fun _=>True) (by simp) (fun i=>by simp) trivial ?_
 rintro k hk-
 have hwk:=Z1 ((k:Int)+1) (by omega) (by omega)
 have hw2:=Z1 ((a:Int)+1+k) (by omega) (by omega)
 by_cases hkl:k<n.ptrs.length
 ·have hq:n.ptrs[k]? =some n.ptrs[k]:=List.getElem?_eq_getElem hkl
  obtain⟨q1,q2⟩:=h1 _ (List.getElem_mem hkl)
  have hslot:=Z0b hb (p:=⟨p.part,((a+1+k:Nat):Int)⟩) (to:=n.ptrs[k]) (tw:=IntKind.i64.wrap (tw+k)) q1 q2
  have hsk:(YZ b p a n.ptrs tw)[k]? =some (Qz b ⟨p.part,((a+1+k:Nat):Int)⟩ n.ptrs[k] (IntKind.i64.wrap (tw+k))):=by
   simp[YZ,hkl]
  generalize n.ptrs[k]=q at*
  generalize Qz b ⟨p.part,((a+1+k:Nat):Int)⟩ q (IntKind.i64.wrap (tw+k))=z at*
  have htk:(YZ b p a n.ptrs tw).take (k+1)=(YZ b p a n.ptrs tw).take k++ [z]:=by rw[List.take_add_one,hsk];rfl
  have hpre:(l.take a++ [hd]++(YZ b p a n.ptrs tw).take k).length=a+1+k:=by simp[hsl];omega
  have hm:a+1+k<l.length:=by unfold sizN at hfit;omega
  have hst:=R6 (l:=l) hpre hm z
  generalize hpp:l.take a++ [hd]++(YZ b p a n.ptrs tw).take k=pre at*
  have hall: ∃x,((pre++l.drop (a+1+k)).map vu)[a+1+k]? =some (vu x):=by
   refine⟨l[a+1+k],?_⟩
   rw[List.getElem?_map,List.getElem?_append_right (by omega),hpre,Nat.sub_self,List.drop_eq_getElem_cons hm]
   rfl
  have hset:((pre++l.drop (a+1+k)).map vu).set (a+1+k) (vu z)=(pre++ [z]++l.drop (a+1+(k+1))).map vu:=by
   rw[←List.map_set,hst];rfl
  obtain⟨m,hmn⟩: ∃m:Nat,a+1+k=m:=⟨_,rfl⟩
  have hmi:(a:Int)+1+k=m:=by omega
  have hwm:=Z1 (m:Int) (by omega) (by omega)
  rw[show a+1+(k+1)=a+1+k+1 by omega]at hset⊢
  rw[hmn]at hall hset hslot⊢
  generalize hLL:(pre++l.drop m).map vu=LL at hall hset⊢
  rw[htk]
  obtain⟨y,hy⟩:=hall
  simp[hkl,hq,Zh hq,hw1,hw2,hmi,hwm]
  refine Z0 hslot (by simp[btV]) ?_
  simp[hy,hset,hwk,hkl,hw1,hmi,hwm]
  rw[←hpp]
  simp
 ·have:k=n.ptrs.length:=by omega
  subst this
  rw[show(YZ b p a n.ptrs tw).take n.ptrs.length=YZ b p a n.ptrs tw from List.take_of_length_le (by omega)]
  have hw3:=Z1 ((a:Int)+1+n.ptrs.length) (by omega) (by omega)
  have hw4: ∀j:Nat,j≤1000+n.data.length→IntKind.i64.wrap ((a:Int)+1+n.ptrs.length+j)=(a:Int)+1+n.ptrs.length+j:=fun j hj=>Z1 _ (by omega) (by unfold sizN at hfit;omega)
  generalize hsp:l.take a++ [hd]++YZ b p a n.ptrs tw=sp at*
  have hspl:sp.length=a+1+n.ptrs.length:=by rw[←hsp];simp[hsl];omega
  simp
  refine ZX 13 n.data.length (fun k=> [(8,.v (.sl (((sp++n.data.take k)++l.drop (a+1+n.ptrs.length+k)).map vu))),(13,.v (vi k))]) (fun _=>True) (by simp) (fun i=>by simp) trivial ?_
  rintro k hk-
  have hwk:=Z1 ((k:Int)+1) (by omega) (by unfold sizN at hfit;omega)
  by_cases hkl:k<n.data.length
  ·have hq:n.data[k]? =some n.data[k]:=List.getElem?_eq_getElem hkl
   generalize n.data[k]=z at*
   have htk:n.data.take (k+1)=n.data.take k++ [z]:=by rw[List.take_add_one,hq];rfl
   have hpre:(sp++n.data.take k).length=a+1+n.ptrs.length+k:=by simp[hspl];omega
   have hm:a+1+n.ptrs.length+k<l.length:=by unfold sizN at hfit;omega
   have hst:=R6 (l:=l) hpre hm z
   generalize hpp:sp++n.data.take k=pre at*
   have hall: ∃x,((pre++l.drop (a+1+n.ptrs.length+k)).map vu)[a+1+n.ptrs.length+k]? =some (vu x):=by
    refine⟨l[a+1+n.ptrs.length+k],?_⟩
    rw[List.getElem?_map,List.getElem?_append_right (by omega),hpre,Nat.sub_self,List.drop_eq_getElem_cons hm]
    rfl
   have hset:((pre++l.drop (a+1+n.ptrs.length+k)).map vu).set (a+1+n.ptrs.length+k) (vu z)=(pre++ [z]++l.drop (a+1+n.ptrs.length+k+1)).map vu:=by
    rw[←List.map_set,hst]
   rw[show a+1+n.ptrs.length+(k+1)=a+1+n.ptrs.length+k+1 by omega]
   have hw5:=hw4 k (by omega)
   obtain⟨m,hmn⟩: ∃m:Nat,a+1+n.ptrs.length+k=m:=⟨_,rfl⟩
   have hmi:(a:Int)+1+n.ptrs.length+k=m:=by omega
   have hwm:=Z1 (m:Int) (by omega) (by omega)
   rw[hmn]at hall hset⊢
   generalize hLL:(pre++l.drop m).map vu=LL at hall hset⊢
   rw[htk]
   obtain⟨y,hy⟩:=hall
   simp[hkl,hq,Zh hq,hw1,hw3,hw5,hmi,hwm,hy,hset,hwk]
   rw[←hpp]
   simp
  ·have:k=n.data.length:=by omega
   subst this
   rw[show n.data.take n.data.length=n.data from List.take_length]
   have hwith:=Tw (h:=b.h) (n:=p.part) (l:=sp++n.data++l.drop (a+1+n.ptrs.length+n.data.length))
   have hlay:layL b p a n tw=sp++n.data++l.drop (a+1+n.ptrs.length+n.data.length):=by
    unfold layL
    rw[hl0,hhd]
    dsimp only
    rw[hsp,show a+sizN n=a+1+n.ptrs.length+n.data.length by unfold sizN;omega]
   rw[hlay]
   generalize sp++n.data++l.drop (a+1+n.ptrs.length+n.data.length)=fin at*
   simp
   refine Z0 hwith (by simp[hpV]) ?_
   simp[btV]
end Vm
namespace Vm
open Go Go.Proofs
set_option maxRecDepth 100000
set_option maxHeartbeats 1000000
def wOk(h:Hp):Prop:=(∀k,∀w∈Z5 h k,U64 w)∧ ∀w∈h.roots,U64 w
structure BOk (b:Bt):Prop where
 lay:(layH b.h).fits
 hl:b.here.length=b.g.nodes.length
 ol:b.old.length=b.g.nodes.length
 nn:b.g.nodes.length≤10
 ptr: ∀n∈b.g.nodes,∀q∈n.ptrs,q< (b.g.nodes.length:Int)
 dat: ∀n∈b.g.nodes,∀q∈n.data,U64 q
 rts: ∀q∈b.g.roots,q< (b.g.nodes.length:Int)
 rl:b.g.roots.length≤5
 here: ∀(i:Nat) (p:Pl) (n:Nd),b.here[i]? =some p→b.g.nodes[i]? =some n→p=⟨0,0⟩∨ ∃a:Nat,p.at_=a∧(p.part=1∨p.part=2)∧a+sizN n≤(Z5 b.h p.part).length
 old: ∀(i:Nat) (p:Pl) (n:Nd),b.old[i]? =some p→b.g.nodes[i]? =some n→p=⟨0,0⟩∨ ∃a:Nat,p.at_=a∧(p.part=3∨p.part=4)∧a+sizN n≤(Z5 b.h p.part).length
 len: ∀k,(Z5 b.h k).length≤1000
 words:wOk b.h
theorem U1{h h':Hp}(hl:layH h'=layH h)(k:Int):(Z5 h' k).length=(Z5 h k).length:=by
 simp only[layH,Ly.mk.injEq]at hl
 unfold Z5
 split
 ·omega
 split
 ·omega
 split<;>omega
theorem BOk.keep{b:Bt}(hb:BOk b){h':Hp}(hl:layH h'=layH b.h)(hw:wOk h'):BOk {b with h:=h'} where
 lay:=by show(layH h').fits;rw[hl];exact hb.lay
 hl:=hb.hl
 ol:=hb.ol
 nn:=hb.nn
 ptr:=hb.ptr
 dat:=hb.dat
 rts:=hb.rts
 rl:=hb.rl
 here:=fun i p n hp hn=>by
  rcases hb.here i p n hp hn with h| ⟨a,h1,h2,h3⟩
  ·exact .inl h
  ·exact .inr ⟨a,h1,h2,by show _≤(Z5 h' p.part).length;rw[U1 hl];exact h3⟩
 old:=fun i p n hp hn=>by
  rcases hb.old i p n hp hn with h| ⟨a,h1,h2,h3⟩
  ·exact .inl h
  ·exact .inr ⟨a,h1,h2,by show _≤(Z5 h' p.part).length;rw[U1 hl];exact h3⟩
 len:=fun k=>by show(Z5 h' k).length≤1000;rw[U1 hl];exact hb.len k
 words:=hw
theorem Qp{h:Hp}{p:Int}{l:List Int}(hl:l.length=(Z5 h p).length):layH (Ym h p l)=layH h:=by
 unfold Ym Z5 at*
 split
 ·rename_i e;rw[if_pos e]at hl;simp[layH,hl]
 rename_i e1
 rw[if_neg e1]at hl
 split
 ·rename_i e;rw[if_pos e]at hl;simp[layH,hl]
 rename_i e2
 rw[if_neg e2]at hl
 split
 ·rename_i e;rw[if_pos e]at hl;simp[layH,hl]
 ·rename_i e3;rw[if_neg e3]at hl;simp[layH,hl]
theorem JM{h:Hp}{p:Int}{l:List Int}(hh:wOk h)(hl: ∀w∈l,U64 w):wOk (Ym h p l):=by
 have h1:=hh.1 1
 have h2:=hh.1 2
 have h3:=hh.1 3
 have h4:=hh.1 4
 simp only[Xe,KH,Kt,Kq]at h1 h2 h3 h4
 have key: ∀h':Hp,(∀w∈h'.low,U64 w)→(∀w∈h'.high,U64 w)→(∀w∈h'.old,U64 w)→(∀w∈h'.far,U64 w)→(∀w∈h'.roots,U64 w)→wOk h':=fun h' k1 k2 k3 k4 k5=>by
  refine⟨fun k=> ?_,k5⟩
  unfold Z5
  split
  ·exact k1
  split
  ·exact k2
  split
  ·exact k3
  ·exact k4
 unfold Ym
 split
 ·exact key _ hl h2 h3 h4 hh.2
 split
 ·exact key _ h1 hl h3 h4 hh.2
 split
 ·exact key _ h1 h2 hl h4 hh.2
 ·exact key _ h1 h2 h3 hl hh.2
theorem JS{b:Bt}{p:Pl}{a:Nat}{n:Nd}{tw:Int}(hf:a+sizN n≤(Z5 b.h p.part).length):(layL b p a n tw).length=(Z5 b.h p.part).length:=by
 unfold layL
 unfold sizN at*
 simp[YZ]
 omega
theorem zq{b:Bt}{p:Pl}{a:Nat}{n:Nd}{tw:Int}(hw:wOk b.h)(hn: ∀q∈n.data,U64 q): ∀w∈layL b p a n tw,U64 w:=by
 intro w hm
 unfold layL at hm
 simp only[List.mem_append,List.mem_singleton]at hm
 rcases hm with (((hm|hm) |hm) |hm) |hm
 ·exact hw.1 _ w (List.mem_of_mem_take hm)
 ·subst hm
  have:=JR ((n.ptrs.length:Int)+n.data.length) n.ptrs.length
  exact⟨this.1,by omega⟩
 ·simp only[YZ,List.mem_map]at hm
  obtain⟨i,_,rfl⟩:=hm
  exact K1 _ _ _ _
 ·exact hn w hm
 ·exact hw.1 _ w (List.mem_of_mem_drop hm)
def RY(x:Rw)(b:Bt)(i:Nat)(n:Nd)(p:Pl):Bt:=if 0<p.part then layB b p n (IntKind.i64.wrap (x.slack+i))else b
def Jb(b:Bt)(n:Nd)(p o:Pl):Bt:=if 0<o.part∧p.part=0 then layB b o n 0 else b
def Jl(b:Bt)(p o:Pl):Bt:=if 0<o.part∧0<p.part then {b with h:=Ym b.h o.part ((Z5 b.h o.part).set o.at_.toNat (refB b.h p))}else b
def jn(x:Rw)(b:Bt)(i:Nat):Bt:=
 let n:=(b.g.nodes[i]?).getD default
 let p:=(b.here[i]?).getD ⟨0,0⟩
 let o:=(b.old[i]?).getD ⟨0,0⟩
 Jl (Jb (RY x b i n p) n p o) p o
structure Like (b b':Bt):Prop where
 g:b'.g=b.g
 here:b'.here=b.here
 old:b'.old=b.old
 lay:layH b'.h=layH b.h
 words:wOk b'.h
 scan:b'.h.scan=b.h.scan
 cycle:b'.h.cycle=b.h.cycle
theorem Like.ok{b b':Bt}(hl:Like b b')(hb:BOk b):BOk b':=by
 obtain⟨h',g',here',old'⟩:=b'
 obtain⟨h1,h2,h3,h4,h5,_⟩:=hl
 simp only at h1 h2 h3 h4 h5
 subst h1 h2 h3
 exact hb.keep h4 h5
theorem Like.trans{a b c:Bt}(h:Like a b)(k:Like b c):Like a c:=⟨k.g.trans h.g,k.here.trans h.here,k.old.trans h.old,k.lay.trans h.lay,k.words,k.scan.trans h.scan,k.cycle.trans h.cycle⟩
theorem SC(h:Hp)(p:Int)(l:List Int):(Ym h p l).scan=h.scan∧(Ym h p l).cycle=h.cycle:=by
 unfold Ym
 split
 ·exact⟨rfl,rfl⟩
 split
 ·exact⟨rfl,rfl⟩
 split<;>exact⟨rfl,rfl⟩
theorem QA{b:Bt}(hb:BOk b){p:Int}{l:List Int}(hl:l.length=(Z5 b.h p).length)(hw: ∀w∈l,U64 w):Like b {b with h:=Ym b.h p l}:=
 ⟨rfl,rfl,rfl,Qp hl,JM hb.words hw,(SC _ _ _).1,(SC _ _ _).2⟩
theorem U0{b:Bt}(hb:BOk b):Like b b:=⟨rfl,rfl,rfl,rfl,hb.words,rfl,rfl⟩
theorem Kw{b:Bt}(hb:BOk b){p:Pl}{n:Nd}{tw:Int}{a:Nat}(ha:p.at_=a)(hf:a+sizN n≤(Z5 b.h p.part).length)(hn: ∀q∈n.data,U64 q):Like b (layB b p n tw):=by
 unfold layB
 rw[ha,Int.toNat_natCast]
 exact QA hb (JS hf) (zq hb.words hn)
theorem yq{x:Rw}{b:Bt}(hb:BOk b){i:Nat}{n:Nd}{p:Pl}(hn:b.g.nodes[i]? =some n)(hp:b.here[i]? =some p):Like b (RY x b i n p):=by
 unfold RY
 split
 ·rename_i h0
  rcases hb.here i p n hp hn with rfl| ⟨a,h1,h2,h3⟩
  ·simp at h0
  ·exact Kw hb h1 h3 (hb.dat n (List.mem_of_getElem? hn))
 ·exact U0 hb
theorem qq{b:Bt}(hb:BOk b){i:Nat}{n:Nd}{p o:Pl}(hn:b.g.nodes[i]? =some n)(ho:b.old[i]? =some o):Like b (Jb b n p o):=by
 unfold Jb
 split
 ·rename_i h0
  rcases hb.old i o n ho hn with rfl| ⟨a,h1,h2,h3⟩
  ·simp at h0
  ·exact Kw hb h1 h3 (hb.dat n (List.mem_of_getElem? hn))
 ·exact U0 hb
theorem Z24{b:Bt}(hb:BOk b){p o:Pl}:Like b (Jl b p o):=by
 unfold Jl
 split
 ·refine QA hb (by simp) fun w hw=> ?_
  rcases List.mem_or_eq_of_mem_set hw with h|rfl
  ·exact hb.words.1 _ w h
  ·exact WR _ _
 ·exact U0 hb
theorem Z2s{x:Rw}{b:Bt}(hb:BOk b){i:Nat}(hi:i<b.g.nodes.length):Like b (jn x b i):=by
 have hn:b.g.nodes[i]? =some b.g.nodes[i]:=List.getElem?_eq_getElem hi
 have hp:b.here[i]? =some (b.here[i]'(by rw[hb.hl];exact hi)):=List.getElem?_eq_getElem _
 have ho:b.old[i]? =some (b.old[i]'(by rw[hb.ol];exact hi)):=List.getElem?_eq_getElem _
 unfold jn
 simp only[hn,hp,ho,Option.getD_some]
 have h1:=yq (x:=x) hb hn hp
 have h2:=qq (p:=b.here[i]'(by rw[hb.hl];exact hi)) (h1.ok hb) (by rw[h1.g];exact hn) (by rw[h1.old];exact ho)
 exact(h1.trans h2).trans (Z24 (h2.ok (h1.ok hb)))
def Sm(x:Rw)(b:Bt):Nat→Bt
 |0=>b
 |i+1=>jn x (Sm x b i) i
theorem qC{x:Rw}{b:Bt}(hb:BOk b): ∀i,i≤b.g.nodes.length→Like b (Sm x b i)
 |0,_=>U0 hb
 |i+1,hi=>by
  have h:=qC (x:=x) hb i (by omega)
  exact h.trans (Z2s (h.ok hb) (by rw[h.g];omega))
def Ur(x:Rw)(b:Bt):Hp:=
 let b':=Sm x b b.g.nodes.length
 {b'.h with roots:=b.g.roots.map fun r=>if 0≤r then refB b'.h ((b.here[r.toNat]?).getD ⟨0,0⟩)else 0}
theorem qy{x:Rw}(hx:x.ok){b:Bt}(hb:BOk b):VC Tryz.prog 24 false [btV b,rwV x] (hpV (Ur x b)):=by
 refine Z3 Tryz.func24 follows (by kernel_rfl) c24 rfl ?_
 simp[p24,btC]
 refine ZX 5 b.g.nodes.length (fun i=> [(2,.m (btC (Sm x b i))),(5,.v (vi i))]) (fun _=>True) (by simp[Sm,btC]) (fun i=>by simp) trivial ?_
 rintro i hi-
 have hlk:=qC (x:=x) hb i hi
 have hw:=Z1 ((i:Int)+1) (by have:=hb.nn;omega) (by have:=hb.nn;omega)
 by_cases h:i<b.g.nodes.length
 ·have hb':=hlk.ok hb
  simp only[Sm]
  have hi':i< (Sm x b i).g.nodes.length:=by rw[hlk.g];exact h
  generalize hbb:Sm x b i=c at*
  have hn:c.g.nodes[i]? =some c.g.nodes[i]:=List.getElem?_eq_getElem hi'
  have hp:c.here[i]? =some (c.here[i]'(by rw[hb'.hl];exact hi')):=List.getElem?_eq_getElem _
  have ho:c.old[i]? =some (c.old[i]'(by rw[hb'.ol];exact hi')):=List.getElem?_eq_getElem _
  unfold jn
  simp only[hn,hp,ho,Option.getD_some]
  generalize c.g.nodes[i]=n at*
  generalize c.here[i]'(by rw[hb'.hl];exact hi')=p at*
  generalize c.old[i]'(by rw[hb'.ol];exact hi')=o at*
  have hpn: ∀q∈n.ptrs,q< (c.here.length:Int)∧q< (c.old.length:Int):=fun q hq=>by
   have:=hb'.ptr n (List.mem_of_getElem? hn) q hq
   rw[hb'.hl,hb'.ol];exact⟨this,this⟩
  have kA:=yq (x:=x) hb' hn hp
  have bA:=kA.ok hb'
  have kO:=qq (p:=p) bA (by rw[kA.g];exact hn) (by rw[kA.old];exact ho)
  have bO:=kO.ok bA
  have hgl:c.g.nodes.length=b.g.nodes.length:=by rw[hlk.g]
  have hge:c.g=b.g:=hlk.g
  have hlay:0<p.part→VC Tryz.prog 41 false [btV c,plV p,ndV n,vi (IntKind.i64.wrap (x.slack+i))] (btV (layB c p n (IntKind.i64.wrap (x.slack+i)))):=fun h0=>by
   rcases hb'.here i p n hp hn with rfl| ⟨a,h1,h2,h3⟩
   ·simp at h0
   ·exact Z0e hb'.lay h1 (by have:=hb'.len p.part;omega) h3 hpn
  have hlayO:0<o.part→VC Tryz.prog 41 false [btV c,plV o,ndV n,vi 0] (btV (layB c o n 0)):=fun h0=>by
   rcases hb'.old i o n ho hn with rfl| ⟨a,h1,h2,h3⟩
   ·simp at h0
   ·exact Z0e hb'.lay h1 (by have:=hb'.len o.part;omega) h3 hpn
  have hpp:p.part=0∨0<p.part:=by
   rcases hb'.here i p n hp hn with rfl| ⟨a,h1,h2,h3⟩
   ·exact .inl rfl
   ·exact .inr (by omega)
  have hoo:o.part=0∨0<o.part:=by
   rcases hb'.old i o n ho hn with rfl| ⟨a,h1,h2,h3⟩
   ·exact .inl rfl
   ·exact .inr (by omega)
  rcases hpp with hp0|hp0
  ·rcases hoo with ho0|ho0
   ·simp[btC,h,hi',hgl,hn,hp,ho,Zh hn,Zh hp,Zh ho,RY,Jb,Jl,hp0,ho0,hw]
   ·have hne: ¬0<p.part:=by omega
    have hlk2:Like c (layB c o n 0):=by
     have:=qq (p:=p) hb' hn ho
     unfold Jb at this
     rwa[if_pos ⟨ho0,hp0⟩]at this
    have hlO:=hlayO ho0
    simp[btC,h,hi',hgl,hn,hp,ho,Zh hn,Zh hp,Zh ho,RY,Jb,Jl,hp0,ho0,hw]
    generalize layB c o n 0=d at*
    obtain⟨d1,d2,d3,d4,d5,_,_⟩:=hlk2
    refine Z0 hlO (by simp[btV]) ?_
    simp[btC,d1,d2,d3,hn,hp,ho,Zh hn,Zh hp,Zh ho,hp0,ho0,hw,h]
  ·have hne0: ¬p.part=0:=by omega
   have hlk2:Like c (layB c p n (IntKind.i64.wrap (x.slack+i))):=by
    have:=yq (x:=x) hb' hn hp
    unfold RY at this
    rwa[if_pos hp0]at this
   have hlA:=hlay hp0
   have bd:=hlk2.ok hb'
   rcases hoo with ho0|ho0
   ·simp[btC,h,hi',hgl,hn,hp,ho,Zh hn,Zh hp,Zh ho,RY,Jb,Jl,hp0,ho0,hne0,hw]
    generalize layB c p n (IntKind.i64.wrap (x.slack+i))=d at*
    obtain⟨d1,d2,d3,d4,d5,_,_⟩:=hlk2
    refine Z0 hlA (by simp[btV]) ?_
    simp[btC,d1,d2,d3,hn,hp,ho,Zh hn,Zh hp,Zh ho,hp0,ho0,hne0,hw,h]
   ·simp[btC,h,hi',hgl,hn,hp,ho,Zh hn,Zh hp,Zh ho,RY,Jb,Jl,hp0,ho0,hne0,hw]
    generalize layB c p n (IntKind.i64.wrap (x.slack+i))=d at*
    obtain⟨d1,d2,d3,d4,d5,_,_⟩:=hlk2
    refine Z0 hlA (by simp[btV]) ?_
    simp[btC,d1,d2,d3,hn,hp,ho,Zh hn,Zh hp,Zh ho,hp0,ho0,hne0,hw,h]
    rcases hb'.old i o n ho hn with rfl| ⟨a,h1,h2,h3⟩
    ·simp at ho0
    have hdl:=bd.len o.part
    have hlim:(Z5 d.h o.part).length≤lim:=by simp[lim];omega
    have hal:a< (Z5 d.h o.part).length:=by
     have:=U1 d4 o.part
     unfold sizN at h3
     omega
    refine Z0 (Yq (h:=d.h) (n:=o.part)) (by simp[hpV]) ?_
    simp[hlim,hp]
    refine Z0 (TN (b:=⟨d.h,c.g,c.here,c.old⟩) bd.lay (p:=p)) (by simp) ?_
    simp[h1,hal,ho,Zh ho]
    have hwith:=Tw (h:=d.h) (n:=o.part) (l:=(Z5 d.h o.part).set a (refB d.h p))
    rw[List.map_set]at hwith
    refine Z0 hwith (by simp[hpV]) ?_
    simp[hw,h,d1,d2,d3]
 ·have:i=b.g.nodes.length:=by omega
  subst this
  have bd:=hlk.ok hb
  unfold Ur
  generalize Sm x b b.g.nodes.length=d at*
  obtain⟨d1,d2,d3,d4,d5,_,_⟩:=hlk
  simp[btC,d1,d2,d3]
  refine ZX 13 b.g.roots.length (fun k=> [(12,.v (.sl ((b.g.roots.take k).map fun r=>vu (if 0≤r then refB d.h ((b.here[r.toNat]?).getD ⟨0,0⟩)else 0)))),(13,.v (vi k))]) (fun _=>True) (by simp) (fun i=>by simp) trivial ?_
  rintro k hk-
  have hrl:=hb.rl
  have hwk:=Z1 ((k:Int)+1) (by omega) (by omega)
  by_cases hkl:k<b.g.roots.length
  ·have hr:b.g.roots[k]? =some b.g.roots[k]:=List.getElem?_eq_getElem hkl
   have hrn:=hb.rts _ (List.getElem_mem hkl)
   generalize b.g.roots[k]=r at*
   have htk:b.g.roots.take (k+1)=b.g.roots.take k++ [r]:=by rw[List.take_add_one,hr];rfl
   have hlim:min k b.g.roots.length+1≤lim:=by simp[lim];omega
   by_cases h0:0≤r
   ·obtain⟨q,rfl⟩:=Int.eq_ofNat_of_zero_le h0
    have hq:b.here[q]? =some (b.here[q]'(by rw[hb.hl];omega)):=List.getElem?_eq_getElem _
    generalize b.here[q]'(by rw[hb.hl];omega)=p at*
    simp[hkl,hr,Zh hr,hq,Zh hq]
    refine Z0 (TN (b:=⟨d.h,b.g,b.here,b.old⟩) bd.lay (p:=p)) (by simp) ?_
    simp[hwk,hlim,hkl]
    rw[List.take_add_one,List.getElem?_map,hr]
    simp[hq]
   ·simp[hkl,hr,Zh hr,h0,hwk,hlim,htk,hkl]
  ·have:k=b.g.roots.length:=by omega
   subst this
   simp[hpV]
end Vm
namespace Vm
open Go Go.Proofs
set_option maxRecDepth 100000
set_option maxHeartbeats 1000000
def PIn(s:St8)(p:Pl)(sz:Nat):Prop:=p=⟨0,0⟩∨ ∃a:Nat,p.at_=a∧((p.part=1∧a+sz≤s.n1)∨(p.part=2∧a+sz≤s.n2))
def POl(s:St8)(p:Pl)(sz:Nat):Prop:=p=⟨0,0⟩∨ ∃a:Nat,p.at_=a∧((p.part=3∧a+sz≤s.n3)∨(p.part=4∧a+sz≤s.n4))
theorem yd{x:Rw}{cycle:Bool}{sz i:Nat}{s:St8}:s.n1≤(ZW x cycle sz i s).n1∧s.n2≤(ZW x cycle sz i s).n2∧s.n3≤(ZW x cycle sz i s).n3∧s.n4≤(ZW x cycle sz i s).n4:=by
 unfold ZW
 refine⟨?_,?_,?_,?_⟩<;>dsimp only<;>split<;>omega
theorem PIn.mono{s t:St8}{p:Pl}{sz:Nat}(h:PIn s p sz)(h1:s.n1≤t.n1)(h2:s.n2≤t.n2):PIn t p sz:=by
 rcases h with h| ⟨a,ha,⟨hp,h⟩ | ⟨hp,h⟩⟩
 ·exact .inl h
 ·exact .inr ⟨a,ha,.inl ⟨hp,by omega⟩⟩
 ·exact .inr ⟨a,ha,.inr ⟨hp,by omega⟩⟩
theorem POl.mono{s t:St8}{p:Pl}{sz:Nat}(h:POl s p sz)(h1:s.n3≤t.n3)(h2:s.n4≤t.n4):POl t p sz:=by
 rcases h with h| ⟨a,ha,⟨hp,h⟩ | ⟨hp,h⟩⟩
 ·exact .inl h
 ·exact .inr ⟨a,ha,.inl ⟨hp,by omega⟩⟩
 ·exact .inr ⟨a,ha,.inr ⟨hp,by omega⟩⟩
theorem RV{x:Rw}{cycle:Bool}{g:Gr}(hg: ∀n∈g.nodes,sizN n≤9): ∀i,i≤g.nodes.length→ ∀(j:Nat) (n:Nd),g.nodes[j]? =some n→
  (∀p,(stN x cycle g i).here[j]? =some p→PIn (stN x cycle g i) p (sizN n))∧(∀p,(stN x cycle g i).old[j]? =some p→POl (stN x cycle g i) p (sizN n))
 |0,_,j,n,hn=>⟨fun p hp=>by simp[stN]at hp,fun p hp=>by simp[stN]at hp⟩
 |i+1,hi,j,n,hn=>by
  obtain⟨h1,h2⟩:=RV (x:=x) (cycle:=cycle) hg i (by omega) j n hn
  obtain⟨_,_,l1,l2⟩:=U6 (x:=x) (cycle:=cycle) hg i (by omega)
  have hgi:g.nodes[i]? =some g.nodes[i]:=List.getElem?_eq_getElem (by omega)
  simp only[stN,hgi,Option.getD_some]
  generalize stN x cycle g i=s at*
  obtain⟨q1,q2,q3,q4⟩:=yd (x:=x) (cycle:=cycle) (sz:=sizN g.nodes[i]) (i:=i) (s:=s)
  have hjl:j<g.nodes.length:=(List.getElem?_eq_some_iff.1 hn).1
  constructor
  ·intro p hp
   by_cases hj:j<i
   ·have:s.here[j]? =some p:=by
     simp only[ZW]at hp
     rwa[List.getElem?_append_left (by omega)]at hp
    exact(h1 p this).mono q1 q2
   ·by_cases hji:j=i
    ·subst hji
     rw[hgi]at hn
     cases hn
     simp only[ZW]at hp
     rw[List.getElem?_append_right (by omega),l1,Nat.sub_self]at hp
     simp only[List.getElem?_cons_zero,Option.some.injEq]at hp
     subst hp
     unfold PIn
     rcases Ut x j cycle with hk|hk| ⟨hk,rfl⟩
     ·refine .inr ⟨s.n2,by simp[hk],.inr ⟨by simp[hk],by simp[ZW,hk]⟩⟩
     ·refine .inr ⟨s.n1,by simp[hk],.inl ⟨by simp[hk],by simp[ZW,hk]⟩⟩
     ·exact .inl (by simp[hk])
    ·simp only[ZW]at hp
     have:=(List.getElem?_eq_some_iff.1 hp).1
     simp at this
     omega
  ·intro p hp
   by_cases hj:j<i
   ·have:s.old[j]? =some p:=by
     simp only[ZW]at hp
     rwa[List.getElem?_append_left (by omega)]at hp
    exact(h2 p this).mono q3 q4
   ·by_cases hji:j=i
    ·subst hji
     rw[hgi]at hn
     cases hn
     simp only[ZW]at hp
     rw[List.getElem?_append_right (by omega),l2,Nat.sub_self]at hp
     simp only[List.getElem?_cons_zero,Option.some.injEq]at hp
     subst hp
     unfold POl
     by_cases ho:(decide (0<clsK x j cycle)&&cycle)=true
     ·cases hf:clsF x j
      ·refine .inr ⟨s.n3,by simp[ho],.inl ⟨by simp[ho],by simp[ZW,ho,hf]⟩⟩
      ·refine .inr ⟨s.n4,by simp[ho],.inr ⟨by simp[ho],by simp[ZW,ho,hf]⟩⟩
     ·exact .inl (by simp only[ho];rfl)
    ·simp only[ZW]at hp
     have:=(List.getElem?_eq_some_iff.1 hp).1
     simp at this
     omega
theorem Z0L(l:List Nd)(roots:List Int): ∀n∈(mkG l roots).nodes,∀q∈n.ptrs,-1≤q∧q< ((mkG l roots).nodes.length:Int):=by
 intro n hn q hq
 rw[VE]
 simp only[mkG,List.mem_map]at hn
 obtain⟨y,_,rfl⟩:=hn
 simp only[mkNd,List.mem_map]at hq
 obtain⟨p,_,rfl⟩:=hq
 exact Z2b
theorem Z0E(l:List Nd)(roots:List Int): ∀q∈(mkG l roots).roots,-1≤q∧q< ((mkG l roots).nodes.length:Int):=by
 intro q hq
 rw[VE]
 simp only[mkG]at hq
 split at hq
 ·simp at hq
  omega
 ·simp only[List.mem_map]at hq
  obtain⟨p,_,rfl⟩:=hq
  exact Z2b
theorem Z0X(l:List Nd)(roots:List Int)(hl: ∀n∈l,∀q∈n.data,U64 q): ∀n∈(mkG l roots).nodes,∀q∈n.data,U64 q:=by
 intro n hn q hq
 simp only[mkG,List.mem_map]at hn
 obtain⟨y,hy,rfl⟩:=hn
 simp only[mkNd]at hq
 exact hl y (List.mem_of_mem_take hy) q (List.mem_of_mem_take hq)
theorem RN{x:Rw}(hx:x.ok)(cycle:Bool):BOk (XU x cycle)∧Fit (XU x cycle).h.scan∧Z7 (layH (XU x cycle).h)=true:=by
 obtain⟨hb1,hb2,hb3⟩:=SD x.nodes x.roots
 have hb5:=VE x.nodes x.roots
 have hp:=Z0L x.nodes x.roots
 have hr:=Z0E x.nodes x.roots
 have hd:=Z0X x.nodes x.roots hx.data
 unfold XU
 generalize mkG x.nodes x.roots=g at*
 have hsz: ∀n∈g.nodes,sizN n≤9:=fun n hn=>by have:=hb3 n hn;unfold sizN;omega
 obtain⟨s1,s2,s3,s4⟩:=U6 (x:=x) (cycle:=cycle) hsz g.nodes.length (Nat.le_refl _)
 have hpl:=RV (x:=x) (cycle:=cycle) hsz g.nodes.length (Nat.le_refl _)
 dsimp only
 generalize stN x cycle g g.nodes.length=s at*
 have hsl:=YW (c:=x.slack) (n:=12) (by omega)
 have hto:=YW (c:=x.to) (n:=2) (by omega)
 obtain⟨cap,hcap⟩: ∃cap:Int,max ((s.n1:Int)+s.n2+s.wt) ((s.n3:Int)+s.n4)+pick x.slack 12=cap:=⟨_,rfl⟩
 rw[hcap]
 have hc0:0≤cap∧cap≤200:=by omega
 have h1:=Int.emod_nonneg x.base (show(9223372036854775808-2*cap)≠0 by omega)
 have h2:=Int.emod_lt_of_pos x.base (show 0< (9223372036854775808-2*cap)by omega)
 generalize x.base% (9223372036854775808-2*cap)=base at*
 have hscan:Fit (if cycle=true∧0<s.n1 then pick x.scan s.n1 else s.n1):=by
  split
  ·rename_i h
   have:=YW (c:=x.scan) (n:=s.n1) (by omega)
   exact⟨by omega,by omega⟩
  ·exact⟨by omega,by omega⟩
 refine⟨⟨?_,?_,?_,?_,?_,?_,?_,?_,?_,?_,?_,?_⟩,hscan,?_⟩
 ·refine⟨⟨?_,?_⟩,⟨?_,?_⟩,⟨?_,?_⟩,⟨?_,?_⟩,⟨?_,?_⟩,⟨?_,?_⟩,⟨?_,?_⟩⟩<;>simp[layH]<;>omega
 ·exact s3
 ·exact s4
 ·show g.nodes.length≤10
  omega
 ·exact fun n hn q hq=>(hp n hn q hq).2
 ·exact hd
 ·exact fun q hq=>(hr q hq).2
 ·exact hb2
 ·intro i p n hpi hni
  rcases(hpl i n hni).1 p hpi with h| ⟨a,ha,⟨hpp,h⟩ | ⟨hpp,h⟩⟩
  ·exact .inl h
  ·exact .inr ⟨a,ha,.inl hpp,by rw[hpp];simpa using h⟩
  ·exact .inr ⟨a,ha,.inr hpp,by rw[hpp];simpa using h⟩
 ·intro i p n hpi hni
  rcases(hpl i n hni).2 p hpi with h| ⟨a,ha,⟨hpp,h⟩ | ⟨hpp,h⟩⟩
  ·exact .inl h
  ·exact .inr ⟨a,ha,.inl hpp,by rw[hpp];simpa using h⟩
  ·exact .inr ⟨a,ha,.inr hpp,by rw[hpp];simpa using h⟩
 ·intro k
  unfold Z5
  split
  ·simp;omega
  split
  ·simp;omega
  split<;>simp<;>omega
 ·refine⟨fun k=> ?_,by simp⟩
  have hrep: ∀m:Nat,∀w∈List.replicate m (0:Int),U64 w:=fun m w hw=>by
   have:=(List.mem_replicate.1 hw).2
   subst this
   exact⟨by omega,by omega⟩
  unfold Z5
  split
  ·exact hrep _
  split
  ·exact hrep _
  split<;>exact hrep _
 ·refine Zp.2 ?_
  simp only[layH,List.length_replicate]
  omega
def qd(x:Rw):Hp:=Ur x (XU x false)
def JP(x:Rw):Hp:=if(XU x true).h.low.length=0 then qd x else Ur x (XU x true)
theorem jZ{x:Rw}(hx:x.ok):VC Tryz.prog 23 false [rwV x] (hpV (qd x)):=by
 refine Z3 Tryz.func23 follows (by kernel_rfl) c23 rfl ?_
 simp[p23]
 refine Z0 (KG hx (cycle:=false)) (by simp[rwV]) ?_
 simp
 refine Z0 (qy hx (RN hx false).1) (by simp) ?_
 simp
 rfl
theorem Z0S{x:Rw}(hx:x.ok):VC Tryz.prog 8 false [rwV x] (hpV (JP x)):=by
 refine Z3 Tryz.func8 follows (by kernel_rfl) c8 rfl ?_
 simp[p8]
 refine Z0 (KG hx (cycle:=true)) (by simp[rwV]) ?_
 unfold JP
 by_cases h0:(XU x true).h.low.length=0
 ·simp[btC,h0]
  refine Z0 (jZ hx) (by simp) ?_
  simp
  rfl
 ·simp[btC,h0]
  refine Z0 (qy hx (RN hx true).1) (by simp) ?_
  simp
  rfl
theorem Z03{x:Rw}{b:Bt}(hb:BOk b)(hs:Fit b.h.scan):(Ur x b).ok∧layH (Ur x b)=layH b.h∧(Ur x b).scan=b.h.scan∧(Ur x b).cycle=b.h.cycle:=by
 have hl:=qC (x:=x) hb b.g.nodes.length (Nat.le_refl _)
 have bd:=hl.ok hb
 unfold Ur
 generalize Sm x b b.g.nodes.length=d at*
 obtain⟨h1,h2,h3,h4,h5,h6,h7,h8,h9,h10,h11,h12⟩:=bd
 have l1:=h11 1
 have l2:=h11 2
 have l3:=h11 3
 have l4:=h11 4
 have w1:=h12.1 1
 have w2:=h12.1 2
 have w3:=h12.1 3
 have w4:=h12.1 4
 simp only[Xe,KH,Kt,Kq]at l1 l2 l3 l4 w1 w2 w3 w4
 have hrl:=hb.rl
 refine⟨⟨h1.1,h1.2.1,h1.2.2.1,by rw[hl.scan];exact hs,?_,?_,?_,?_,?_,w1,w2,w3,w4,?_⟩,hl.lay,hl.scan,hl.cycle⟩
 ·show d.h.low.length≤_;omega
 ·show d.h.high.length≤_;omega
 ·show d.h.old.length≤_;omega
 ·show d.h.far.length≤_;omega
 ·simp;omega
 ·intro w hw
  simp only[List.mem_map]at hw
  obtain⟨r,_,rfl⟩:=hw
  split
  ·exact WR _ _
  ·exact⟨by omega,by omega⟩
end Vm
end
section
namespace Vm
open Go
open Go.Proofs
set_option maxRecDepth 100000
def p49:Fn:=⟨18,[0,1,2,3,4,5,6,7,33,8,9,10,11,12,13,14,15,77],
(.seq
(.reg ⟨[],[],[(1,.m [(.fld (.sz (.s 0) 10) 0),(.fld (.sz (.s 0) 10) 1),(.fld (.sz (.s 0) 10) 2),(.fld (.sz (.s 0) 10) 3),(.fld (.sz (.s 0) 10) 4),(.fld (.sz (.s 0) 10) 5),(.fld (.sz (.s 0) 10) 6),(.fld (.sz (.s 0) 10) 7),(.fld (.sz (.s 0) 10) 8),(.fld (.sz (.s 0) 10) 9)]),(2,.v (.c (.sl []))),(3,.v (.c (.bool false)))]⟩)
(.seq
(.reg ⟨[.call 18 [] (.id 55) false false [(.m 1 5)]],[],[(4,.v (.ext (.s 18) 0)),(5,.v (.ext (.s 18) 1))]⟩)
(.seq
(.reg ⟨[.call 19 [] (.id 55) false false [(.m 1 6)]],[],[(6,.v (.ext (.s 19) 0)),(7,.v (.ext (.s 19) 1))]⟩)
(.seq
(.seq
(.reg ⟨[.lt 20 [] (.bin .neq (.s 5) (.c (.int .i64 (0))))],[([(20,false)],(.bin .neq (.s 7) (.c (.int .i64 (0)))))],[(8,.v (.ite (.s 20) (.c (.bool true)) (.bin .neq (.s 7) (.c (.int .i64 (0))))))]⟩)
(.cond (.s 8)
 (.seq
 (.reg ⟨[],[],[(3,.v (.c (.bool false)))]⟩)
 .ret)
 .skip))
(.seq
(.reg ⟨[.call 21 [] (.id 77) false false [(.mm 1 0 10),(.m 1 7),(.s 4)]],[],[(9,.v (.ext (.s 21) 0)),(10,.v (.ext (.s 21) 1))]⟩)
(.seq
(.reg ⟨[.call 22 [] (.id 77) false false [(.mm 1 0 10),(.m 1 8),(.s 4)]],[],[(11,.v (.ext (.s 22) 0)),(12,.v (.ext (.s 22) 1))]⟩)
(.seq
(.reg ⟨[.call 23 [] (.id 78) false false [(.m 1 7),(.s 9)]],[],[(13,.v (.ext (.s 23) 0)),(14,.v (.ext (.s 23) 1))]⟩)
(.seq
(.reg ⟨[.call 24 [] (.id 78) false false [(.m 1 8),(.s 11)]],[],[(15,.v (.ext (.s 24) 0)),(16,.v (.ext (.s 24) 1))]⟩)
(.seq
(.seq
(.reg ⟨[.lt 25 [] (.un .not (.s 10)),.lt 26 [] (.ite (.s 25) (.c (.bool true)) (.un .not (.s 12))),.lt 27 [] (.ite (.s 26) (.c (.bool true)) (.bin .neq (.s 14) (.c (.int .i64 (0)))))],[([(25,false)],(.un .not (.s 12))),([(26,false)],(.bin .neq (.s 14) (.c (.int .i64 (0))))),([(27,false)],(.bin .neq (.s 16) (.c (.int .i64 (0)))))],[(17,.v (.ite (.s 27) (.c (.bool true)) (.bin .neq (.s 16) (.c (.int .i64 (0))))))]⟩)
(.cond (.s 17)
 (.seq
 (.reg ⟨[],[],[(3,.v (.c (.bool false)))]⟩)
 .ret)
 .skip))
(.seq
(.reg ⟨[],[],[(2,.v (.lit [(.c (.sl [])),(.one (.s 4)),(.one (.s 6)),(.one (.s 13)),(.one (.s 15))])),(3,.v (.c (.bool true)))]⟩)
.ret)))))))))),
[(2,.v),(3,.v)]⟩
theorem c49:Z8 Tryz.prog fresh sig [.fz] [] Tryz.f49=some p49:=by kernel_rfl
def p51:Fn:=⟨7,[0,1,2,3,6,7,8],
(.seq
(.reg ⟨[],[],[(3,.m [(.fld (.sz (.s 0) 10) 0),(.fld (.sz (.s 0) 10) 1),(.fld (.sz (.s 0) 10) 2),(.fld (.sz (.s 0) 10) 3),(.fld (.sz (.s 0) 10) 4),(.fld (.sz (.s 0) 10) 5),(.fld (.sz (.s 0) 10) 6),(.fld (.sz (.s 0) 10) 7),(.fld (.sz (.s 0) 10) 8),(.fld (.sz (.s 0) 10) 9)]),(4,.v (.c (.int .u64 (0))))]⟩)
(.seq
(.reg ⟨[.call 7 [] (.id 67) false false [(.mm 3 0 10)],.call 8 [] (.id 66) false false [(.s 7),(.ag [(.one (.s 1)),(.one (.s 2))])]],[],[(5,.v (.ext (.s 8) 0)),(6,.v (.ext (.s 8) 1))]⟩)
(.seq
(.reg ⟨[],[],[(4,.v (.s 5))]⟩)
.ret))),
[(4,.v)]⟩
theorem c51:Z8 Tryz.prog fresh sig [.fz,.fz,.fz] [] Tryz.f51=some p51:=by kernel_rfl
def p55:Fn:=⟨3,[0,2,3],
(.seq
(.reg ⟨[],[],[(1,.v (.c (.sl []))),(2,.v (.c (.int .i64 (0))))]⟩)
(.seq
(.reg ⟨[.call 3 [] (.id 81) false false [(.s 0),(.c (.sl [])),(.c (.bool false))]],[],[(1,.v (.ext (.s 3) 0)),(2,.v (.ext (.s 3) 1))]⟩)
.ret)),
[(1,.v),(2,.v)]⟩
theorem c55:Z8 Tryz.prog fresh sig [.fz] [] Tryz.f55=some p55:=by kernel_rfl
def p77:Fn:=⟨18,[0,1,2,3,6,7,8,9,19,10,11,12,13,37,14,15,46,54],
(.seq
(.reg ⟨[],[],[(3,.m [(.fld (.sz (.s 0) 10) 0),(.fld (.sz (.s 0) 10) 1),(.fld (.sz (.s 0) 10) 2),(.fld (.sz (.s 0) 10) 3),(.fld (.sz (.s 0) 10) 4),(.fld (.sz (.s 0) 10) 5),(.fld (.sz (.s 0) 10) 6),(.fld (.sz (.s 0) 10) 7),(.fld (.sz (.s 0) 10) 8),(.fld (.sz (.s 0) 10) 9)]),(4,.v (.c (.sl []))),(5,.v (.c (.bool false)))]⟩)
(.seq
(.reg ⟨[],[],[(6,.v (.c (.sl [])))]⟩)
(.seq
(.seq
(.reg ⟨[],[],[(7,.v (.c (.int .i64 (0))))]⟩)
(.block 0
 (.loop [0,1,2,3,4,5,6,7]
  (.seq
  (.seq
  (.reg ⟨[],[],[(8,.v (.bin .lss (.s 7) (.len (.s 1))))]⟩)
  (.cond (.s 8)
   .skip
   (.exit 0)))
  (.block 1
   (.seq
   (.reg ⟨[.call 18 [] (.id 84) false false [(.fld (.idx (.s 1) (.s 7) 1) 0)]],[],[(9,.m [(.fld (.sz (.ext (.s 18) 0) 2) 0),(.fld (.sz (.ext (.s 18) 0) 2) 1)]),(10,.v (.ext (.s 18) 1))]⟩)
   (.seq
   (.reg ⟨[.call 19 [] (.id 79) false false [(.fld (.idx (.s 1) (.s 7) 1) 0)]],[],[(11,.v (.ext (.s 19) 0)),(12,.v (.ext (.s 19) 1))]⟩)
   (.seq
   (.seq
   (.reg ⟨[],[],[(13,.v (.bin .eql (.s 12) (.c (.int .i64 (0)))))]⟩)
   (.cond (.s 13)
    (.seq
    (.reg ⟨[.call 20 [] (.id 80) false false [(.mm 3 0 10),(.c (.int .i64 (1))),(.s 2),(.s 11)]],[],[(14,.m [(.fld (.sz (.ext (.s 20) 0) 5) 0),(.fld (.sz (.ext (.s 20) 0) 5) 1),(.fld (.sz (.ext (.s 20) 0) 5) 2),(.fld (.sz (.ext (.s 20) 0) 5) 3),(.fld (.sz (.ext (.s 20) 0) 5) 4)]),(15,.v (.ext (.s 20) 1))]⟩)
    (.seq
    (.seq
    (.reg ⟨[],[],[(16,.v (.un .not (.s 15)))]⟩)
    (.cond (.s 16)
     (.seq
     (.reg ⟨[],[],[(5,.v (.c (.bool false)))]⟩)
     .ret)
     .skip))
    (.seq
    (.reg ⟨[],[],[(9,.m [(.fld (.mm 14 1 2) 0),(.fld (.mm 14 1 2) 1)])]⟩)
    (.seq
    (.reg ⟨[],[],[(10,.v (.c (.int .i64 (0))))]⟩)
    (.reg ⟨[],[],[(6,.v (.app (.s 6) (.lit [(.mm 9 0 2)]) 2))]⟩)))))
    .skip))
   (.seq
   (.seq
   (.reg ⟨[],[],[(17,.v (.bin .neq (.s 10) (.c (.int .i64 (0)))))]⟩)
   (.cond (.s 17)
    (.seq
    (.reg ⟨[],[],[(5,.v (.c (.bool false)))]⟩)
    .ret)
    .skip))
   (.reg ⟨[],[],[(7,.v (.bin .add (.bin .add (.s 7) (.c (.int .i64 (1)))) (.m 9 0)))]⟩))))))))))
(.seq
(.reg ⟨[],[],[(4,.v (.s 6)),(5,.v (.c (.bool true))),(6,.no)]⟩)
.ret)))),
[(4,.v),(5,.v)]⟩
theorem c77:Z8 Tryz.prog fresh sig [.fz,.fz,.fz] [] Tryz.f77=some p77:=by kernel_rfl
def p78:Fn:=⟨4,[0,1,4,5],
(.seq
(.reg ⟨[],[],[(2,.v (.c (.sl []))),(3,.v (.c (.int .i64 (0))))]⟩)
(.seq
(.reg ⟨[.call 4 [] (.id 81) false false [(.s 0),(.s 1),(.c (.bool true))]],[],[(2,.v (.ext (.s 4) 0)),(3,.v (.ext (.s 4) 1))]⟩)
.ret)),
[(2,.v),(3,.v)]⟩
theorem c78:Z8 Tryz.prog fresh sig [.fz,.fz] [] Tryz.f78=some p78:=by kernel_rfl
def p80:Fn:=⟨10,[0,1,2,3,4,8,9,10,14,26],
(.seq
(.reg ⟨[],[],[(4,.m [(.fld (.sz (.s 0) 10) 0),(.fld (.sz (.s 0) 10) 1),(.fld (.sz (.s 0) 10) 2),(.fld (.sz (.s 0) 10) 3),(.fld (.sz (.s 0) 10) 4),(.fld (.sz (.s 0) 10) 5),(.fld (.sz (.s 0) 10) 6),(.fld (.sz (.s 0) 10) 7),(.fld (.sz (.s 0) 10) 8),(.fld (.sz (.s 0) 10) 9)]),(5,.m [(.c (.int .i64 (0))),(.c (.int .i64 (0))),(.c (.int .i64 (0))),(.c (.bool false)),(.c (.int .u64 (0)))]),(6,.v (.c (.bool false)))]⟩)
(.seq
(.seq
(.reg ⟨[],[],[(7,.v (.c (.int .i64 (0))))]⟩)
(.block 0
 (.loop [0,1,2,3,4,5,6,7]
  (.seq
  (.seq
  (.reg ⟨[],[],[(8,.v (.bin .lss (.s 7) (.len (.s 2))))]⟩)
  (.cond (.s 8)
   .skip
   (.exit 0)))
  (.seq
  (.block 1
   (.seq
   (.reg ⟨[.call 10 [] (.id 51) false false [(.mm 4 0 10),(.s 1),(.fld (.idx (.s 2) (.s 7) 5) 0)]],[],[(9,.v (.bin .eql (.s 10) (.s 3)))]⟩)
   (.cond (.s 9)
    (.seq
    (.reg ⟨[],[],[(5,.m [(.fld (.flds (.idx (.s 2) (.s 7) 5) 0 5) 0),(.fld (.flds (.idx (.s 2) (.s 7) 5) 0 5) 1),(.fld (.flds (.idx (.s 2) (.s 7) 5) 0 5) 2),(.fld (.flds (.idx (.s 2) (.s 7) 5) 0 5) 3),(.fld (.flds (.idx (.s 2) (.s 7) 5) 0 5) 4)]),(6,.v (.c (.bool true)))]⟩)
    .ret)
    .skip)))
  (.reg ⟨[],[],[(7,.v (.bin .add (.s 7) (.c (.int .i64 (1)))))]⟩))))))
(.seq
(.reg ⟨[],[],[(5,.m [(.fld (.ag [(.c (.int .i64 (0))),(.c (.int .i64 (0))),(.c (.int .i64 (0))),(.c (.bool false)),(.c (.int .u64 (0)))]) 0),(.fld (.ag [(.c (.int .i64 (0))),(.c (.int .i64 (0))),(.c (.int .i64 (0))),(.c (.bool false)),(.c (.int .u64 (0)))]) 1),(.fld (.ag [(.c (.int .i64 (0))),(.c (.int .i64 (0))),(.c (.int .i64 (0))),(.c (.bool false)),(.c (.int .u64 (0)))]) 2),(.fld (.ag [(.c (.int .i64 (0))),(.c (.int .i64 (0))),(.c (.int .i64 (0))),(.c (.bool false)),(.c (.int .u64 (0)))]) 3),(.fld (.ag [(.c (.int .i64 (0))),(.c (.int .i64 (0))),(.c (.int .i64 (0))),(.c (.bool false)),(.c (.int .u64 (0)))]) 4)]),(6,.v (.c (.bool false)))]⟩)
.ret))),
[(5,(.ag 5)),(6,.v)]⟩
theorem c80:Z8 Tryz.prog fresh sig [.fz,.fz,.fz,.fz] [] Tryz.f80=some p80:=by kernel_rfl
def p81:Fn:=⟨21,[0,1,2,6,7,8,9,10,20,11,12,13,35,47,14,15,67,79,16,93,108],
(.seq
(.reg ⟨[],[],[(3,.v (.c (.sl []))),(4,.v (.c (.int .i64 (0))))]⟩)
(.seq
(.reg ⟨[],[],[(5,.v (.c (.sl [])))]⟩)
(.seq
(.reg ⟨[],[],[(6,.v (.c (.int .i64 (0))))]⟩)
(.seq
(.seq
(.reg ⟨[],[],[(7,.v (.c (.int .i64 (0))))]⟩)
(.block 0
 (.loop [0,1,2,3,4,5,6,7]
  (.seq
  (.seq
  (.reg ⟨[],[],[(8,.v (.bin .lss (.s 7) (.len (.s 0))))]⟩)
  (.cond (.s 8)
   .skip
   (.exit 0)))
  (.block 1
   (.seq
   (.reg ⟨[],[],[(9,.m [(.fld (.ag [(.one (.s 7)),(.c (.int .i64 (0))),(.c (.int .i64 (0))),(.c (.bool false)),(.c (.int .u64 (0)))]) 0),(.fld (.ag [(.one (.s 7)),(.c (.int .i64 (0))),(.c (.int .i64 (0))),(.c (.bool false)),(.c (.int .u64 (0)))]) 1),(.fld (.ag [(.one (.s 7)),(.c (.int .i64 (0))),(.c (.int .i64 (0))),(.c (.bool false)),(.c (.int .u64 (0)))]) 2),(.fld (.ag [(.one (.s 7)),(.c (.int .i64 (0))),(.c (.int .i64 (0))),(.c (.bool false)),(.c (.int .u64 (0)))]) 3),(.fld (.ag [(.one (.s 7)),(.c (.int .i64 (0))),(.c (.int .i64 (0))),(.c (.bool false)),(.c (.int .u64 (0)))]) 4)])]⟩)
   (.seq
   (.reg ⟨[.call 21 [] (.id 79) false false [(.fld (.idx (.s 0) (.s 7) 1) 0)]],[],[(10,.v (.ext (.s 21) 0)),(11,.v (.ext (.s 21) 1))]⟩)
   (.seq
   (.seq
   (.reg ⟨[.lt 22 [] (.s 2)],[([(22,true)],(.bin .eql (.s 11) (.c (.int .i64 (0)))))],[(12,.v (.ite (.s 22) (.bin .eql (.s 11) (.c (.int .i64 (0)))) (.c (.bool false))))]⟩)
   (.cond (.s 12)
    (.seq
    (.seq
    (.reg ⟨[.lt 23 [] (.bin .eql (.s 6) (.len (.s 1))),.call 24 [(23,false)] (.id 82) false false [(.flds (.idx (.s 1) (.s 6) 2) 0 2)]],[([(23,false)],(.un .not (.s 24)))],[(13,.v (.ite (.s 23) (.c (.bool true)) (.un .not (.s 24))))]⟩)
    (.cond (.s 13)
     (.seq
     (.reg ⟨[],[],[(4,.v (.c (.int .i64 (3))))]⟩)
     .ret)
     .skip))
    (.seq
    (.reg ⟨[],[],[(9,.m [(.m 9 0),(.m 9 1),(.m 9 2),(.c (.bool true)),(.m 9 4)])]⟩)
    (.seq
    (.reg ⟨[],[],[(9,.m [(.m 9 0),(.m 9 1),(.m 9 2),(.m 9 3),(.one (.s 10))])]⟩)
    (.seq
    (.reg ⟨[],[],[(9,.m [(.m 9 0),(.fld (.flds (.idx (.s 1) (.s 6) 2) 0 2) 0),(.fld (.flds (.idx (.s 1) (.s 6) 2) 0 2) 1),(.m 9 3),(.m 9 4)])]⟩)
    (.reg ⟨[],[],[(6,.v (.bin .add (.s 6) (.c (.int .i64 (1)))))]⟩)))))
    (.seq
    (.reg ⟨[.call 25 [] (.id 84) false false [(.fld (.idx (.s 0) (.s 7) 1) 0)]],[],[(14,.m [(.fld (.sz (.ext (.s 25) 0) 2) 0),(.fld (.sz (.ext (.s 25) 0) 2) 1)]),(15,.v (.ext (.s 25) 1))]⟩)
    (.seq
    (.seq
    (.reg ⟨[],[],[(16,.v (.bin .neq (.s 15) (.c (.int .i64 (0)))))]⟩)
    (.cond (.s 16)
     (.seq
     (.reg ⟨[],[],[(4,.v (.s 15))]⟩)
     .ret)
     .skip))
    (.reg ⟨[],[],[(9,.m [(.m 9 0),(.fld (.mm 14 0 2) 0),(.fld (.mm 14 0 2) 1),(.m 9 3),(.m 9 4)])]⟩)))))
   (.seq
   (.seq
   (.reg ⟨[],[],[(17,.v (.bin .gtr (.bin .add (.bin .add (.s 7) (.c (.int .i64 (1)))) (.m 9 1)) (.len (.s 0))))]⟩)
   (.cond (.s 17)
    (.seq
    (.reg ⟨[],[],[(4,.v (.c (.int .i64 (2))))]⟩)
    .ret)
    .skip))
   (.seq
   (.reg ⟨[.call 26 [] (.id 98) false false [(.slc (.s 0) (.bin .add (.s 7) (.c (.int .i64 (1)))) (.bin .add (.bin .add (.s 7) (.c (.int .i64 (1)))) (.m 9 1)) 1),(.mm 9 0 5)]],[],[(18,.v (.s 26))]⟩)
   (.seq
   (.seq
   (.reg ⟨[],[],[(19,.v (.bin .neq (.s 18) (.c (.int .i64 (0)))))]⟩)
   (.cond (.s 19)
    (.seq
    (.reg ⟨[],[],[(4,.v (.s 18))]⟩)
    .ret)
    .skip))
   (.seq
   (.reg ⟨[],[],[(5,.v (.app (.s 5) (.lit [(.mm 9 0 5)]) 5))]⟩)
   (.reg ⟨[],[],[(7,.v (.bin .add (.bin .add (.s 7) (.c (.int .i64 (1)))) (.m 9 1)))]⟩)))))))))))))
(.seq
(.seq
(.reg ⟨[],[],[(20,.v (.bin .lss (.s 6) (.len (.s 1))))]⟩)
(.cond (.s 20)
 (.seq
 (.reg ⟨[],[],[(4,.v (.c (.int .i64 (3))))]⟩)
 .ret)
 .skip))
(.seq
(.reg ⟨[],[],[(3,.v (.s 5)),(4,.v (.c (.int .i64 (0)))),(5,.no)]⟩)
.ret)))))),
[(3,.v),(4,.v)]⟩
theorem c81:Z8 Tryz.prog fresh sig [.fz,.fz,.fz] [] Tryz.f81=some p81:=by kernel_rfl
def p98:Fn:=⟨8,[0,1,3,4,5,9,20,33],
(.seq
(.reg ⟨[],[],[(2,.m [(.fld (.sz (.s 1) 5) 0),(.fld (.sz (.s 1) 5) 1),(.fld (.sz (.s 1) 5) 2),(.fld (.sz (.s 1) 5) 3),(.fld (.sz (.s 1) 5) 4)]),(3,.v (.c (.int .i64 (0))))]⟩)
(.seq
(.seq
(.reg ⟨[],[],[(4,.v (.c (.int .i64 (0))))]⟩)
(.block 0
 (.loop [0,1,2,3,4]
  (.seq
  (.seq
  (.reg ⟨[],[],[(5,.v (.bin .lss (.s 4) (.len (.s 0))))]⟩)
  (.cond (.s 5)
   .skip
   (.exit 0)))
  (.seq
  (.block 1
   (.seq
   (.seq
   (.reg ⟨[.lt 8 [] (.m 2 3)],[([(8,true)],(.bin .neq (.fld (.idx (.s 0) (.s 4) 1) 0) (.c (.int .u64 (0)))))],[(6,.v (.ite (.s 8) (.bin .neq (.fld (.idx (.s 0) (.s 4) 1) 0) (.c (.int .u64 (0)))) (.c (.bool false))))]⟩)
   (.cond (.s 6)
    (.seq
    (.reg ⟨[],[],[(3,.v (.c (.int .i64 (3))))]⟩)
    .ret)
    .skip))
   (.seq
   (.reg ⟨[.lt 9 [] (.bin .lss (.s 4) (.m 2 2)),.call 10 [(9,true)] (.id 113) false false [(.fld (.idx (.s 0) (.s 4) 1) 0)]],[([(9,true)],(.un .not (.s 10)))],[(7,.v (.ite (.s 9) (.un .not (.s 10)) (.c (.bool false))))]⟩)
   (.cond (.s 7)
    (.seq
    (.reg ⟨[],[],[(3,.v (.c (.int .i64 (3))))]⟩)
    .ret)
    .skip))))
  (.reg ⟨[],[],[(4,.v (.bin .add (.s 4) (.c (.int .i64 (1)))))]⟩))))))
(.seq
(.reg ⟨[],[],[(3,.v (.c (.int .i64 (0))))]⟩)
.ret))),
[(3,.v)]⟩
theorem c98:Z8 Tryz.prog fresh sig [.fz,.fz] [] Tryz.f98=some p98:=by kernel_rfl
def p113:Fn:=⟨4,[0,2,3,4],
(.seq
(.reg ⟨[],[],[(1,.v (.c (.bool false)))]⟩)
(.seq
(.reg ⟨[.call 4 [] (.id 79) false false [(.s 0)]],[],[(2,.v (.ext (.s 4) 0)),(3,.v (.ext (.s 4) 1))]⟩)
(.seq
(.reg ⟨[.lt 5 [] (.bin .eql (.s 0) (.c (.int .u64 (0))))],[([(5,false)],(.bin .eql (.s 3) (.c (.int .i64 (0)))))],[(1,.v (.ite (.s 5) (.c (.bool true)) (.bin .eql (.s 3) (.c (.int .i64 (0))))))]⟩)
.ret))),
[(1,.v)]⟩
theorem c113:Z8 Tryz.prog fresh sig [.fz] [] Tryz.f113=some p113:=by kernel_rfl
end Vm
end
section
namespace Vm
open Go Go.Proofs
set_option maxRecDepth 100000
set_option maxHeartbeats 1000000
structure Ob where
 at_:Int
 size:Int
 ptrs:Int
 gone:Bool
 target:Int
 deriving DecidableEq,Inhabited
def obV(o:Ob):V:= .agg [vi o.at_,vi o.size,vi o.ptrs,.bool o.gone,vu o.target]
@[simp] theorem Z4U(o:Ob):szV (obV o) 5=some (obV o):=rfl
@[simp] theorem Z3b(o:Ob):Tn (obV o) 0 5=some (obV o):=rfl
@[simp] theorem Z2J(o:Ob):(obV o).cells= [vi o.at_,vi o.size,vi o.ptrs,.bool o.gone,vu o.target]:=rfl
@[simp] theorem Z1T(o:Ob):fldV (obV o) 0=some (vi o.at_):=rfl
@[simp] theorem Z3g(o:Ob):fldV (obV o) 1=some (vi o.size):=rfl
@[simp] theorem Z3m(o:Ob):fldV (obV o) 2=some (vi o.ptrs):=rfl
@[simp] theorem Z2S(o:Ob):fldV (obV o) 3=some (.bool o.gone):=rfl
@[simp] theorem Z3p(o:Ob):fldV (obV o) 4=some (vu o.target):=rfl
@[simp] theorem Z16(o:Ob):Tn (obV o) 1 2=some (shV o.size o.ptrs):=rfl
@[simp] theorem Z1z(l:List Ob):ZR 5 (l.map obV)=true:=X7 fun _=>rfl
def shP(s:Int×Int):V:=shV s.1 s.2
@[simp] theorem Z29(s:Int×Int):(shP s).cells= [vi s.1,vi s.2]:=rfl
@[simp] theorem Z4t(s:Int×Int):szV (shP s) 2=some (shP s):=rfl
@[simp] theorem Z28(s:Int×Int):Tn (shP s) 0 2=some (shP s):=rfl
@[simp] theorem Z2y(s:Int×Int):fldV (shP s) 0=some (vi s.1):=rfl
@[simp] theorem Z1P(s:Int×Int):fldV (shP s) 1=some (vi s.2):=rfl
@[simp] theorem Z1v(l:List (Int×Int)):ZR 2 (l.map shP)=true:=X7 fun _=>rfl
def Va(w:Int):Bool:=decide (w=0)||decide ((adr w).2=0)
theorem Rn{w:Int}(hw:U64 w):VC Tryz.prog 113 false [vu w] (.bool (Va w)):=by
 refine Z3 Tryz.func113 follows (by kernel_rfl) c113 rfl ?_
 simp[p113]
 refine Z0 (XJ hw) (by simp) ?_
 by_cases h:w=0<;>simp[Va,h]
def Zt(l:List Int)(gone:Bool)(ptrs:Int)(i:Nat):Bool:=
 match l with
 | []=>true
 |w::l=>(!gone||decide (w=0))&&(!decide ((i:Int) <ptrs)||Va w)&&Zt l gone ptrs (i+1)
theorem UE{l:List Int}{gone:Bool}{ptrs:Int}{i:Nat}{w:Int}(h:l[i]? =some w):Zt (l.drop i) gone ptrs i=((!gone||decide (w=0))&&(!decide ((i:Int) <ptrs)||Va w)&&Zt (l.drop (i+1)) gone ptrs (i+1)):=by
 obtain⟨h1,h2⟩:=List.getElem?_eq_some_iff.1 h
 rw[List.drop_eq_getElem_cons h1,h2]
 rfl
theorem TX{l:List Int}{o:Ob}(hl:l.length≤1000000)(hw: ∀w∈l,U64 w):VC Tryz.prog 98 false [.sl (l.map vu),obV o] (vi (if Zt l o.gone o.ptrs 0 then 0 else 3)):=by
 refine Z3 Tryz.func98 follows (by kernel_rfl) c98 rfl ?_
 simp[p98]
 refine Yn 4 l.length (fun i=>Zt l o.gone o.ptrs 0=Zt (l.drop i) o.gone o.ptrs i) (by simp) (by simp) (by simp) ?_
 intro i hi hinv
 have hwi:=Z1 ((i:Int)+1) (by omega) (by omega)
 by_cases h:i<l.length
 ·have hx:l[i]? =some l[i]:=List.getElem?_eq_getElem h
  have hu:=hw _ (List.getElem_mem h)
  rw[UE hx]at hinv
  generalize l[i]=w at*
  rw[hinv]
  by_cases g1:o.gone=true∧w≠0
  ·simp[h,hx,Zh hx,g1.1,g1.2]
  ·have g1':(!o.gone||decide (w=0))=true:=by
    cases hg:o.gone
    ·rfl
    ·simp[hg]at g1
     simp[g1]
   have hp:=Rn hu
   by_cases g2:(i:Int) <o.ptrs
   ·cases hg:o.gone
    ·cases hip:Va w
     all_goals
      rw[hip]at hp
      simp[h,hx,Zh hx,hg,g2]
      refine Z0 hp (by simp) ?_
      simp[hwi,hg,h]
    ·rw[hg]at g1'
     simp at g1'
     subst g1'
     have hp0:Va 0=true:=rfl
     rw[hp0]at hp
     simp[h,hx,Zh hx,hg,g2]
     refine Z0 hp (by simp) ?_
     simp[hwi,hg,h,hp0]
   ·cases hg:o.gone
    all_goals
     rw[hg]at g1'
     simp at g1'
     simp[h,hx,Zh hx,hg,g1',g2,hwi]
 ·have:i=l.length:=by omega
  subst this
  rw[hinv]
  simp[Zt]
def objR(shs:List (Int×Int))(old:Bool)(at_ tk:Nat)(w:Int):Option (Ob×Nat):=
 if old=true∧(adr w).2=0 then
  match shs[tk]? with
  |none=>none
  |some s=>if Zf s.1 s.2 then some (⟨at_,s.1,s.2,true,(adr w).1⟩,tk+1)else none
 else if(unpk w).2.2=0 then some (⟨at_,(unpk w).1,(unpk w).2.1,false,0⟩,tk)else none
theorem Uc{w:Int}(h:(unpk w).2.2=0):Zf (unpk w).1 (unpk w).2.1=true:=by
 unfold unpk at*
 split
 ·rename_i h1;exact h1.2
 ·rename_i h1;rw[if_neg h1]at h;simp at h
theorem V5{shs:List (Int×Int)}{old:Bool}{at_ tk:Nat}{w:Int}{o:Ob}{t:Nat}(h:objR shs old at_ tk w=some (o,t)):Zf o.size o.ptrs=true∧o.at_=at_:=by
 unfold objR at h
 split at h
 ·split at h
  ·cases h
  ·split at h
   ·rename_i s _ hs
    cases h
    exact⟨hs,rfl⟩
   ·cases h
 ·split at h
  ·rename_i h1
   cases h
   exact⟨Uc h1,rfl⟩
  ·cases h
def Yp(ws:List Int)(shs:List (Int×Int))(old:Bool):Nat→Nat→Nat→List Ob→List Ob×Int
 |0,_,_,_=>([],3)
 |f+1,at_,tk,acc=>
  match ws[at_]? with
  |none=>if tk<shs.length then([],3)else(acc,0)
  |some w=>match objR shs old at_ tk w with
   |none=>([],3)
   |some (o,t)=>
    if(ws.length:Int) <at_+1+o.size then([],2)
    else if Zt ((ws.drop (at_+1)).take o.size.toNat) o.gone o.ptrs 0=false then([],3)
    else Yp ws shs old f (at_+1+o.size.toNat) t (acc++ [o])
def Zg(ws:List Int)(shs:List (Int×Int))(old:Bool):List Ob×Int:=Yp ws shs old (ws.length+1) 0 0 []
theorem SZ{ws:List Int}{shs:List (Int×Int)}{old:Bool}(hl:ws.length≤1000000)(hs:shs.length≤1000000)(hw: ∀w∈ws,U64 w):
  VC Tryz.prog 81 false [.sl (ws.map vu),.sl (shs.map shP),.bool old] (.tup [.sl ((Zg ws shs old).1.map obV),vi (Zg ws shs old).2]):=by
 refine Z3 Tryz.func81 follows (by kernel_rfl) c81 rfl ?_
 simp[p81]
 refine Zz (fun(p:Nat×Nat×List Ob)=> [(5,.v (.sl (p.2.2.map obV))),(6,.v (vi p.2.1)),(7,.v (vi p.1))])
  (fun p=>p.1≤ws.length∧p.2.1≤shs.length∧p.2.2.length≤p.1∧ ∃f,ws.length<f+p.1∧Zg ws shs old=Yp ws shs old f p.1 p.2.1 p.2.2)
  (cnt 7 ws.length) (0,0,[]) (by simp) ⟨by simp,by simp,by simp,ws.length+1,by simp,rfl⟩ ?_
 rintro⟨at_,tk,acc⟩ ⟨ha,ht,hacc,f,hf,hR⟩
 simp only at ha ht hacc hf hR
 cases f with
 |zero=>omega
 |succ f=>
 have hw1:=Z1 ((at_:Int)+1) (by omega) (by omega)
 by_cases h:at_<ws.length
 ·have hx:ws[at_]? =some ws[at_]:=List.getElem?_eq_getElem h
  have hu:=hw _ (List.getElem_mem h)
  generalize ws[at_]=w at*
  simp only[Yp,hx]at hR
  have hadr:=XJ hu
  have hunp:=Uf hu
  simp[h,hx,Zh hx]
  refine Z0 hadr (by simp) ?_
  unfold objR at hR
  by_cases hA:old=true∧(adr w).2=0
  ·rw[if_pos hA]at hR
   obtain⟨hA1,hA2⟩:=hA
   subst hA1
   simp[hA2]
   by_cases htk:tk<shs.length
   ·have hs0:shs[tk]? =some shs[tk]:=List.getElem?_eq_getElem htk
    generalize shs[tk]=s at*
    have htn: ¬((tk:Int)=(shs.length:Int)):=by omega
    simp only[hs0]at hR
    have hr5:=Wu (s:=s.1) (p:=s.2)
    simp[htn,hs0]
    refine Z0 hr5 (by simp[shP]) ?_
    cases hshape:Zf s.1 s.2
    ·rw[hshape]at hR
     simp at hR
     rw[hR]
     simp
    ·rw[hshape]at hR
     simp at hR
     have hwt:=Z1 ((tk:Int)+1) (by omega) (by omega)
     have hsh:=Z2.1 hshape
     obtain⟨z,hz⟩:=Int.eq_ofNat_of_zero_le hsh.1
     have hz2:=hsh.2.1
     have w2:=Z1 ((at_:Int)+1+z) (by omega) (by omega)
     obtain⟨m1,hm1⟩: ∃m:Nat,at_+1=m:=⟨_,rfl⟩
     obtain⟨m2,hm2⟩: ∃m:Nat,at_+1+z=m:=⟨_,rfl⟩
     have hi1:(at_:Int)+1=m1:=by omega
     have hi2:(m1:Int)+z=m2:=by omega
     rw[hi1]at hw1
     rw[hi1,hi2]at w2
     rw[hi1,hz,hi2,Int.toNat_natCast,hm1,show m1+z=m2 by omega]at hR
     by_cases hbig:(ws.length:Int) <m2
     ·rw[if_pos hbig]at hR
      rw[hR]
      simp[hs0,hz,hi1,hw1,hi2,w2,hbig]
     ·rw[if_neg hbig]at hR
      have hsl:((ws.map vu).take m2).drop m1=((ws.drop m1).take z).map vu:=by
       rw[←List.map_take,←List.map_drop,List.drop_take,show m2-m1=z by omega]
      have hslots:=TX (l:=(ws.drop m1).take z) (o:=⟨at_,z,s.2,true,(adr w).1⟩) (by simp;omega) (fun q hq=>hw q (List.mem_of_mem_drop (List.mem_of_mem_take hq)))
      have hle:m1≤m2:=by omega
      have hle2:m2≤ws.length:=by omega
      have hso:ZR 1 (ws.map vu)=true:=XI _
      have hlim:acc.length+1≤lim:=by simp[lim];omega
      simp[hs0,hz,hi1,hw1,hi2,w2,hbig,hle,hle2,hso,hsl]
      rw[←List.map_drop,←List.map_take]
      refine Z0 hslots (by simp) ?_
      cases hok:Zt ((ws.drop m1).take z) true s.2 0
      ·rw[hok]at hR
       simp at hR
       rw[hR]
       simp
      ·rw[hok]at hR
       simp at hR
       simp[hwt,hlim,hi1,hw1,hi2,w2,hz]
       exact⟨m2,tk+1,acc++ [⟨at_,z,s.2,true,(adr w).1⟩],⟨by omega,by omega,by simp;omega,f,by omega,hR⟩,by simp[obV],by simp[cnt];omega⟩
   ·have htn:tk=shs.length:=by omega
    have hs0:shs[tk]? =none:=List.getElem?_eq_none (by omega)
    simp only[hs0]at hR
    rw[hR]
    simp[htn]
  ·rw[if_neg hA]at hR
   by_cases hun:(unpk w).2.2=0
   ·rw[if_pos hun]at hR
    have hshape:=Uc hun
    simp only at hR
    by_cases g1:old=true
    case' pos=>
     have g2: ¬(adr w).2=0:=fun g2=>hA ⟨g1,g2⟩
     subst g1
     simp[g2,hx]
    case' neg=>
     have g1':old=false:=by simpa using g1
     subst g1'
     simp[hx]
    all_goals
     refine Z0 hunp (by simp) ?_
     have hsh:=Z2.1 hshape
     obtain⟨z,hz⟩:=Int.eq_ofNat_of_zero_le hsh.1
     have hz2:=hsh.2.1
     have w2:=Z1 ((at_:Int)+1+z) (by omega) (by omega)
     obtain⟨m1,hm1⟩: ∃m:Nat,at_+1=m:=⟨_,rfl⟩
     obtain⟨m2,hm2⟩: ∃m:Nat,at_+1+z=m:=⟨_,rfl⟩
     have hi1:(at_:Int)+1=m1:=by omega
     have hi2:(m1:Int)+z=m2:=by omega
     rw[hi1]at hw1
     rw[hi1,hi2]at w2
     rw[hi1,hz,hi2,Int.toNat_natCast,hm1,show m1+z=m2 by omega]at hR
     by_cases hbig:(ws.length:Int) <m2
     ·rw[if_pos hbig]at hR
      rw[hR]
      simp[hun,hz,hi1,hw1,hi2,w2,hbig]
     ·rw[if_neg hbig]at hR
      have hsl:((ws.map vu).take m2).drop m1=((ws.drop m1).take z).map vu:=by
       rw[←List.map_take,←List.map_drop,List.drop_take,show m2-m1=z by omega]
      have hslots:=TX (l:=(ws.drop m1).take z) (o:=⟨at_,z,(unpk w).2.1,false,0⟩) (by simp;omega) (fun q hq=>hw q (List.mem_of_mem_drop (List.mem_of_mem_take hq)))
      have hle:m1≤m2:=by omega
      have hle2:m2≤ws.length:=by omega
      have hso:ZR 1 (ws.map vu)=true:=XI _
      have hlim:acc.length+1≤lim:=by simp[lim];omega
      simp[hun,hz,hi1,hw1,hi2,w2,hbig,hle,hle2,hso,hsl]
      rw[←List.map_drop,←List.map_take]
      refine Z0 hslots (by simp) ?_
      cases hok:Zt ((ws.drop m1).take z) false (unpk w).2.1 0
      ·rw[hok]at hR
       simp at hR
       rw[hR]
       simp
      ·rw[hok]at hR
       simp at hR
       simp[hlim,hi1,hw1,hi2,w2,hz]
       exact⟨m2,tk,acc++ [⟨at_,z,(unpk w).2.1,false,0⟩],⟨by omega,by omega,by simp;omega,f,by omega,hR⟩,by simp[obV],by simp[cnt];omega⟩
   ·rw[if_neg hun]at hR
    simp only at hR
    have hu3:(unpk w).2.2=3:=by
     unfold unpk at*
     split
     ·rename_i h1;rw[if_pos h1]at hun;simp at hun
     ·rfl
    rw[hR]
    by_cases g1:old=true
    ·have g2: ¬(adr w).2=0:=fun g2=>hA ⟨g1,g2⟩
     subst g1
     simp[g2,hx]
     refine Z0 hunp (by simp) ?_
     simp[hu3]
    ·have g1':old=false:=by simpa using g1
     subst g1'
     simp[hx]
     refine Z0 hunp (by simp) ?_
     simp[hu3]
 ·have hx:ws[at_]? =none:=List.getElem?_eq_none (by omega)
  simp only[Yp,hx]at hR
  rw[hR]
  simp[h]
  by_cases h2:tk<shs.length
  ·simp[h2]
  ·simp[h2]
def ObIn(n:Nat)(o:Ob):Prop:=(∃a:Nat,o.at_=a∧(a:Int)+1+o.size≤n)∧Zf o.size o.ptrs=true
theorem JT{shs:List (Int×Int)}{old:Bool}{at_ tk:Nat}{w:Int}{o:Ob}{t:Nat}(hw:U64 w)(h:objR shs old at_ tk w=some (o,t)):U64 o.target:=by
 unfold objR at h
 split at h
 ·split at h
  ·cases h
  ·split at h
   ·cases h
    obtain⟨h1,h2⟩:=hw
    show 0≤(adr w).1∧(adr w).1<18446744073709551616
    unfold adr
    split
    ·simp
    split
    ·simp
    ·simp only;omega
   ·cases h
 ·split at h
  ·cases h
   show(0:Int)≤0∧(0:Int) <18446744073709551616
   omega
  ·cases h
theorem L6{ws:List Int}{shs:List (Int×Int)}{old:Bool}(hw: ∀w∈ws,U64 w): ∀(f at_ tk:Nat) (acc:List Ob),(∀o∈acc,ObIn ws.length o∧U64 o.target)→ ∀o∈(Yp ws shs old f at_ tk acc).1,ObIn ws.length o∧U64 o.target
 |0,_,_,_,_=>by simp[Yp]
 |f+1,at_,tk,acc,hacc=>by
  simp only[Yp]
  split
  ·split
   ·simp
   ·exact hacc
  ·rename_i w hx
   split
   ·simp
   ·rename_i o t ho
    split
    ·simp
    ·rename_i hb
     split
     ·simp
     ·refine L6 hw f _ _ _ fun o' ho'=> ?_
      rcases List.mem_append.1 ho' with h|h
      ·exact hacc o' h
      ·simp only[List.mem_singleton]at h
       subst h
       obtain⟨h1,h2⟩:=V5 ho
       exact⟨⟨⟨at_,h2,by omega⟩,h1⟩,JT (hw w (List.mem_of_getElem? hx)) ho⟩
theorem W7{ws:List Int}{shs:List (Int×Int)}{old:Bool}(hw: ∀w∈ws,U64 w): ∀o∈(Zg ws shs old).1,ObIn ws.length o∧U64 o.target:=L6 hw _ _ _ _ (by simp)
theorem J1{ws:List Int}{shs:List (Int×Int)}{old:Bool}: ∀(f at_ tk:Nat) (acc:List Ob),at_≤ws.length→acc.length≤at_→(Yp ws shs old f at_ tk acc).1.length≤ws.length
 |0,_,_,_,_,_=>by simp[Yp]
 |f+1,at_,tk,acc,ha,hacc=>by
  simp only[Yp]
  split
  ·split
   ·simp
   ·simp only;omega
  ·split
   ·simp
   ·rename_i o t ho
    split
    ·simp
    ·rename_i hb
     split
     ·simp
     ·have hsh:=Z2.1 (V5 ho).1
      refine J1 f _ _ _ (by omega) (by simp;omega)
theorem Xp{ws:List Int}{shs:List (Int×Int)}{old:Bool}:(Zg ws shs old).1.length≤ws.length:=J1 _ _ _ _ (by omega) (by simp)
theorem U9{ws:List Int}(hl:ws.length≤1000000)(hw: ∀w∈ws,U64 w):VC Tryz.prog 55 false [.sl (ws.map vu)] (.tup [.sl ((Zg ws [] false).1.map obV),vi (Zg ws [] false).2]):=by
 refine Z3 Tryz.func55 follows (by kernel_rfl) c55 rfl ?_
 simp[p55]
 refine Z0 (SZ (shs:= []) (old:=false) hl (by simp) hw) (by simp) ?_
 simp
theorem VR{ws:List Int}{shs:List (Int×Int)}(hl:ws.length≤1000000)(hs:shs.length≤1000000)(hw: ∀w∈ws,U64 w):VC Tryz.prog 78 false [.sl (ws.map vu),.sl (shs.map shP)] (.tup [.sl ((Zg ws shs true).1.map obV),vi (Zg ws shs true).2]):=by
 refine Z3 Tryz.func78 follows (by kernel_rfl) c78 rfl ?_
 simp[p78]
 refine Z0 (SZ (old:=true) hl hs hw) (by simp) ?_
 simp
end Vm
end
section
namespace Vm
open Go
open Go.Proofs
set_option maxRecDepth 100000
def p28:Fn:=⟨16,[0,1,2,10,3,4,17,5,27,41,6,46,57,7,59,66],
(.seq
(.reg ⟨[],[],[(1,.m [(.fld (.sz (.s 0) 10) 0),(.fld (.sz (.s 0) 10) 1),(.fld (.sz (.s 0) 10) 2),(.fld (.sz (.s 0) 10) 3),(.fld (.sz (.s 0) 10) 4),(.fld (.sz (.s 0) 10) 5),(.fld (.sz (.s 0) 10) 6),(.fld (.sz (.s 0) 10) 7),(.fld (.sz (.s 0) 10) 8),(.fld (.sz (.s 0) 10) 9)]),(2,.v (.c (.bool false)))]⟩)
(.seq
(.seq
(.reg ⟨[.call 16 [] (.id 48) false false [(.mm 1 0 10)]],[],[(3,.v (.un .not (.s 16)))]⟩)
(.cond (.s 3)
 (.seq
 (.reg ⟨[],[],[(2,.v (.c (.bool false)))]⟩)
 .ret)
 .skip))
(.seq
(.reg ⟨[.call 17 [] (.id 49) false false [(.mm 1 0 10)]],[],[(4,.v (.ext (.s 17) 0)),(5,.v (.ext (.s 17) 1))]⟩)
(.seq
(.seq
(.reg ⟨[],[],[(6,.v (.un .not (.s 5)))]⟩)
(.cond (.s 6)
 (.seq
 (.reg ⟨[],[],[(2,.v (.c (.bool false)))]⟩)
 .ret)
 .skip))
(.seq
(.seq
(.reg ⟨[],[],[(7,.v (.c (.int .i64 (0))))]⟩)
(.block 0
 (.loop [0,1,2,3,4,5,6,7]
  (.seq
  (.seq
  (.reg ⟨[.lt 18 [] (.bin .lss (.s 7) (.len (.fld (.idx (.s 4) (.c (.int .i64 (1))) 1) 0)))],[([(18,true)],(.m 1 3))],[(8,.v (.ite (.s 18) (.m 1 3) (.c (.bool false))))]⟩)
  (.cond (.s 8)
   .skip
   (.exit 0)))
  (.seq
  (.block 1
   (.seq
   (.reg ⟨[.call 19 [] (.id 51) false false [(.mm 1 0 10),(.c (.int .i64 (1))),(.fld (.idx (.fld (.idx (.s 4) (.c (.int .i64 (1))) 1) 0) (.s 7) 5) 0)],.call 20 [] (.id 50) false false [(.s 4),(.s 19)]],[],[(9,.v (.bin .neq (.s 20) (.c (.int .i64 (1)))))]⟩)
   (.cond (.s 9)
    (.seq
    (.reg ⟨[],[],[(2,.v (.c (.bool false)))]⟩)
    .ret)
    .skip)))
  (.reg ⟨[],[],[(7,.v (.bin .add (.s 7) (.c (.int .i64 (1)))))]⟩))))))
(.seq
(.seq
(.reg ⟨[],[],[(10,.v (.c (.int .i64 (0))))]⟩)
(.block 2
 (.loop [0,1,2,3,4,5,6,7,8,10]
  (.seq
  (.seq
  (.reg ⟨[],[],[(11,.v (.bin .lss (.s 10) (.len (.m 1 9))))]⟩)
  (.cond (.s 11)
   .skip
   (.exit 2)))
  (.seq
  (.block 3
   (.seq
   (.reg ⟨[.call 21 [] (.id 52) false false [(.mm 1 0 10),(.s 4),(.fld (.idx (.m 1 9) (.s 10) 1) 0),(.c (.int .i64 (1))),(.c (.int .i64 (2)))]],[],[(12,.v (.un .not (.s 21)))]⟩)
   (.cond (.s 12)
    (.seq
    (.reg ⟨[],[],[(2,.v (.c (.bool false)))]⟩)
    .ret)
    .skip)))
  (.reg ⟨[],[],[(10,.v (.bin .add (.s 10) (.c (.int .i64 (1)))))]⟩))))))
(.seq
(.seq
(.reg ⟨[],[],[(13,.v (.c (.int .i64 (1))))]⟩)
(.block 4
 (.loop [0,1,2,3,4,5,6,7,8,10,11,13]
  (.seq
  (.seq
  (.reg ⟨[],[],[(14,.v (.bin .leq (.s 13) (.c (.int .i64 (4)))))]⟩)
  (.cond (.s 14)
   .skip
   (.exit 4)))
  (.seq
  (.block 5
   (.seq
   (.reg ⟨[.call 22 [] (.id 53) false false [(.mm 1 0 10),(.s 4),(.s 13)]],[],[(15,.v (.un .not (.s 22)))]⟩)
   (.cond (.s 15)
    (.seq
    (.reg ⟨[],[],[(2,.v (.c (.bool false)))]⟩)
    .ret)
    .skip)))
  (.reg ⟨[],[],[(13,.v (.bin .add (.s 13) (.c (.int .i64 (1)))))]⟩))))))
(.seq
(.reg ⟨[.call 23 [] (.id 54) false false [(.s 4)]],[],[(2,.v (.bin .leq (.bin .add (.bin .add (.len (.m 1 5)) (.len (.m 1 6))) (.s 23)) (.m 1 1)))]⟩)
.ret)))))))),
[(2,.v)]⟩
theorem c28:Z8 Tryz.prog fresh sig [.fz] [] Tryz.f28=some p28:=by kernel_rfl
def p48:Fn:=⟨6,[0,1,2,3,27,29],
(.seq
(.reg ⟨[],[],[(1,.m [(.fld (.sz (.s 0) 10) 0),(.fld (.sz (.s 0) 10) 1),(.fld (.sz (.s 0) 10) 2),(.fld (.sz (.s 0) 10) 3),(.fld (.sz (.s 0) 10) 4),(.fld (.sz (.s 0) 10) 5),(.fld (.sz (.s 0) 10) 6),(.fld (.sz (.s 0) 10) 7),(.fld (.sz (.s 0) 10) 8),(.fld (.sz (.s 0) 10) 9)]),(2,.v (.c (.bool false)))]⟩)
(.seq
(.reg ⟨[.call 6 [] (.id 67) false false [(.mm 1 0 10)],.call 7 [] (.id 76) false false [(.s 6)]],[],[(3,.v (.s 7))]⟩)
(.seq
(.seq
(.reg ⟨[.lt 8 [] (.un .not (.s 3)),.lt 9 [] (.ite (.s 8) (.c (.bool true)) (.bin .gtr (.len (.m 1 9)) (.c (.int .i64 (16))))),.lt 10 [] (.ite (.s 9) (.c (.bool true)) (.bin .lss (.m 1 4) (.c (.int .i64 (0)))))],[([(8,false)],(.bin .gtr (.len (.m 1 9)) (.c (.int .i64 (16))))),([(9,false)],(.bin .lss (.m 1 4) (.c (.int .i64 (0))))),([(10,false)],(.bin .gtr (.m 1 4) (.len (.m 1 5))))],[(4,.v (.ite (.s 10) (.c (.bool true)) (.bin .gtr (.m 1 4) (.len (.m 1 5)))))]⟩)
(.cond (.s 4)
 (.seq
 (.reg ⟨[],[],[(2,.v (.c (.bool false)))]⟩)
 .ret)
 .skip))
(.seq
(.seq
(.reg ⟨[],[],[(5,.v (.m 1 3))]⟩)
(.cond (.s 5)
 (.seq
 (.reg ⟨[],[],[(2,.v (.bin .lss (.m 1 4) (.len (.m 1 5))))]⟩)
 .ret)
 .skip))
(.seq
(.reg ⟨[.lt 11 [] (.bin .eql (.m 1 4) (.len (.m 1 5))),.lt 12 [] (.ite (.s 11) (.bin .eql (.len (.m 1 7)) (.c (.int .i64 (0)))) (.c (.bool false)))],[([(11,true)],(.bin .eql (.len (.m 1 7)) (.c (.int .i64 (0))))),([(12,true)],(.bin .eql (.len (.m 1 8)) (.c (.int .i64 (0)))))],[(2,.v (.ite (.s 12) (.bin .eql (.len (.m 1 8)) (.c (.int .i64 (0)))) (.c (.bool false))))]⟩)
.ret))))),
[(2,.v)]⟩
theorem c48:Z8 Tryz.prog fresh sig [.fz] [] Tryz.f48=some p48:=by kernel_rfl
def p50:Fn:=⟨9,[0,1,4,5,6,9,7,18,40],
(.seq
(.reg ⟨[],[],[(2,.v (.c (.int .i64 (0))))]⟩)
(.seq
(.reg ⟨[],[],[(3,.v (.c (.int .i64 (0))))]⟩)
(.seq
(.seq
(.reg ⟨[],[],[(4,.v (.c (.int .i64 (3))))]⟩)
(.block 0
 (.loop [0,1,2,3,4]
  (.seq
  (.seq
  (.reg ⟨[],[],[(5,.v (.bin .leq (.s 4) (.c (.int .i64 (4)))))]⟩)
  (.cond (.s 5)
   .skip
   (.exit 0)))
  (.seq
  (.block 1
   (.seq
   (.reg ⟨[],[],[(6,.v (.c (.int .i64 (0))))]⟩)
   (.block 2
    (.loop [0,1,2,3,4,5,6]
     (.seq
     (.seq
     (.reg ⟨[],[],[(7,.v (.bin .lss (.s 6) (.len (.fld (.idx (.s 0) (.s 4) 1) 0))))]⟩)
     (.cond (.s 7)
      .skip
      (.exit 2)))
     (.seq
     (.block 3
      (.seq
      (.reg ⟨[.lt 9 [] (.fld (.idx (.fld (.idx (.s 0) (.s 4) 1) 0) (.s 6) 5) 3)],[([(9,true)],(.bin .eql (.fld (.idx (.fld (.idx (.s 0) (.s 4) 1) 0) (.s 6) 5) 4) (.s 1)))],[(8,.v (.ite (.s 9) (.bin .eql (.fld (.idx (.fld (.idx (.s 0) (.s 4) 1) 0) (.s 6) 5) 4) (.s 1)) (.c (.bool false))))]⟩)
      (.cond (.s 8)
       (.reg ⟨[],[],[(3,.v (.bin .add (.s 3) (.c (.int .i64 (1)))))]⟩)
       .skip)))
     (.reg ⟨[],[],[(6,.v (.bin .add (.s 6) (.c (.int .i64 (1)))))]⟩)))))))
  (.reg ⟨[],[],[(4,.v (.bin .add (.s 4) (.c (.int .i64 (1)))))]⟩))))))
(.seq
(.reg ⟨[],[],[(2,.v (.s 3))]⟩)
.ret)))),
[(2,.v)]⟩
theorem c50:Z8 Tryz.prog fresh sig [.fz,.fz] [] Tryz.f50=some p50:=by kernel_rfl
def p52:Fn:=⟨15,[0,1,2,3,4,5,10,18,11,12,25,13,14,15,16],
(.seq
(.reg ⟨[],[],[(5,.m [(.fld (.sz (.s 0) 10) 0),(.fld (.sz (.s 0) 10) 1),(.fld (.sz (.s 0) 10) 2),(.fld (.sz (.s 0) 10) 3),(.fld (.sz (.s 0) 10) 4),(.fld (.sz (.s 0) 10) 5),(.fld (.sz (.s 0) 10) 6),(.fld (.sz (.s 0) 10) 7),(.fld (.sz (.s 0) 10) 8),(.fld (.sz (.s 0) 10) 9)]),(6,.v (.c (.bool false)))]⟩)
(.seq
(.seq
(.reg ⟨[],[],[(7,.v (.bin .eql (.s 2) (.c (.int .u64 (0)))))]⟩)
(.cond (.s 7)
 (.seq
 (.reg ⟨[],[],[(6,.v (.c (.bool true)))]⟩)
 .ret)
 .skip))
(.seq
(.reg ⟨[.call 15 [] (.id 79) false false [(.s 2)]],[],[(8,.v (.ext (.s 15) 0)),(9,.v (.ext (.s 15) 1))]⟩)
(.seq
(.seq
(.reg ⟨[],[],[(10,.v (.bin .neq (.s 9) (.c (.int .i64 (0)))))]⟩)
(.cond (.s 10)
 (.seq
 (.reg ⟨[],[],[(6,.v (.c (.bool false)))]⟩)
 .ret)
 .skip))
(.seq
(.reg ⟨[.call 16 [] (.id 80) false false [(.mm 5 0 10),(.s 3),(.fld (.idx (.s 1) (.s 3) 1) 0),(.s 8)]],[],[(11,.m [(.fld (.sz (.ext (.s 16) 0) 5) 0),(.fld (.sz (.ext (.s 16) 0) 5) 1),(.fld (.sz (.ext (.s 16) 0) 5) 2),(.fld (.sz (.ext (.s 16) 0) 5) 3),(.fld (.sz (.ext (.s 16) 0) 5) 4)]),(12,.v (.ext (.s 16) 1))]⟩)
(.seq
(.reg ⟨[.call 17 [] (.id 80) false false [(.mm 5 0 10),(.s 4),(.fld (.idx (.s 1) (.s 4) 1) 0),(.s 8)]],[],[(13,.m [(.fld (.sz (.ext (.s 17) 0) 5) 0),(.fld (.sz (.ext (.s 17) 0) 5) 1),(.fld (.sz (.ext (.s 17) 0) 5) 2),(.fld (.sz (.ext (.s 17) 0) 5) 3),(.fld (.sz (.ext (.s 17) 0) 5) 4)]),(14,.v (.ext (.s 17) 1))]⟩)
(.seq
(.reg ⟨[.lt 18 [] (.s 12)],[],[(6,.v (.ite (.s 18) (.c (.bool true)) (.s 14)))]⟩)
.ret))))))),
[(6,.v)]⟩
theorem c52:Z8 Tryz.prog fresh sig [.fz,.fz,.fz,.fz,.fz] [] Tryz.f52=some p52:=by kernel_rfl
def p53:Fn:=⟨17,[0,1,2,3,6,7,8,23,9,10,44,11,12,13,63,72,78],
(.seq
(.reg ⟨[],[],[(3,.m [(.fld (.sz (.s 0) 10) 0),(.fld (.sz (.s 0) 10) 1),(.fld (.sz (.s 0) 10) 2),(.fld (.sz (.s 0) 10) 3),(.fld (.sz (.s 0) 10) 4),(.fld (.sz (.s 0) 10) 5),(.fld (.sz (.s 0) 10) 6),(.fld (.sz (.s 0) 10) 7),(.fld (.sz (.s 0) 10) 8),(.fld (.sz (.s 0) 10) 9)]),(4,.v (.c (.bool false)))]⟩)
(.seq
(.reg ⟨[.call 17 [] (.id 7) false false [(.mm 3 0 10),(.s 2)]],[],[(5,.v (.s 17))]⟩)
(.seq
(.seq
(.reg ⟨[],[],[(6,.v (.c (.int .i64 (0))))]⟩)
(.block 0
 (.loop [0,1,2,3,4,5,6]
  (.seq
  (.seq
  (.reg ⟨[],[],[(7,.v (.bin .lss (.s 6) (.len (.fld (.idx (.s 1) (.s 2) 1) 0))))]⟩)
  (.cond (.s 7)
   .skip
   (.exit 0)))
  (.seq
  (.block 1
   (.seq
   (.reg ⟨[],[],[(8,.m [(.fld (.flds (.idx (.fld (.idx (.s 1) (.s 2) 1) 0) (.s 6) 5) 0 5) 0),(.fld (.flds (.idx (.fld (.idx (.s 1) (.s 2) 1) 0) (.s 6) 5) 0 5) 1),(.fld (.flds (.idx (.fld (.idx (.s 1) (.s 2) 1) 0) (.s 6) 5) 0 5) 2),(.fld (.flds (.idx (.fld (.idx (.s 1) (.s 2) 1) 0) (.s 6) 5) 0 5) 3),(.fld (.flds (.idx (.fld (.idx (.s 1) (.s 2) 1) 0) (.s 6) 5) 0 5) 4)])]⟩)
   (.seq
   (.reg ⟨[],[],[(9,.v (.bin .add (.m 8 0) (.c (.int .i64 (1)))))]⟩)
   (.block 2
    (.loop [0,1,2,3,4,5,6,7,8,9]
     (.seq
     (.seq
     (.reg ⟨[],[],[(10,.v (.bin .lss (.s 9) (.bin .add (.bin .add (.m 8 0) (.c (.int .i64 (1)))) (.m 8 2))))]⟩)
     (.cond (.s 10)
      .skip
      (.exit 2)))
     (.seq
     (.block 3
      (.seq
      (.reg ⟨[.call 18 [] (.id 52) false false [(.mm 3 0 10),(.s 1),(.fld (.idx (.s 5) (.s 9) 1) 0),(.c (.int .i64 (1))),(.c (.int .i64 (2)))]],[],[(11,.v (.s 18))]⟩)
      (.seq
      (.reg ⟨[.call 19 [] (.id 52) false false [(.mm 3 0 10),(.s 1),(.fld (.idx (.s 5) (.s 9) 1) 0),(.c (.int .i64 (3))),(.c (.int .i64 (4)))]],[],[(12,.v (.s 19))]⟩)
      (.seq
      (.reg ⟨[],[],[(13,.v (.s 11))]⟩)
      (.seq
      (.seq
      (.reg ⟨[],[],[(14,.v (.bin .gtr (.s 2) (.c (.int .i64 (2)))))]⟩)
      (.cond (.s 14)
       (.reg ⟨[],[],[(13,.v (.s 12))]⟩)
       (.seq
       (.reg ⟨[.lt 20 [] (.bin .eql (.s 2) (.c (.int .i64 (1))))],[([(20,true)],(.bin .geq (.s 9) (.m 3 4)))],[(15,.v (.ite (.s 20) (.bin .geq (.s 9) (.m 3 4)) (.c (.bool false))))]⟩)
       (.cond (.s 15)
        (.reg ⟨[.lt 21 [] (.s 11)],[],[(13,.v (.ite (.s 21) (.c (.bool true)) (.s 12)))]⟩)
        .skip))))
      (.seq
      (.reg ⟨[],[],[(16,.v (.un .not (.s 13)))]⟩)
      (.cond (.s 16)
       (.seq
       (.reg ⟨[],[],[(4,.v (.c (.bool false)))]⟩)
       .ret)
       .skip)))))))
     (.reg ⟨[],[],[(9,.v (.bin .add (.s 9) (.c (.int .i64 (1)))))]⟩))))))))
  (.reg ⟨[],[],[(6,.v (.bin .add (.s 6) (.c (.int .i64 (1)))))]⟩))))))
(.seq
(.reg ⟨[],[],[(4,.v (.c (.bool true)))]⟩)
.ret)))),
[(4,.v)]⟩
theorem c53:Z8 Tryz.prog fresh sig [.fz,.fz,.fz] [] Tryz.f53=some p53:=by kernel_rfl
def p54:Fn:=⟨8,[0,2,3,4,7,5,16,27],
(.seq
(.reg ⟨[],[],[(1,.v (.c (.int .i64 (0))))]⟩)
(.seq
(.reg ⟨[],[],[(2,.v (.c (.int .i64 (0))))]⟩)
(.seq
(.seq
(.reg ⟨[],[],[(3,.v (.c (.int .i64 (3))))]⟩)
(.block 0
 (.loop [0,1,2,3]
  (.seq
  (.seq
  (.reg ⟨[],[],[(4,.v (.bin .leq (.s 3) (.c (.int .i64 (4)))))]⟩)
  (.cond (.s 4)
   .skip
   (.exit 0)))
  (.seq
  (.block 1
   (.seq
   (.reg ⟨[],[],[(5,.v (.c (.int .i64 (0))))]⟩)
   (.block 2
    (.loop [0,1,2,3,4,5]
     (.seq
     (.seq
     (.reg ⟨[],[],[(6,.v (.bin .lss (.s 5) (.len (.fld (.idx (.s 0) (.s 3) 1) 0))))]⟩)
     (.cond (.s 6)
      .skip
      (.exit 2)))
     (.seq
     (.block 3
      (.seq
      (.reg ⟨[],[],[(7,.v (.un .not (.fld (.idx (.fld (.idx (.s 0) (.s 3) 1) 0) (.s 5) 5) 3)))]⟩)
      (.cond (.s 7)
       (.reg ⟨[],[],[(2,.v (.bin .add (.bin .add (.s 2) (.c (.int .i64 (1)))) (.fld (.idx (.fld (.idx (.s 0) (.s 3) 1) 0) (.s 5) 5) 1)))]⟩)
       .skip)))
     (.reg ⟨[],[],[(5,.v (.bin .add (.s 5) (.c (.int .i64 (1)))))]⟩)))))))
  (.reg ⟨[],[],[(3,.v (.bin .add (.s 3) (.c (.int .i64 (1)))))]⟩))))))
(.seq
(.reg ⟨[],[],[(1,.v (.s 2))]⟩)
.ret)))),
[(1,.v)]⟩
theorem c54:Z8 Tryz.prog fresh sig [.fz] [] Tryz.f54=some p54:=by kernel_rfl
end Vm
end
section
namespace Vm
open Go Go.Proofs
set_option maxRecDepth 100000
set_option maxHeartbeats 1000000
def Zs(h:Hp)(part at_:Int):Int:=(Zy (layH h) part at_).1
theorem Kv{h:Hp}(hh:h.ok){part at_:Int}:VC Tryz.prog 51 false [hpV h,vi part,vi at_] (vu (Zs h part at_)):=by
 refine Z3 Tryz.func51 follows (by kernel_rfl) c51 rfl ?_
 simp[p51]
 refine Z0 (Y9 (h:=h)) (by simp) ?_
 simp
 refine Z0 (Vn hh.lay (part:=part) (at_:=at_)) (by simp) ?_
 simp[Zs]
def atR(h:Hp)(part:Int)(l:List Ob)(a:Int):Option Ob:=l.find? fun o=>Zs h part o.at_==a
def obO:Option Ob→V
 |some o=> .tup [obV o,.bool true]
 |none=> .tup [obV ⟨0,0,0,false,0⟩,.bool false]
theorem qA{l:List Ob}{p:Ob→Bool}{i:Nat}{o:Ob}(h:l[i]? =some o)(hp:(l.take i).find? p=none):(l.take (i+1)).find? p=(if p o then some o else none)∧(p o=true→l.find? p=some o):=by
 have h1:l.take (i+1)=l.take i++ [o]:=by rw[List.take_add_one,h];rfl
 have h2:l=l.take (i+1)++l.drop (i+1):=(List.take_append_drop _ _).symm
 constructor
 ·rw[h1,List.find?_append,hp]
  cases hpo:p o<;>simp[hpo]
 ·intro hpo
  rw[h2,h1,List.find?_append,List.find?_append,hp]
  simp[hpo]
theorem Z0G{h:Hp}(hh:h.ok){part a:Int}{l:List Ob}(hl:l.length≤1000000):VC Tryz.prog 80 false [hpV h,vi part,.sl (l.map obV),vu a] (obO (atR h part l a)):=by
 refine Z3 Tryz.func80 follows (by kernel_rfl) c80 rfl ?_
 simp[p80]
 refine Yn 7 l.length (fun i=>(l.take i).find? (fun o=>Zs h part o.at_==a)=none) (by simp) (by simp) (by simp) ?_
 intro i hi hinv
 have hw:=Z1 ((i:Int)+1) (by omega) (by omega)
 by_cases hlt:i<l.length
 ·have hx:l[i]? =some l[i]:=List.getElem?_eq_getElem hlt
  generalize l[i]=o at*
  obtain⟨f1,f2⟩:=qA hx hinv
  simp[hlt,hx,Zh hx]
  refine Z0 (Kv hh (part:=part) (at_:=o.at_)) (by simp[hpV]) ?_
  by_cases he:Zs h part o.at_=a
  ·have:=f2 (by simpa using he)
   simp[he,atR,this,obO,hx,Zh hx]
   simp[obV]
  ·have:(Zs h part o.at_==a)=false:=by simpa using he
   rw[this]at f1
   simp at f1
   simp[he,hw,hlt]
   simpa using f1
 ·have:i=l.length:=by omega
  subst this
  rw[List.take_length]at hinv
  simp[atR,hinv,obO]
  simp[obV]
theorem qi{h:Hp}{part a:Int}{l:List Ob}{o:Ob}(ho:atR h part l a=some o):o∈l:=List.mem_of_find?_eq_some ho
def ZL(h:Hp)(ws:List Int)(low:List Ob):Nat→Nat→List (Int×Int)→Option (List (Int×Int))
 |0,_,_=>none
 |f+1,i,acc=>
  match ws[i]? with
  |none=>some acc
  |some w=>if(adr w).2=0 then(match atR h 1 low (adr w).1 with|none=>none|some o=>ZL h ws low f (i+1+o.size.toNat) (acc++ [(o.size,o.ptrs)]))
   else if(unpk w).2.2=0 then ZL h ws low f (i+1+(unpk w).1.toNat) acc else none
def ZK(h:Hp)(ws:List Int)(low:List Ob):Option (List (Int×Int)):=ZL h ws low (ws.length+1) 0 []
def shO:Option (List (Int×Int))→V
 |some l=> .tup [.sl (l.map shP),.bool true]
 |none=> .tup [.sl [],.bool false]
theorem QH{h:Hp}(hh:h.ok){ws:List Int}{low:List Ob}(hl:ws.length≤1000000)(hw: ∀w∈ws,U64 w)(hll:low.length≤1000000)(hls: ∀o∈low,Zf o.size o.ptrs=true):
  VC Tryz.prog 77 false [hpV h,.sl (ws.map vu),.sl (low.map obV)] (shO (ZK h ws low)):=by
 refine Z3 Tryz.func77 follows (by kernel_rfl) c77 rfl ?_
 simp[p77]
 refine Zz (fun(p:Nat×List (Int×Int))=> [(6,.v (.sl (p.2.map shP))),(7,.v (vi p.1))])
  (fun p=>p.1≤ws.length+256∧p.2.length≤p.1∧ ∃f,ws.length<f+p.1∧0<f∧ZK h ws low=ZL h ws low f p.1 p.2) (cnt 7 ws.length) (0,[]) (by simp) ⟨by simp,by simp,ws.length+1,by simp,by omega,rfl⟩ ?_
 rintro⟨i,acc⟩ ⟨hi,hacc,f,hf,hf0,hR⟩
 simp only at hi hacc hf hR
 cases f with
 |zero=>omega
 |succ f=>
 by_cases hlt:i<ws.length
 ·have hx:ws[i]? =some ws[i]:=List.getElem?_eq_getElem hlt
  have hu:=hw _ (List.getElem_mem hlt)
  generalize ws[i]=w at*
  simp only[ZL,hx]at hR
  have hw1:=Z1 ((i:Int)+1) (by omega) (by omega)
  have hlim:acc.length+1≤lim:=by simp[lim];omega
  simp[hlt,hx,Zh hx]
  refine Z0 (Uf hu) (by simp) ?_
  simp[hx,Zh hx]
  refine Z0 (XJ hu) (by simp) ?_
  by_cases ha:(adr w).2=0
  ·rw[if_pos ha]at hR
   simp[ha]
   refine Z0 (Z0G hh (part:=1) (a:=(adr w).1) hll) (by simp[hpV]) ?_
   cases hat:atR h 1 low (adr w).1 with
   |none=>
    rw[hat]at hR
    simp only at hR
    rw[hR]
    simp[obO,shO]
   |some o=>
    rw[hat]at hR
    simp only at hR
    have hsh:=Z2.1 (hls o (qi hat))
    obtain⟨z,hz⟩:=Int.eq_ofNat_of_zero_le hsh.1
    have hw2:=Z1 ((i:Int)+1+z) (by omega) (by omega)
    rw[hz,Int.toNat_natCast]at hR
    simp[obO,hlim,hz,hw1,hw2]
    refine⟨i+1+z,acc++ [((z:Int),o.ptrs)],⟨by omega,by simp;omega,f,by omega,?_,hR⟩,⟨by simp[shP],by omega⟩,by simp[cnt];omega⟩
    omega
  ·rw[if_neg ha]at hR
   by_cases hun:(unpk w).2.2=0
   ·rw[if_pos hun]at hR
    have hsh:=Z2.1 (Uc hun)
    obtain⟨z,hz⟩:=Int.eq_ofNat_of_zero_le hsh.1
    have hw2:=Z1 ((i:Int)+1+z) (by omega) (by omega)
    rw[hz,Int.toNat_natCast]at hR
    simp[ha,hun,hz,hw1,hw2]
    refine⟨i+1+z,acc,⟨by omega,by omega,f,by omega,?_,hR⟩,⟨rfl,by omega⟩,by simp[cnt];omega⟩
    omega
   ·rw[if_neg hun]at hR
    rw[hR]
    simp[ha,hun,shO]
 ·have hx:ws[i]? =none:=List.getElem?_eq_none (by omega)
  simp only[ZL,hx]at hR
  rw[hR]
  simp[hlt,shO]
end Vm
end
section
namespace Vm
open Go Go.Proofs
set_option maxRecDepth 100000
set_option maxHeartbeats 1000000
structure Pts where
 low:List Ob
 high:List Ob
 old:List Ob
 far:List Ob
 deriving Inhabited
def ptsV(p:Pts):V:= .sl [.sl [],.sl (p.low.map obV),.sl (p.high.map obV),.sl (p.old.map obV),.sl (p.far.map obV)]
def Pts.at(p:Pts)(k:Int):List Ob:=if k=1 then p.low else if k=2 then p.high else if k=3 then p.old else p.far
@[simp] theorem Pts.at1(p:Pts):p.at 1=p.low:=rfl
@[simp] theorem Pts.at2(p:Pts):p.at 2=p.high:=rfl
@[simp] theorem Pts.at3(p:Pts):p.at 3=p.old:=rfl
@[simp] theorem Pts.at4(p:Pts):p.at 4=p.far:=rfl
structure Pts.ok (p:Pts) (h:Hp):Prop where
 ob: ∀k,∀o∈p.at k,ObIn (Z5 h k).length o∧U64 o.target
 len: ∀k,(p.at k).length≤1000000
theorem Wd{h:Hp}{ws:List Int}{low:List Ob}: ∀(f i:Nat) (acc l:List (Int×Int)),acc.length≤i→acc.length≤ws.length→ZL h ws low f i acc=some l→l.length≤ws.length
 |0,_,_,_,_,_,he=>by simp[ZL]at he
 |f+1,i,acc,l,h1,h2,he=>by
  simp only[ZL]at he
  split at he
  ·cases he;exact h2
  ·rename_i w hx
   have hlt:=(List.getElem?_eq_some_iff.1 hx).1
   split at he
   ·split at he
    ·cases he
    ·exact Wd f _ _ _ (by simp;omega) (by simp;omega) he
   ·split at he
    ·exact Wd f _ _ _ (by omega) h2 he
    ·cases he
def ZO(h:Hp):Option Pts:=
 let low:=Zg h.low [] false
 let high:=Zg h.high [] false
 if low.2≠0∨high.2≠0 then none else
 let p:=ZK h h.old low.1
 let q:=ZK h h.far low.1
 let old:=Zg h.old (p.getD []) true
 let far:=Zg h.far (q.getD []) true
 if p=none∨q=none∨old.2≠0∨far.2≠0 then none else some ⟨low.1,high.1,old.1,far.1⟩
def ptO:Option Pts→V
 |some p=> .tup [ptsV p,.bool true]
 |none=> .tup [.sl [],.bool false]
theorem qT{h:Hp}(hh:h.ok){p:Pts}(hp:ZO h=some p):p.ok h:=by
 unfold ZO at hp
 dsimp only at hp
 split at hp
 ·cases hp
 split at hp
 ·cases hp
 ·cases hp
  refine⟨fun k o ho=> ?_,fun k=> ?_⟩
  ·unfold Pts.at at ho
   unfold Z5
   split at ho
   ·rename_i e;rw[if_pos e];exact W7 hh.lowW o ho
   rename_i e1
   rw[if_neg e1]
   split at ho
   ·rename_i e;rw[if_pos e];exact W7 hh.highW o ho
   rename_i e2
   rw[if_neg e2]
   split at ho
   ·rename_i e;rw[if_pos e];exact W7 hh.oldW o ho
   ·rename_i e;rw[if_neg e];exact W7 hh.farW o ho
  ·unfold Pts.at
   split
   ·exact Nat.le_trans Xp hh.low
   split
   ·exact Nat.le_trans Xp hh.high
   split
   ·exact Nat.le_trans Xp hh.old
   ·exact Nat.le_trans Xp hh.far
theorem Z09{h:Hp}(hh:h.ok):VC Tryz.prog 49 false [hpV h] (ptO (ZO h)):=by
 refine Z3 Tryz.func49 follows (by kernel_rfl) c49 rfl ?_
 simp[p49]
 refine Z0 (U9 hh.low hh.lowW) (by simp) ?_
 simp
 refine Z0 (U9 hh.high hh.highW) (by simp) ?_
 simp
 unfold ZO
 dsimp only
 have hls: ∀o∈(Zg h.low [] false).1,Zf o.size o.ptrs=true:=fun o ho=>(W7 hh.lowW o ho).1.2
 have hll:(Zg h.low [] false).1.length≤1000000:=Nat.le_trans Xp hh.low
 generalize Zg h.low [] false=low at*
 generalize Zg h.high [] false=high at*
 by_cases e1:low.2=0
 case neg=>simp[e1,ptO]
 by_cases e2:high.2=0
 case neg=>simp[e1,e2,ptO]
 have k1:=QH hh (ws:=h.old) (low:=low.1) hh.old hh.oldW hll hls
 have k2:=QH hh (ws:=h.far) (low:=low.1) hh.far hh.farW hll hls
 have hp:((ZK h h.old low.1).getD []).length≤1000000:=by
  cases hq:ZK h h.old low.1 with
  |none=>simp
  |some l=>exact Nat.le_trans (Wd _ _ _ _ (by simp) (by simp) hq) hh.old
 have hq:((ZK h h.far low.1).getD []).length≤1000000:=by
  cases hq:ZK h h.far low.1 with
  |none=>simp
  |some l=>exact Nat.le_trans (Wd _ _ _ _ (by simp) (by simp) hq) hh.far
 generalize ZK h h.old low.1=p at*
 generalize ZK h h.far low.1=q at*
 have k3:=VR hh.old hp hh.oldW
 have k4:=VR hh.far hq hh.farW
 generalize Zg h.old (p.getD []) true=old at*
 generalize Zg h.far (q.getD []) true=far at*
 have hpV: ∃b,shO p= .tup [.sl ((p.getD []).map shP),.bool b]∧(b=true↔p≠none):=by
  cases p with
  |none=>exact⟨false,rfl,by simp⟩
  |some l=>exact⟨true,rfl,by simp⟩
 have hqV: ∃b,shO q= .tup [.sl ((q.getD []).map shP),.bool b]∧(b=true↔q≠none):=by
  cases q with
  |none=>exact⟨false,rfl,by simp⟩
  |some l=>exact⟨true,rfl,by simp⟩
 obtain⟨bp,hpe,hbp⟩:=hpV
 obtain⟨bq,hqe,hbq⟩:=hqV
 rw[hpe]at k1
 rw[hqe]at k2
 simp[e1,e2]
 refine Z0 k1 (by simp[hpV]) ?_
 simp
 refine Z0 k2 (by simp[hpV]) ?_
 simp
 refine Z0 k3 (by simp) ?_
 simp
 refine Z0 k4 (by simp) ?_
 cases hpn:p with
 |none=>
  have:bp=false:=by cases bp<;>simp_all
  simp[this,ptO]
 |some pl=>
  have h1:bp=true:=hbp.2 (by rw[hpn];simp)
  cases hqn:q with
  |none=>
   have:bq=false:=by cases bq<;>simp_all
   simp[h1,this,ptO]
  |some ql=>
   have h2:bq=true:=hbq.2 (by rw[hqn];simp)
   by_cases e3:old.2=0
   case neg=>simp[h1,h2,e3,ptO]
   by_cases e4:far.2=0
   case neg=>simp[h1,h2,e3,e4,ptO]
   simp[h1,h2,e3,e4,ptO,ptsV]
def Yi(h:Hp)(p:Pts)(w one two:Int):Bool:=decide (w=0)||(decide ((adr w).2=0)&&((atR h one (p.at one) (adr w).1).isSome||(atR h two (p.at two) (adr w).1).isSome))
theorem Z0w(x:Option Ob): ∃o:Ob,obO x= .tup [obV o,.bool x.isSome]:=by
 cases x with
 |none=>exact⟨_,rfl⟩
 |some o=>exact⟨_,rfl⟩
theorem Ke{h:Hp}(hh:h.ok){p:Pts}(hp:p.ok h){w one two:Int}(hw:U64 w)(ho:(one=1∧two=2)∨(one=3∧two=4)):VC Tryz.prog 52 false [hpV h,ptsV p,vu w,vi one,vi two] (.bool (Yi h p w one two)):=by
 refine Z3 Tryz.func52 follows (by kernel_rfl) c52 rfl ?_
 by_cases h0:w=0
 ·simp[p52,h0,Yi]
 simp[p52,h0]
 refine Z0 (XJ hw) (by simp) ?_
 by_cases ha:(adr w).2=0
 case neg=>simp[ha,Yi,h0]
 have k1:=Z0G hh (part:=one) (a:=(adr w).1) (l:=p.at one) (hp.len one)
 have k2:=Z0G hh (part:=two) (a:=(adr w).1) (l:=p.at two) (hp.len two)
 unfold Yi
 obtain⟨o1,e1⟩:=Z0w (atR h one (p.at one) (adr w).1)
 obtain⟨o2,e2⟩:=Z0w (atR h two (p.at two) (adr w).1)
 rw[e1]at k1
 rw[e2]at k2
 generalize (atR h one (p.at one) (adr w).1).isSome=b1 at*
 generalize (atR h two (p.at two) (adr w).1).isSome=b2 at*
 rcases ho with ⟨rfl,rfl⟩ | ⟨rfl,rfl⟩
 ·simp[ha,h0,ptsV,idxV]
  refine Z0 k1 (by simp[hpV]) ?_
  simp[ptsV,idxV]
  refine Z0 k2 (by simp[hpV]) ?_
  cases b1<;>simp
 ·simp[ha,h0,ptsV,idxV]
  refine Z0 k1 (by simp[hpV]) ?_
  simp[ptsV,idxV]
  refine Z0 k2 (by simp[hpV]) ?_
  cases b1<;>simp
def wtO(o:Ob):Nat:=if o.gone then 0 else 1+o.size.toNat
def wtL(l:List Ob):Nat:=(l.map wtO).sum
theorem UX{l:List Ob}{i:Nat}{o:Ob}(h:l[i]? =some o):wtL (l.take (i+1))=wtL (l.take i)+wtO o:=by
 unfold wtL
 rw[List.take_add_one,h,List.map_append,List.sum_append];simp
theorem Wl{l:List Ob}(h: ∀o∈l,Zf o.size o.ptrs=true):wtL l≤256*l.length:=by
 induction l with
 |nil=>simp[wtL]
 |cons o l ih=>
  have h1:=ih fun x hx=>h x (by simp[hx])
  have h2:=Z2.1 (h o (by simp))
  have h3:wtO o≤256:=by unfold wtO;split<;>omega
  have h4:wtL (o::l)=wtO o+wtL l:=by simp[wtL]
  simp only[List.length_cons]
  omega
def YL(p:Pts):Nat:=wtL p.old+wtL p.far
theorem zg{h:Hp}{p:Pts}(hp:p.ok h):VC Tryz.prog 54 false [ptsV p] (vi (YL p)):=by
 refine Z3 Tryz.func54 follows (by kernel_rfl) c54 rfl ?_
 simp[p54]
 have hs: ∀k,∀o∈p.at k,Zf o.size o.ptrs=true:=fun k o ho=>(hp.ob k o ho).1.2
 have hl:=hp.len
 refine Zz (fun(i:Nat)=> [(2,.v (vi ((if 0<i then wtL p.old else 0)+(if 1<i then wtL p.far else 0):Nat))),(3,.v (vi ((i+3:Nat):Int)))]) (fun i=>i≤2) (cnt 3 5) 0 (by simp) (by simp) ?_
 rintro i hi
 have hb3:=Wl (hs 3)
 have hb4:=Wl (hs 4)
 have hl3:=hl 3
 have hl4:=hl 4
 simp only[Pts.at3,Pts.at4]at hb3 hb4 hl3 hl4
 have hi':i=0∨i=1∨i=2:=by omega
 rcases hi' with rfl|rfl|rfl
 ·simp
  refine ZX 5 p.old.length (fun j=> [(2,.v (vi (wtL (p.old.take j)))),(5,.v (vi j))]) (fun _=>True) (by simp[wtL]) (fun i=>by simp) trivial ?_
  rintro j hj-
  have hwj:=Z1 ((j:Int)+1) (by omega) (by omega)
  by_cases h1:j<p.old.length
  ·have hx:p.old[j]? =some p.old[j]:=List.getElem?_eq_getElem h1
   have hsx:=hs 3 _ (List.getElem_mem h1)
   have hsc:=UX hx
   generalize p.old[j]=o at*
   have hle:wtL (p.old.take j)≤256*p.old.length:=by
    refine Nat.le_trans (Wl fun o ho=>hs 3 o (List.mem_of_mem_take ho)) ?_
    simp;omega
   obtain⟨g1,g2,g3,g4⟩:=Z2.1 hsx
   obtain⟨z,hz⟩:=Int.eq_ofNat_of_zero_le g1
   have w1:=Z1 ((wtL (p.old.take j):Int)+1) (by omega) (by omega)
   have w2:=Z1 ((wtL (p.old.take j):Int)+1+z) (by omega) (by omega)
   cases hg:o.gone
   ·have hwo:wtO o=1+z:=by simp[wtO,hg,hz]
    simp[ptsV,idxV,h1,hx,Zh hx,hg,hz,w1,w2,hwj,hsc,hwo]
    omega
   ·have hwo:wtO o=0:=by simp[wtO,hg]
    simp[ptsV,idxV,h1,hx,Zh hx,hg,hwj,hsc,hwo]
  ·have:j=p.old.length:=by omega
   subst this
   rw[List.take_length]
   simp[ptsV,idxV,Z1]
   exact⟨1,by omega,by simp,by simp[cnt]⟩
 ·simp
  refine ZX 5 p.far.length (fun j=> [(2,.v (vi (wtL p.old+wtL (p.far.take j):Nat))),(5,.v (vi j))]) (fun _=>True) (by simp[wtL]) (fun i=>by simp) trivial ?_
  rintro j hj-
  have hwj:=Z1 ((j:Int)+1) (by omega) (by omega)
  by_cases h1:j<p.far.length
  ·have hx:p.far[j]? =some p.far[j]:=List.getElem?_eq_getElem h1
   have hsx:=hs 4 _ (List.getElem_mem h1)
   have hsc:=UX hx
   generalize p.far[j]=o at*
   have hle:wtL (p.far.take j)≤256*p.far.length:=by
    refine Nat.le_trans (Wl fun o ho=>hs 4 o (List.mem_of_mem_take ho)) ?_
    simp;omega
   obtain⟨g1,g2,g3,g4⟩:=Z2.1 hsx
   obtain⟨z,hz⟩:=Int.eq_ofNat_of_zero_le g1
   have w1:=Z1 ((wtL p.old:Int)+wtL (p.far.take j)+1) (by omega) (by omega)
   have w2:=Z1 ((wtL p.old:Int)+wtL (p.far.take j)+1+z) (by omega) (by omega)
   cases hg:o.gone
   ·have hwo:wtO o=1+z:=by simp[wtO,hg,hz]
    simp[ptsV,idxV,h1,hx,Zh hx,hg,hz,w1,w2,hwj,hsc,hwo]
    omega
   ·have hwo:wtO o=0:=by simp[wtO,hg]
    simp[ptsV,idxV,h1,hx,Zh hx,hg,hwj,hsc,hwo]
  ·have:j=p.far.length:=by omega
   subst this
   rw[List.take_length]
   simp[ptsV,idxV,Z1]
   exact⟨2,by omega,by simp,by simp[cnt]⟩
 ·simp[YL]
def tgL(l:List Ob)(a:Int):Nat:=(l.filter fun o=>o.gone&&decide (o.target=a)).length
theorem Lc{l:List Ob}{i:Nat}{o:Ob}{a:Int}(h:l[i]? =some o):tgL (l.take (i+1)) a=tgL (l.take i) a+if(o.gone&&decide (o.target=a))=true then 1 else 0:=by
 unfold tgL
 rw[List.take_add_one,h,List.filter_append,List.length_append]
 simp[List.filter]
 split<;>simp_all
def VH(p:Pts)(a:Int):Nat:=tgL p.old a+tgL p.far a
end Vm
end
section
namespace Vm
open Go Go.Proofs
set_option maxRecDepth 100000
set_option maxHeartbeats 1000000
theorem yu{l:List Ob}{a:Int}:tgL l a≤l.length:=List.length_filter_le _ _
theorem zo{h:Hp}{p:Pts}(hp:p.ok h){a:Int}:VC Tryz.prog 50 false [ptsV p,vu a] (vi (VH p a)):=by
 refine Z3 Tryz.func50 follows (by kernel_rfl) c50 rfl ?_
 simp[p50]
 have hl:=hp.len
 refine Zz (fun(i:Nat)=> [(3,.v (vi ((if 0<i then tgL p.old a else 0)+(if 1<i then tgL p.far a else 0):Nat))),(4,.v (vi ((i+3:Nat):Int)))]) (fun i=>i≤2) (cnt 4 5) 0 (by simp) (by simp) ?_
 rintro i hi
 have hl3:=hl 3
 have hl4:=hl 4
 simp only[Pts.at3,Pts.at4]at hl3 hl4
 have ho:=yu (l:=p.old) (a:=a)
 have hi':i=0∨i=1∨i=2:=by omega
 rcases hi' with rfl|rfl|rfl
 ·simp
  refine ZX 6 p.old.length (fun j=> [(3,.v (vi (tgL (p.old.take j) a))),(6,.v (vi j))]) (fun _=>True) (by simp[tgL]) (fun i=>by simp) trivial ?_
  rintro j hj-
  have hwj:=Z1 ((j:Int)+1) (by omega) (by omega)
  by_cases h1:j<p.old.length
  ·have hx:p.old[j]? =some p.old[j]:=List.getElem?_eq_getElem h1
   have hsc:=Lc (a:=a) hx
   generalize p.old[j]=o at*
   have hle:tgL (p.old.take j) a≤j:=by
    have:=yu (l:=p.old.take j) (a:=a)
    simp at this;omega
   have w1:=Z1 ((tgL (p.old.take j) a:Int)+1) (by omega) (by omega)
   cases hg:o.gone
   ·simp[ptsV,idxV,h1,hx,Zh hx,hg,hwj,hsc]
   ·by_cases ht:o.target=a
    ·simp[ptsV,idxV,h1,hx,Zh hx,hg,ht,w1,hwj,hsc]
    ·simp[ptsV,idxV,h1,hx,Zh hx,hg,ht,hwj,hsc]
  ·have:j=p.old.length:=by omega
   subst this
   rw[List.take_length]
   simp[ptsV,idxV,Z1]
   exact⟨1,by omega,by simp,by simp[cnt]⟩
 ·simp
  refine ZX 6 p.far.length (fun j=> [(3,.v (vi (tgL p.old a+tgL (p.far.take j) a:Nat))),(6,.v (vi j))]) (fun _=>True) (by simp[tgL]) (fun i=>by simp) trivial ?_
  rintro j hj-
  have hwj:=Z1 ((j:Int)+1) (by omega) (by omega)
  by_cases h1:j<p.far.length
  ·have hx:p.far[j]? =some p.far[j]:=List.getElem?_eq_getElem h1
   have hsc:=Lc (a:=a) hx
   generalize p.far[j]=o at*
   have hle:tgL (p.far.take j) a≤j:=by
    have:=yu (l:=p.far.take j) (a:=a)
    simp at this;omega
   have w1:=Z1 ((tgL p.old a:Int)+tgL (p.far.take j) a+1) (by omega) (by omega)
   cases hg:o.gone
   ·simp[ptsV,idxV,h1,hx,Zh hx,hg,hwj,hsc]
   ·by_cases ht:o.target=a
    ·simp[ptsV,idxV,h1,hx,Zh hx,hg,ht,w1,hwj,hsc]
     omega
    ·simp[ptsV,idxV,h1,hx,Zh hx,hg,ht,hwj,hsc]
  ·have:j=p.far.length:=by omega
   subst this
   rw[List.take_length]
   simp[ptsV,idxV,Z1]
   exact⟨2,by omega,by simp,by simp[cnt]⟩
 ·simp[VH]
def numR(h:Hp):Bool:=
 Z7 (layH h)&&decide (h.roots.length≤16)&&decide (0≤h.scan)&&decide (h.scan≤h.low.length)&&
  (if h.cycle then decide (h.scan<h.low.length)else decide (h.scan=h.low.length)&&decide (h.old.length=0)&&decide (h.far.length=0))
theorem LA{h:Hp}(hh:h.ok):VC Tryz.prog 48 false [hpV h] (.bool (numR h)):=by
 refine Z3 Tryz.func48 follows (by kernel_rfl) c48 rfl ?_
 simp[p48]
 refine Z0 (Y9 (h:=h)) (by simp[hpV]) ?_
 simp
 refine Z0 (YT hh.lay) (by simp) ?_
 cases hr:Z7 (layH h)
 case false=>simp[numR,hr]
 by_cases h1:h.roots.length≤16
 case neg=>simp[numR,hr,h1,show 16< (h.roots.length:Int)by omega]
 by_cases h2:0≤h.scan
 case neg=>simp[numR,hr,h1,h2,show ¬16< (h.roots.length:Int)by omega,show h.scan<0 by omega]
 by_cases h3:h.scan≤h.low.length
 case neg=>simp[numR,hr,h1,h2,h3,show ¬16< (h.roots.length:Int)by omega,show ¬h.scan<0 by omega,show(h.low.length:Int) <h.scan by omega]
 have g1: ¬16< (h.roots.length:Int):=by omega
 have g2: ¬h.scan<0:=by omega
 have g3: ¬(h.low.length:Int) <h.scan:=by omega
 cases hc:h.cycle
 ·by_cases h4:h.scan=h.low.length
  ·by_cases h5:h.old.length=0
   ·by_cases h6:h.far.length=0
    ·simp[numR,hr,h1,h2,h3,g1,g2,g3,hc,h4,h5,h6]
    ·simp[numR,hr,h1,h2,h3,g1,g2,g3,hc,h4,h5,h6]
   ·simp[numR,hr,h1,h2,h3,g1,g2,g3,hc,h4,h5]
  ·simp[numR,hr,h1,h2,h3,g1,g2,g3,hc,h4]
 ·simp[numR,hr,h1,h2,h3,g1,g2,g3,hc]
def Xq(h:Hp)(p:Pts)(part:Int)(k:Nat):Bool:=
 let w:=((Z5 h part)[k]?).getD 0
 let to:=Yi h p w 1 2
 let from_:=Yi h p w 3 4
 if 2<part then from_ else if part=1∧h.scan≤k then to||from_ else to
def U4(h:Hp)(p:Pts)(part:Int)(o:Ob):Bool:=(List.range o.ptrs.toNat).all fun j=>Xq h p part (o.at_.toNat+1+j)
def YD(h:Hp)(p:Pts)(part:Int):Bool:=(p.at part).all (U4 h p part)
theorem VJ{α:Type}{q:α→Bool}{l:List α}{i:Nat}{x:α}(h:l[i]? =some x):(l.take (i+1)).all q=((l.take i).all q&&q x):=by
 rw[List.take_add_one,h,List.all_append];simp
theorem Sa{α:Type}{q:α→Bool}{l:List α}{i:Nat}{x:α}(h:l[i]? =some x)(hq:q x=false):l.all q=false:=by
 rw[List.all_eq_false]
 exact⟨x,List.mem_of_getElem? h,by simp[hq]⟩
theorem XY{h:Hp}(hh:h.ok){p:Pts}(hp:p.ok h){part:Nat}(hk:1≤part∧part≤4)(hw: ∀w∈Z5 h part,U64 w)(hpl:(Z5 h part).length≤1000000):VC Tryz.prog 53 false [hpV h,ptsV p,vi part] (.bool (YD h p part)):=by
 refine Z3 Tryz.func53 follows (by kernel_rfl) c53 rfl ?_
 simp[-List.all_eq_true,-List.all_eq_false,p53]
 refine Z0 (Yq (h:=h) (n:=part)) (by simp[hpV]) ?_
 have hpt:([V.sl [],.sl (p.low.map obV),.sl (p.high.map obV),.sl (p.old.map obV),.sl (p.far.map obV)]:List V)[part]? =some (.sl ((p.at part).map obV)):=by
  have:part=1∨part=2∨part=3∨part=4:=by omega
  rcases this with rfl|rfl|rfl|rfl<;>rfl
 have hlen:=hp.len part
 have hob:=hp.ob part
 unfold YD
 generalize hL:p.at part=L at*
 simp[-List.all_eq_true,-List.all_eq_false]
 refine Yn 6 L.length (fun i=>(L.take i).all (U4 h p part)=true) (by simp) (by simp) (by simp) ?_
 intro i hi hall
 have hwi:=Z1 ((i:Int)+1) (by omega) (by omega)
 by_cases hlt:i<L.length
 ·have hx:L[i]? =some L[i]:=List.getElem?_eq_getElem hlt
  obtain⟨⟨⟨a,ha,hfit⟩,hsh⟩,_⟩:=hob _ (List.getElem_mem hlt)
  generalize L[i]=o at*
  obtain⟨s1,s2,s3,s4⟩:=Z2.1 hsh
  obtain⟨q,hq⟩:=Int.eq_ofNat_of_zero_le s3
  have hwa:=Z1 ((a:Int)+1) (by omega) (by omega)
  have hwq:=Z1 ((a:Int)+1+q) (by omega) (by omega)
  have hobp:U4 h p part o=(List.range q).all fun j=>Xq h p part (a+1+j):=by
   unfold U4
   rw[hq,ha]
   rfl
  simp[-List.all_eq_true,-List.all_eq_false,ptsV,hpt,hlt,hx,Zh hx,ha,hwa]
  refine Zz (fun(j:Nat)=> [(9,.v (vi ((a+1+j:Nat):Int)))]) (fun j=>j≤q∧((List.range j).all fun j=>Xq h p part (a+1+j))=true) (cnt 9 (a+1+q)) 0 (by simp) (by simp) ?_
  rintro j ⟨hj,hal⟩
  by_cases hjq:j<q
  ·have hwm:=Z1 (((a+1+j:Nat):Int)+1) (by omega) (by omega)
   have hlt2:((a+1+j:Nat):Int) < (a:Int)+1+q:=by omega
   obtain⟨w,hmw,hu⟩: ∃w,(Z5 h part)[a+1+j]? =some w∧U64 w:=⟨_,List.getElem?_eq_getElem (by omega),hw _ (List.getElem_mem _)⟩
   have hsucc:((List.range (j+1)).all fun j=>Xq h p part (a+1+j))=(((List.range j).all fun j=>Xq h p part (a+1+j))&&Xq h p part (a+1+j)):=by
    rw[List.range_succ,List.all_append];simp
   have hex:Xq h p part (a+1+j)=false→L.all (U4 h p part)=false:=fun hno=>Sa hx (by
    rw[hobp]
    exact Sa (List.getElem?_range hjq) hno)
   have hcnt:((j+1:Nat):Int)=(j:Int)+1:=by omega
   obtain⟨m,hm⟩: ∃m,a+1+j=m:=⟨_,rfl⟩
   rw[hm]at hwm hlt2 hmw hsucc hex⊢
   have k1:=Ke hh hp (w:=w) (one:=1) (two:=2) hu (.inl ⟨rfl,rfl⟩)
   have k2:=Ke hh hp (w:=w) (one:=3) (two:=4) hu (.inr ⟨rfl,rfl⟩)
   have hpo:Xq h p part m=(if 2< (part:Int)then Yi h p w 3 4 else if(part:Int)=1∧h.scan≤m then Yi h p w 1 2||Yi h p w 3 4 else Yi h p w 1 2):=by
    unfold Xq
    rw[hmw]
    rfl
   generalize Yi h p w 1 2=b1 at*
   generalize Yi h p w 3 4=b2 at*
   have hfin: ∀(P:Prop),Xq h p part m=true→ ∃j',(j'≤q∧((List.range j').all fun j=>Xq h p part (a+1+j))=true)∧(m:Int)+1=((a+1+j':Nat):Int):=fun P hok=>⟨j+1,⟨by omega,by rw[hsucc,hal,hok];rfl⟩,by omega⟩
   simp[-List.all_eq_true,-List.all_eq_false,hq,hwa,hwq,hlt2,hmw,Zh hmw]
   refine Z0 k1 (by simp[hpV,ptsV]) ?_
   simp[-List.all_eq_true,-List.all_eq_false,hmw,Zh hmw]
   refine Z0 k2 (by simp[hpV,ptsV]) ?_
   clear hsucc hal hobp
   generalize L.all (U4 h p part)=R at hex⊢
   generalize (fun j=>Xq h p part (a+1+j))=F at hfin⊢
   generalize Xq h p part m=v at hpo hex hfin
   by_cases g1:2<part
   ·have g1':(2:Int) <part:=by omega
    have hv:v=(b2):=by rw[hpo];try simp[g1,g1']
    cases b1
    ·cases b2
     ·try simp at hv
      simp[-List.all_eq_true,-List.all_eq_false,g1,g1',hwm]
      first
      |exact hex hv
      | (obtain⟨j',h1,h2⟩:=hfin True hv
         exact⟨j',h1,by omega,by simp[cnt];omega⟩)
     ·try simp at hv
      simp[-List.all_eq_true,-List.all_eq_false,g1,g1',hwm]
      first
      |exact hex hv
      | (obtain⟨j',h1,h2⟩:=hfin True hv
         exact⟨j',h1,by omega,by simp[cnt];omega⟩)
    ·cases b2
     ·try simp at hv
      simp[-List.all_eq_true,-List.all_eq_false,g1,g1',hwm]
      first
      |exact hex hv
      | (obtain⟨j',h1,h2⟩:=hfin True hv
         exact⟨j',h1,by omega,by simp[cnt];omega⟩)
     ·try simp at hv
      simp[-List.all_eq_true,-List.all_eq_false,g1,g1',hwm]
      first
      |exact hex hv
      | (obtain⟨j',h1,h2⟩:=hfin True hv
         exact⟨j',h1,by omega,by simp[cnt];omega⟩)
   ·have g1': ¬(2:Int) <part:=by omega
    by_cases g2:part=1
    ·by_cases g3:h.scan≤m
     ·subst g2
      have hv:v=(b1||b2):=by rw[hpo];try simp[g3]
      cases b1
      ·cases b2
       ·try simp at hv
        simp[-List.all_eq_true,-List.all_eq_false,g3,hwm]
        first
        |exact hex hv
        | (obtain⟨j',h1,h2⟩:=hfin True hv
           exact⟨j',h1,by omega,by simp[cnt];omega⟩)
       ·try simp at hv
        simp[-List.all_eq_true,-List.all_eq_false,g3,hwm]
        first
        |exact hex hv
        | (obtain⟨j',h1,h2⟩:=hfin True hv
           exact⟨j',h1,by omega,by simp[cnt];omega⟩)
      ·cases b2
       ·try simp at hv
        simp[-List.all_eq_true,-List.all_eq_false,g3,hwm]
        first
        |exact hex hv
        | (obtain⟨j',h1,h2⟩:=hfin True hv
           exact⟨j',h1,by omega,by simp[cnt];omega⟩)
       ·try simp at hv
        simp[-List.all_eq_true,-List.all_eq_false,g3,hwm]
        first
        |exact hex hv
        | (obtain⟨j',h1,h2⟩:=hfin True hv
           exact⟨j',h1,by omega,by simp[cnt];omega⟩)
     ·subst g2
      have hv:v=(b1):=by rw[hpo];try simp[g3]
      cases b1
      ·cases b2
       ·try simp at hv
        simp[-List.all_eq_true,-List.all_eq_false,g3,hwm]
        first
        |exact hex hv
        | (obtain⟨j',h1,h2⟩:=hfin True hv
           exact⟨j',h1,by omega,by simp[cnt];omega⟩)
       ·try simp at hv
        simp[-List.all_eq_true,-List.all_eq_false,g3,hwm]
        first
        |exact hex hv
        | (obtain⟨j',h1,h2⟩:=hfin True hv
           exact⟨j',h1,by omega,by simp[cnt];omega⟩)
      ·cases b2
       ·try simp at hv
        simp[-List.all_eq_true,-List.all_eq_false,g3,hwm]
        first
        |exact hex hv
        | (obtain⟨j',h1,h2⟩:=hfin True hv
           exact⟨j',h1,by omega,by simp[cnt];omega⟩)
       ·try simp at hv
        simp[-List.all_eq_true,-List.all_eq_false,g3,hwm]
        first
        |exact hex hv
        | (obtain⟨j',h1,h2⟩:=hfin True hv
           exact⟨j',h1,by omega,by simp[cnt];omega⟩)
    ·have g2': ¬(part:Int)=1:=by omega
     have hv:v=(b1):=by rw[hpo];try simp[g1,g1',g2,g2']
     cases b1
     ·cases b2
      ·try simp at hv
       simp[-List.all_eq_true,-List.all_eq_false,g1,g1',g2,g2',hwm]
       first
       |exact hex hv
       | (obtain⟨j',h1,h2⟩:=hfin True hv
          exact⟨j',h1,by omega,by simp[cnt];omega⟩)
      ·try simp at hv
       simp[-List.all_eq_true,-List.all_eq_false,g1,g1',g2,g2',hwm]
       first
       |exact hex hv
       | (obtain⟨j',h1,h2⟩:=hfin True hv
          exact⟨j',h1,by omega,by simp[cnt];omega⟩)
     ·cases b2
      ·try simp at hv
       simp[-List.all_eq_true,-List.all_eq_false,g1,g1',g2,g2',hwm]
       first
       |exact hex hv
       | (obtain⟨j',h1,h2⟩:=hfin True hv
          exact⟨j',h1,by omega,by simp[cnt];omega⟩)
      ·try simp at hv
       simp[-List.all_eq_true,-List.all_eq_false,g1,g1',g2,g2',hwm]
       first
       |exact hex hv
       | (obtain⟨j',h1,h2⟩:=hfin True hv
          exact⟨j',h1,by omega,by simp[cnt];omega⟩)
  ·have:j=q:=by omega
   subst this
   have hnl: ¬(((a+1+j:Nat):Int) < (a:Int)+1+j):=by omega
   have hnext:(L.take (i+1)).all (U4 h p part)=true:=by rw[VJ hx,hall,hobp,hal];rfl
   obtain⟨m,hm⟩: ∃m,a+1+j=m:=⟨_,rfl⟩
   rw[hm]at hnl⊢
   simp[-List.all_eq_true,-List.all_eq_false,hq,hwa,hwq,hnl,hwi,hnext,hlt]
 ·have:i=L.length:=by omega
  subst this
  rw[List.take_length]at hall
  simp[-List.all_eq_true,-List.all_eq_false,ptsV,hpt,hall]
def tgOk(h:Hp)(p:Pts)(o:Ob):Bool:=decide (VH p (Zs h 1 o.at_)=1)
def VL(h:Hp)(p:Pts):Bool:=
 (!h.cycle||p.low.all (tgOk h p))&&h.roots.all (fun w=>Yi h p w 1 2)&&YD h p 1&&YD h p 2&&YD h p 3&&YD h p 4&&decide ((h.low.length:Int)+h.high.length+YL p≤h.cap)
def ZY(h:Hp):Bool:=numR h&&match ZO h with
 |none=>false
 |some p=>VL h p
theorem Ze{h:Hp}(hh:h.ok)(k:Int):(∀w∈Z5 h k,U64 w)∧(Z5 h k).length≤1000000:=by
 unfold Z5
 split
 ·exact⟨hh.lowW,hh.low⟩
 split
 ·exact⟨hh.highW,hh.high⟩
 split
 ·exact⟨hh.oldW,hh.old⟩
 ·exact⟨hh.farW,hh.far⟩
theorem jc{h:Hp}{p:Pts}(hp:p.ok h):YL p≤512*1000000:=by
 have h3:=Wl (l:=p.at 3) fun o ho=>(hp.ob 3 o ho).1.2
 have h4:=Wl (l:=p.at 4) fun o ho=>(hp.ob 4 o ho).1.2
 have l3:=hp.len 3
 have l4:=hp.len 4
 simp only[Pts.at3,Pts.at4]at h3 h4 l3 l4
 unfold YL
 omega
theorem Tv{h:Hp}(hh:h.ok):VC Tryz.prog 28 false [hpV h] (.bool (ZY h)):=by
 refine Z3 Tryz.func28 follows (by kernel_rfl) c28 rfl ?_
 simp[-List.all_eq_true,-List.all_eq_false,p28]
 refine Z0 (LA hh) (by simp[hpV]) ?_
 cases hn:numR h
 ·simp[-List.all_eq_true,-List.all_eq_false,ZY,hn]
 simp[-List.all_eq_true,-List.all_eq_false]
 refine Z0 (Z09 hh) (by simp[hpV]) ?_
 unfold ZY
 rw[hn]
 cases hp:ZO h with
 |none=>simp[-List.all_eq_true,-List.all_eq_false,ptO]
 |some p=>
 have hpo:=qT hh hp
 have hl1:=hpo.len 1
 simp only[Pts.at1]at hl1
 simp only[Bool.true_and]
 simp[-List.all_eq_true,-List.all_eq_false,ptO]
 unfold VL
 have hlow:=hh.low
 have hroots:=hh.roots
 refine Yn 7 p.low.length (fun i=>0<i→h.cycle=true∧(p.low.take i).all (tgOk h p)=true) (by simp) (by simp) (by simp) ?_
 intro i hi hinv
 have hwi:=Z1 ((i:Int)+1) (by omega) (by omega)
 by_cases hgo:i<p.low.length∧h.cycle=true
 ·obtain⟨hlt,hc⟩:=hgo
  have hx:p.low[i]? =some p.low[i]:=List.getElem?_eq_getElem hlt
  have hall:(p.low.take i).all (tgOk h p)=true:=by
   by_cases h0:0<i
   ·exact(hinv h0).2
   ·have:i=0:=by omega
    subst this
    simp
  generalize p.low[i]=o at*
  have k1:=Kv hh (part:=1) (at_:=o.at_)
  have k2:=zo hpo (a:=Zs h 1 o.at_)
  simp[-List.all_eq_true,-List.all_eq_false,ptsV,idxV,hlt,hx,Zh hx,hc]
  unfold hpV at k1
  rw[hc]at k1
  refine Z0 k1 (by simp) ?_
  simp[-List.all_eq_true,-List.all_eq_false]
  refine Z0 k2 (by simp) ?_
  by_cases ht:VH p (Zs h 1 o.at_)=1
  ·have hok:tgOk h p o=true:=by simp[tgOk,ht]
   simp[-List.all_eq_true,-List.all_eq_false,ht,hwi,hlt]
   rw[VJ hx,hall,hok]
   rfl
  ·have hno:tgOk h p o=false:=by simp[tgOk,ht]
   have ht': ¬((VH p (Zs h 1 o.at_):Int)=1):=by omega
   have hno2:=Sa (q:=tgOk h p) hx hno
   simp[-List.all_eq_true,-List.all_eq_false,ht',hno2,hc]
 ·have hcyc:(!h.cycle||p.low.all (tgOk h p))=true:=by
   cases hc:h.cycle
   ·rfl
   ·have hil:i=p.low.length:=by
     have: ¬i<p.low.length:=fun h1=>hgo ⟨h1,hc⟩
     omega
    subst hil
    by_cases h0:0<p.low.length
    ·have:=(hinv h0).2
     rw[List.take_length]at this
     simpa using this
    ·have:p.low= []:=by
      cases hpl:p.low with
      |nil=>rfl
      |cons a t=>rw[hpl]at h0;simp at h0
     rw[this]
     rfl
  rw[hcyc]
  by_cases hlt:i<p.low.length
  case' pos=>
   have hc:h.cycle=false:=by
    cases hc:h.cycle
    ·rfl
    ·exact(hgo ⟨hlt,hc⟩).elim
   simp[-List.all_eq_true,-List.all_eq_false,ptsV,idxV,hlt,hc]
  case' neg=>simp[-List.all_eq_true,-List.all_eq_false,ptsV,idxV,hlt]
  all_goals
   refine Yn 10 h.roots.length (fun j=>(h.roots.take j).all (fun w=>Yi h p w 1 2)=true) (by simp) (by simp) (by simp) ?_
   intro j hj hall
   have hwj:=Z1 ((j:Int)+1) (by omega) (by omega)
   by_cases hjl:j<h.roots.length
   ·have hx:h.roots[j]? =some h.roots[j]:=List.getElem?_eq_getElem hjl
    have hu:=hh.rootsW _ (List.getElem_mem hjl)
    generalize h.roots[j]=w at*
    have k1:=Ke hh hpo (w:=w) (one:=1) (two:=2) hu (.inl ⟨rfl,rfl⟩)
    unfold hpV ptsV at k1
    try rw[hc]at k1
    simp[-List.all_eq_true,-List.all_eq_false,hjl,hx,Zh hx]
    refine Z0 k1 (by simp) ?_
    have hsucc:=VJ (q:=fun w=>Yi h p w 1 2) hx
    cases hg:Yi h p w 1 2
    ·have:=Sa (q:=fun w=>Yi h p w 1 2) hx hg
     simp[-List.all_eq_true,-List.all_eq_false,this]
    ·simp[-List.all_eq_true,-List.all_eq_false,hwj,hjl]
     rw[hsucc,hall,hg]
     rfl
   ·have:j=h.roots.length:=by omega
    subst this
    rw[List.take_length]at hall
    rw[hall]
    simp[-List.all_eq_true,-List.all_eq_false]
    refine Zz (fun(k:Nat)=> [(13,.v (vi ((k+1:Nat):Int)))]) (fun k=>k≤4∧(0<k→YD h p 1=true)∧(1<k→YD h p 2=true)∧(2<k→YD h p 3=true)∧(3<k→YD h p 4=true)) (cnt 13 5) 0 (by simp) (by simp) ?_
    rintro k ⟨hk,i1,i2,i3,i4⟩
    have hk':k=0∨k=1∨k=2∨k=3∨k=4:=by omega
    rcases hk' with rfl|rfl|rfl|rfl|rfl
    ·have k2:=XY hh hpo (part:=1) (by omega) (Ze hh _).1 (Ze hh _).2
     unfold hpV ptsV at k2
     try rw[hc]at k2
     simp[-List.all_eq_true,-List.all_eq_false]
     refine Z0 k2 (by simp) ?_
     cases hg:YD h p 1
     ·simp[-List.all_eq_true,-List.all_eq_false,hg]
     ·simp[-List.all_eq_true,-List.all_eq_false,hg,Z1]
      exact⟨1,by simp[hg],by simp,by simp[cnt]⟩
    ·have k2:=XY hh hpo (part:=2) (by omega) (Ze hh _).1 (Ze hh _).2
     unfold hpV ptsV at k2
     try rw[hc]at k2
     simp[-List.all_eq_true,-List.all_eq_false]
     refine Z0 k2 (by simp) ?_
     cases hg:YD h p 2
     ·simp[-List.all_eq_true,-List.all_eq_false,hg,i1 (by omega)]
     ·simp[-List.all_eq_true,-List.all_eq_false,hg,Z1]
      exact⟨2,by simp[hg,i1 (by omega)],by simp,by simp[cnt]⟩
    ·have k2:=XY hh hpo (part:=3) (by omega) (Ze hh _).1 (Ze hh _).2
     unfold hpV ptsV at k2
     try rw[hc]at k2
     simp[-List.all_eq_true,-List.all_eq_false]
     refine Z0 k2 (by simp) ?_
     cases hg:YD h p 3
     ·simp[-List.all_eq_true,-List.all_eq_false,hg,i1 (by omega),i2 (by omega)]
     ·simp[-List.all_eq_true,-List.all_eq_false,hg,Z1]
      exact⟨3,by simp[hg,i1 (by omega),i2 (by omega)],by simp,by simp[cnt]⟩
    ·have k2:=XY hh hpo (part:=4) (by omega) (Ze hh _).1 (Ze hh _).2
     unfold hpV ptsV at k2
     try rw[hc]at k2
     simp[-List.all_eq_true,-List.all_eq_false]
     refine Z0 k2 (by simp) ?_
     cases hg:YD h p 4
     ·simp[-List.all_eq_true,-List.all_eq_false,hg,i1 (by omega),i2 (by omega),i3 (by omega)]
     ·simp[-List.all_eq_true,-List.all_eq_false,hg,Z1]
      exact⟨4,by simp[hg,i1 (by omega),i2 (by omega),i3 (by omega)],by simp,by simp[cnt]⟩
    ·have k3:=zg hpo
     have hwl:=jc hpo
     unfold ptsV at k3
     simp[-List.all_eq_true,-List.all_eq_false,i1 (by omega),i2 (by omega),i3 (by omega),i4 (by omega)]
     refine Z0 k3 (by simp) ?_
     have hhl:=hh.high
     have w1:=Z1 ((h.low.length:Int)+h.high.length) (by omega) (by omega)
     have w2:=Z1 ((h.low.length:Int)+h.high.length+YL p) (by omega) (by omega)
     simp[-List.all_eq_true,-List.all_eq_false,w1,w2]
theorem Jv{h:Hp}(hr:ZY h=true): ∃p,ZO h=some p∧VL h p=true∧numR h=true:=by
 unfold ZY at hr
 simp only[Bool.and_eq_true]at hr
 cases hp:ZO h with
 |none=>rw[hp]at hr;simp at hr
 |some p=>rw[hp]at hr;exact⟨p,rfl,hr.2,hr.1⟩
end Vm
end
section
namespace Vm
open Go
open Go.Proofs
set_option maxRecDepth 100000
def p9:Fn:=⟨17,[0,1,2,3,4,8,9,10,35,20,41,45,49,53,62,71,23],
(.seq
(.reg ⟨[],[],[(4,.m [(.fld (.sz (.s 0) 10) 0),(.fld (.sz (.s 0) 10) 1),(.fld (.sz (.s 0) 10) 2),(.fld (.sz (.s 0) 10) 3),(.fld (.sz (.s 0) 10) 4),(.fld (.sz (.s 0) 10) 5),(.fld (.sz (.s 0) 10) 6),(.fld (.sz (.s 0) 10) 7),(.fld (.sz (.s 0) 10) 8),(.fld (.sz (.s 0) 10) 9)]),(5,.m [(.c (.int .u64 (0))),(.c (.int .i64 (0))),(.c (.int .i64 (0))),(.c (.bool false)),(.c (.int .i64 (0))),(.c (.sl [])),(.c (.sl [])),(.c (.sl [])),(.c (.sl [])),(.c (.sl []))])]⟩)
(.seq
(.reg ⟨[.call 17 [] (.id 25) false false [(.s 1),(.c (.int .i64 (4)))]],[],[(6,.v (.bin .add (.c (.int .i64 (1))) (.s 17)))]⟩)
(.seq
(.reg ⟨[.call 18 [] (.id 7) false false [(.mm 4 0 10),(.s 6)]],[],[(7,.v (.app (.c (.sl [])) (.s 18) 1))]⟩)
(.seq
(.seq
(.reg ⟨[.call 9 [] (.id 25) false false [(.bin .quo (.s 1) (.c (.int .i64 (4)))),(.c (.int .i64 (11)))]],[],[]⟩)
(.block 0
 (.seq
 (.reg ⟨[],[],[(8,.v (.bin .eql (.s 9) (.c (.int .i64 (0)))))]⟩)
 (.cond (.s 8)
  (.reg ⟨[],[],[(4,.m [(.m 4 0),(.m 4 1),(.m 4 2),(.un .not (.m 4 3)),(.m 4 4),(.m 4 5),(.m 4 6),(.m 4 7),(.m 4 8),(.m 4 9)])]⟩)
  (.seq
  (.reg ⟨[],[],[(10,.v (.bin .eql (.s 9) (.c (.int .i64 (1)))))]⟩)
  (.cond (.s 10)
   (.reg ⟨[],[],[(4,.m [(.m 4 0),(.m 4 1),(.m 4 2),(.m 4 3),(.one (.s 2)),(.m 4 5),(.m 4 6),(.m 4 7),(.m 4 8),(.m 4 9)])]⟩)
   (.seq
   (.reg ⟨[],[],[(11,.v (.bin .eql (.s 9) (.c (.int .i64 (2)))))]⟩)
   (.cond (.s 11)
    (.reg ⟨[],[],[(4,.m [(.m 4 0),(.one (.s 2)),(.m 4 2),(.m 4 3),(.m 4 4),(.m 4 5),(.m 4 6),(.m 4 7),(.m 4 8),(.m 4 9)])]⟩)
    (.seq
    (.reg ⟨[],[],[(12,.v (.bin .eql (.s 9) (.c (.int .i64 (3)))))]⟩)
    (.cond (.s 12)
     (.reg ⟨[],[],[(4,.m [(.m 4 0),(.m 4 1),(.one (.s 2)),(.m 4 3),(.m 4 4),(.m 4 5),(.m 4 6),(.m 4 7),(.m 4 8),(.m 4 9)])]⟩)
     (.seq
     (.reg ⟨[],[],[(13,.v (.bin .eql (.s 9) (.c (.int .i64 (4)))))]⟩)
     (.cond (.s 13)
      (.reg ⟨[],[],[(4,.m [(.m 4 0),(.m 4 1),(.m 4 2),(.m 4 3),(.m 4 4),(.m 4 5),(.m 4 6),(.m 4 7),(.m 4 8),(.app (.app (.c (.sl [])) (.m 4 9) 1) (.lit [(.one (.s 3))]) 1)])]⟩)
      (.seq
      (.reg ⟨[],[],[(14,.v (.bin .eql (.s 9) (.c (.int .i64 (5)))))]⟩)
      (.cond (.s 14)
       (.reg ⟨[.call 19 [] (.id 6) false false [(.mm 4 0 10),(.s 6),(.app (.s 7) (.lit [(.one (.s 3))]) 1)]],[],[(4,.m [(.fld (.sz (.s 19) 10) 0),(.fld (.sz (.s 19) 10) 1),(.fld (.sz (.s 19) 10) 2),(.fld (.sz (.s 19) 10) 3),(.fld (.sz (.s 19) 10) 4),(.fld (.sz (.s 19) 10) 5),(.fld (.sz (.s 19) 10) 6),(.fld (.sz (.s 19) 10) 7),(.fld (.sz (.s 19) 10) 8),(.fld (.sz (.s 19) 10) 9)]),(7,.no)]⟩)
       (.seq
       (.reg ⟨[],[],[(15,.v (.bin .eql (.s 9) (.c (.int .i64 (6)))))]⟩)
       (.cond (.s 15)
        (.reg ⟨[.call 20 [] (.id 25) false false [(.s 2),(.bin .add (.len (.s 7)) (.c (.int .i64 (1))))],.call 21 [] (.id 6) false false [(.mm 4 0 10),(.s 6),(.slc (.s 7) (.c (.int .i64 (0))) (.s 20) 1)]],[],[(4,.m [(.fld (.sz (.s 21) 10) 0),(.fld (.sz (.s 21) 10) 1),(.fld (.sz (.s 21) 10) 2),(.fld (.sz (.s 21) 10) 3),(.fld (.sz (.s 21) 10) 4),(.fld (.sz (.s 21) 10) 5),(.fld (.sz (.s 21) 10) 6),(.fld (.sz (.s 21) 10) 7),(.fld (.sz (.s 21) 10) 8),(.fld (.sz (.s 21) 10) 9)])]⟩)
        (.seq
        (.reg ⟨[],[],[(16,.v (.bin .gtr (.len (.s 7)) (.c (.int .i64 (0)))))]⟩)
        (.cond (.s 16)
         (.seq
         (.reg ⟨[.call 22 [] (.id 25) false false [(.s 2),(.len (.s 7))]],[([],(.idx (.s 7) (.s 22) 1))],[(7,.v (.upd (.s 7) (.s 22) 0 (.one (.s 3))))]⟩)
         (.reg ⟨[.call 23 [] (.id 6) false false [(.mm 4 0 10),(.s 6),(.s 7)]],[],[(4,.m [(.fld (.sz (.s 23) 10) 0),(.fld (.sz (.s 23) 10) 1),(.fld (.sz (.s 23) 10) 2),(.fld (.sz (.s 23) 10) 3),(.fld (.sz (.s 23) 10) 4),(.fld (.sz (.s 23) 10) 5),(.fld (.sz (.s 23) 10) 6),(.fld (.sz (.s 23) 10) 7),(.fld (.sz (.s 23) 10) 8),(.fld (.sz (.s 23) 10) 9)])]⟩))
         .skip))))))))))))))))))
(.seq
(.reg ⟨[],[],[(5,.m [(.fld (.mm 4 0 10) 0),(.fld (.mm 4 0 10) 1),(.fld (.mm 4 0 10) 2),(.fld (.mm 4 0 10) 3),(.fld (.mm 4 0 10) 4),(.fld (.mm 4 0 10) 5),(.fld (.mm 4 0 10) 6),(.fld (.mm 4 0 10) 7),(.fld (.mm 4 0 10) 8),(.fld (.mm 4 0 10) 9)])]⟩)
.ret))))),
[(5,(.ag 10))]⟩
theorem c9:Z8 Tryz.prog fresh sig [.fz,.fz,.fz,.fz] [] Tryz.f9=some p9:=by kernel_rfl
def p57:Fn:=⟨23,[0,1,2,4,5,6,7,21,24,8,9,32,10,11,42,46,12,13,14,63,15,16,72],
(.seq
(.reg ⟨[],[],[(2,.m [(.fld (.sz (.s 0) 10) 0),(.fld (.sz (.s 0) 10) 1),(.fld (.sz (.s 0) 10) 2),(.fld (.sz (.s 0) 10) 3),(.fld (.sz (.s 0) 10) 4),(.fld (.sz (.s 0) 10) 5),(.fld (.sz (.s 0) 10) 6),(.fld (.sz (.s 0) 10) 7),(.fld (.sz (.s 0) 10) 8),(.fld (.sz (.s 0) 10) 9)]),(3,.v (.c (.int .u64 (0)))),(4,.m [(.c (.int .u64 (0))),(.c (.int .i64 (0))),(.c (.int .i64 (0))),(.c (.bool false)),(.c (.int .i64 (0))),(.c (.sl [])),(.c (.sl [])),(.c (.sl [])),(.c (.sl [])),(.c (.sl []))]),(5,.v (.c (.int .i64 (0))))]⟩)
(.seq
(.reg ⟨[.call 23 [] (.id 67) false false [(.mm 2 0 10)],.call 24 [] (.id 76) false false [(.s 23)]],[],[(6,.v (.s 24))]⟩)
(.seq
(.seq
(.reg ⟨[],[],[(7,.v (.un .not (.s 6)))]⟩)
(.cond (.s 7)
 (.seq
 (.reg ⟨[],[([],(.ag [(.c (.int .u64 (0))),(.c (.int .i64 (0))),(.c (.int .i64 (0))),(.c (.bool false)),(.c (.int .i64 (0))),(.c (.sl [])),(.c (.sl [])),(.c (.sl [])),(.c (.sl [])),(.c (.sl []))]))],[(3,.v (.c (.int .u64 (0)))),(4,.m [(.c (.int .u64 (0))),(.c (.int .i64 (0))),(.c (.int .i64 (0))),(.c (.bool false)),(.c (.int .i64 (0))),(.c (.sl [])),(.c (.sl [])),(.c (.sl [])),(.c (.sl [])),(.c (.sl []))]),(5,.v (.c (.int .i64 (1))))]⟩)
 .ret)
 .skip))
(.seq
(.seq
(.reg ⟨[],[],[(8,.v (.bin .eql (.s 1) (.c (.int .u64 (0)))))]⟩)
(.cond (.s 8)
 (.seq
 (.reg ⟨[],[],[(3,.v (.c (.int .u64 (0)))),(4,.m [(.fld (.mm 2 0 10) 0),(.fld (.mm 2 0 10) 1),(.fld (.mm 2 0 10) 2),(.fld (.mm 2 0 10) 3),(.fld (.mm 2 0 10) 4),(.fld (.mm 2 0 10) 5),(.fld (.mm 2 0 10) 6),(.fld (.mm 2 0 10) 7),(.fld (.mm 2 0 10) 8),(.fld (.mm 2 0 10) 9)]),(5,.v (.c (.int .i64 (0))))]⟩)
 .ret)
 .skip))
(.seq
(.reg ⟨[.call 25 [] (.id 79) false false [(.s 1)]],[],[(9,.v (.ext (.s 25) 0)),(10,.v (.ext (.s 25) 1))]⟩)
(.seq
(.seq
(.reg ⟨[],[],[(11,.v (.bin .neq (.s 10) (.c (.int .i64 (0)))))]⟩)
(.cond (.s 11)
 (.seq
 (.reg ⟨[],[([],(.ag [(.c (.int .u64 (0))),(.c (.int .i64 (0))),(.c (.int .i64 (0))),(.c (.bool false)),(.c (.int .i64 (0))),(.c (.sl [])),(.c (.sl [])),(.c (.sl [])),(.c (.sl [])),(.c (.sl []))]))],[(3,.v (.c (.int .u64 (0)))),(4,.m [(.c (.int .u64 (0))),(.c (.int .i64 (0))),(.c (.int .i64 (0))),(.c (.bool false)),(.c (.int .i64 (0))),(.c (.sl [])),(.c (.sl [])),(.c (.sl [])),(.c (.sl [])),(.c (.sl []))]),(5,.v (.c (.int .i64 (3))))]⟩)
 .ret)
 .skip))
(.seq
(.reg ⟨[.call 26 [] (.id 67) false false [(.mm 2 0 10)],.call 27 [] (.id 83) false false [(.s 26),(.s 9)]],[],[(12,.m [(.fld (.sz (.ext (.s 27) 0) 2) 0),(.fld (.sz (.ext (.s 27) 0) 2) 1)]),(13,.v (.ext (.s 27) 1))]⟩)
(.seq
(.seq
(.reg ⟨[],[],[(14,.v (.bin .neq (.s 13) (.c (.int .i64 (0)))))]⟩)
(.cond (.s 14)
 (.seq
 (.reg ⟨[],[([],(.ag [(.c (.int .u64 (0))),(.c (.int .i64 (0))),(.c (.int .i64 (0))),(.c (.bool false)),(.c (.int .i64 (0))),(.c (.sl [])),(.c (.sl [])),(.c (.sl [])),(.c (.sl [])),(.c (.sl []))]))],[(3,.v (.c (.int .u64 (0)))),(4,.m [(.c (.int .u64 (0))),(.c (.int .i64 (0))),(.c (.int .i64 (0))),(.c (.bool false)),(.c (.int .i64 (0))),(.c (.sl [])),(.c (.sl [])),(.c (.sl [])),(.c (.sl [])),(.c (.sl []))]),(5,.v (.c (.int .i64 (6))))]⟩)
 .ret)
 .skip))
(.seq
(.seq
(.reg ⟨[],[],[(15,.v (.bin .lss (.m 12 0) (.c (.int .i64 (3)))))]⟩)
(.cond (.s 15)
 (.seq
 (.reg ⟨[],[],[(3,.v (.s 1)),(4,.m [(.fld (.mm 2 0 10) 0),(.fld (.mm 2 0 10) 1),(.fld (.mm 2 0 10) 2),(.fld (.mm 2 0 10) 3),(.fld (.mm 2 0 10) 4),(.fld (.mm 2 0 10) 5),(.fld (.mm 2 0 10) 6),(.fld (.mm 2 0 10) 7),(.fld (.mm 2 0 10) 8),(.fld (.mm 2 0 10) 9)]),(5,.v (.c (.int .i64 (0))))]⟩)
 .ret)
 .skip))
(.seq
(.reg ⟨[.call 28 [] (.id 7) false false [(.mm 2 0 10),(.m 12 0)]],[],[(16,.v (.fld (.idx (.s 28) (.m 12 1) 1) 0))]⟩)
(.seq
(.reg ⟨[.call 29 [] (.id 79) false false [(.s 16)]],[],[(17,.v (.ext (.s 29) 0)),(18,.v (.ext (.s 29) 1))]⟩)
(.seq
(.seq
(.reg ⟨[],[],[(19,.v (.bin .eql (.s 18) (.c (.int .i64 (0)))))]⟩)
(.cond (.s 19)
 (.seq
 (.reg ⟨[],[],[(3,.v (.s 16)),(4,.m [(.fld (.mm 2 0 10) 0),(.fld (.mm 2 0 10) 1),(.fld (.mm 2 0 10) 2),(.fld (.mm 2 0 10) 3),(.fld (.mm 2 0 10) 4),(.fld (.mm 2 0 10) 5),(.fld (.mm 2 0 10) 6),(.fld (.mm 2 0 10) 7),(.fld (.mm 2 0 10) 8),(.fld (.mm 2 0 10) 9)]),(5,.v (.c (.int .i64 (0))))]⟩)
 .ret)
 .skip))
(.seq
(.reg ⟨[.call 30 [] (.id 84) false false [(.s 16)]],[],[(20,.m [(.fld (.sz (.ext (.s 30) 0) 2) 0),(.fld (.sz (.ext (.s 30) 0) 2) 1)]),(21,.v (.ext (.s 30) 1))]⟩)
(.seq
(.seq
(.reg ⟨[],[],[(22,.v (.bin .neq (.s 21) (.c (.int .i64 (0)))))]⟩)
(.cond (.s 22)
 (.seq
 (.reg ⟨[],[([],(.ag [(.c (.int .u64 (0))),(.c (.int .i64 (0))),(.c (.int .i64 (0))),(.c (.bool false)),(.c (.int .i64 (0))),(.c (.sl [])),(.c (.sl [])),(.c (.sl [])),(.c (.sl [])),(.c (.sl []))]))],[(3,.v (.c (.int .u64 (0)))),(4,.m [(.c (.int .u64 (0))),(.c (.int .i64 (0))),(.c (.int .i64 (0))),(.c (.bool false)),(.c (.int .i64 (0))),(.c (.sl [])),(.c (.sl [])),(.c (.sl [])),(.c (.sl [])),(.c (.sl []))]),(5,.v (.c (.int .i64 (3))))]⟩)
 .ret)
 .skip))
(.seq
(.reg ⟨[.call 31 [] (.id 85) false false [(.mm 2 0 10),(.mm 12 0 2),(.mm 20 0 2)]],[],[(3,.v (.ext (.s 31) 0)),(4,.m [(.fld (.sz (.ext (.s 31) 1) 10) 0),(.fld (.sz (.ext (.s 31) 1) 10) 1),(.fld (.sz (.ext (.s 31) 1) 10) 2),(.fld (.sz (.ext (.s 31) 1) 10) 3),(.fld (.sz (.ext (.s 31) 1) 10) 4),(.fld (.sz (.ext (.s 31) 1) 10) 5),(.fld (.sz (.ext (.s 31) 1) 10) 6),(.fld (.sz (.ext (.s 31) 1) 10) 7),(.fld (.sz (.ext (.s 31) 1) 10) 8),(.fld (.sz (.ext (.s 31) 1) 10) 9)]),(5,.v (.ext (.s 31) 2))]⟩)
.ret))))))))))))))),
[(3,.v),(4,(.ag 10)),(5,.v)]⟩
theorem c57:Z8 Tryz.prog fresh sig [.fz,.fz] [] Tryz.f57=some p57:=by kernel_rfl
def p85:Fn:=⟨20,[0,1,2,3,4,5,6,7,8,9,10,31,37,11,12,13,14,15,16,70],
(.seq
(.reg ⟨[],[],[(3,.m [(.fld (.sz (.s 0) 10) 0),(.fld (.sz (.s 0) 10) 1),(.fld (.sz (.s 0) 10) 2),(.fld (.sz (.s 0) 10) 3),(.fld (.sz (.s 0) 10) 4),(.fld (.sz (.s 0) 10) 5),(.fld (.sz (.s 0) 10) 6),(.fld (.sz (.s 0) 10) 7),(.fld (.sz (.s 0) 10) 8),(.fld (.sz (.s 0) 10) 9)]),(4,.m [(.fld (.sz (.s 1) 2) 0),(.fld (.sz (.s 1) 2) 1)]),(5,.m [(.fld (.sz (.s 2) 2) 0),(.fld (.sz (.s 2) 2) 1)]),(6,.v (.c (.int .u64 (0)))),(7,.m [(.c (.int .u64 (0))),(.c (.int .i64 (0))),(.c (.int .i64 (0))),(.c (.bool false)),(.c (.int .i64 (0))),(.c (.sl [])),(.c (.sl [])),(.c (.sl [])),(.c (.sl [])),(.c (.sl []))]),(8,.v (.c (.int .i64 (0))))]⟩)
(.seq
(.reg ⟨[.call 20 [] (.id 7) false false [(.mm 3 0 10),(.m 4 0)]],[],[(9,.v (.app (.c (.sl [])) (.s 20) 1))]⟩)
(.seq
(.reg ⟨[],[],[(10,.v (.bin .add (.c (.int .i64 (1))) (.m 5 0)))]⟩)
(.seq
(.seq
(.reg ⟨[],[],[(11,.v (.bin .gtr (.bin .add (.m 4 1) (.s 10)) (.len (.s 9))))]⟩)
(.cond (.s 11)
 (.seq
 (.reg ⟨[],[([],(.ag [(.c (.int .u64 (0))),(.c (.int .i64 (0))),(.c (.int .i64 (0))),(.c (.bool false)),(.c (.int .i64 (0))),(.c (.sl [])),(.c (.sl [])),(.c (.sl [])),(.c (.sl [])),(.c (.sl []))]))],[(6,.v (.c (.int .u64 (0)))),(7,.m [(.c (.int .u64 (0))),(.c (.int .i64 (0))),(.c (.int .i64 (0))),(.c (.bool false)),(.c (.int .i64 (0))),(.c (.sl [])),(.c (.sl [])),(.c (.sl [])),(.c (.sl [])),(.c (.sl []))]),(8,.v (.c (.int .i64 (2))))]⟩)
 .ret)
 .skip))
(.seq
(.seq
(.reg ⟨[.call 21 [] (.id 67) false false [(.mm 3 0 10)],.call 22 [] (.id 99) false false [(.s 21)]],[],[(12,.v (.bin .lss (.s 22) (.s 10)))]⟩)
(.cond (.s 12)
 (.seq
 (.reg ⟨[],[([],(.ag [(.c (.int .u64 (0))),(.c (.int .i64 (0))),(.c (.int .i64 (0))),(.c (.bool false)),(.c (.int .i64 (0))),(.c (.sl [])),(.c (.sl [])),(.c (.sl [])),(.c (.sl [])),(.c (.sl []))]))],[(6,.v (.c (.int .u64 (0)))),(7,.m [(.c (.int .u64 (0))),(.c (.int .i64 (0))),(.c (.int .i64 (0))),(.c (.bool false)),(.c (.int .i64 (0))),(.c (.sl [])),(.c (.sl [])),(.c (.sl [])),(.c (.sl [])),(.c (.sl []))]),(8,.v (.c (.int .i64 (7))))]⟩)
 .ret)
 .skip))
(.seq
(.reg ⟨[],[],[(13,.v (.len (.m 3 5)))]⟩)
(.seq
(.reg ⟨[],[],[(3,.m [(.m 3 0),(.m 3 1),(.m 3 2),(.m 3 3),(.m 3 4),(.app (.app (.c (.sl [])) (.m 3 5) 1) (.fls (.slc (.s 9) (.m 4 1) (.bin .add (.m 4 1) (.s 10)) 1)) 1),(.m 3 6),(.m 3 7),(.m 3 8),(.m 3 9)])]⟩)
(.seq
(.reg ⟨[.call 23 [] (.id 67) false true [(.mm 3 0 10)],.call 24 [] (.id 66) false false [(.s 23),(.ag [(.c (.int .i64 (1))),(.one (.s 13))])]],[],[(14,.v (.ext (.s 24) 0)),(15,.v (.ext (.s 24) 1))]⟩)
(.seq
(.reg ⟨[.call 25 [] (.id 68) false false [(.s 14)]],[],[(16,.v (.ext (.s 25) 0)),(17,.v (.ext (.s 25) 1))]⟩)
(.seq
(.seq
(.reg ⟨[],[],[(18,.v (.c (.int .i64 (0))))]⟩)
(.block 0
 (.loop [0,1,2,3,4,5,6,7,8,9,10,11,12,13,14,15,16,17,18]
  (.seq
  (.seq
  (.reg ⟨[],[],[(19,.v (.bin .lss (.s 18) (.s 10)))]⟩)
  (.cond (.s 19)
   .skip
   (.exit 0)))
  (.seq
  (.block 1
   (.reg ⟨[],[([],(.idx (.s 9) (.bin .add (.m 4 1) (.s 18)) 1))],[(9,.v (.upd (.s 9) (.bin .add (.m 4 1) (.s 18)) 0 (.c (.int .u64 (0)))))]⟩))
  (.reg ⟨[],[],[(18,.v (.bin .add (.s 18) (.c (.int .i64 (1)))))]⟩))))))
(.seq
(.reg ⟨[],[([],(.idx (.s 9) (.m 4 1) 1))],[(9,.v (.upd (.s 9) (.m 4 1) 0 (.one (.s 16))))]⟩)
(.seq
(.reg ⟨[.call 26 [] (.id 6) false false [(.mm 3 0 10),(.m 4 0),(.s 9)]],[],[(6,.v (.s 16)),(7,.m [(.fld (.sz (.s 26) 10) 0),(.fld (.sz (.s 26) 10) 1),(.fld (.sz (.s 26) 10) 2),(.fld (.sz (.s 26) 10) 3),(.fld (.sz (.s 26) 10) 4),(.fld (.sz (.s 26) 10) 5),(.fld (.sz (.s 26) 10) 6),(.fld (.sz (.s 26) 10) 7),(.fld (.sz (.s 26) 10) 8),(.fld (.sz (.s 26) 10) 9)]),(8,.v (.c (.int .i64 (0))))]⟩)
.ret)))))))))))),
[(6,.v),(7,(.ag 10)),(8,.v)]⟩
theorem c85:Z8 Tryz.prog fresh sig [.fz,.fz,.fz] [] Tryz.f85=some p85:=by kernel_rfl
end Vm
end
