import Derived.Test.YtfplljcicihneaaChecked
import Derived.Carry
import Derived.ProofKit
import Derived.OpenShut
import Derived.Test.YtfplljcicihneaaSMoveWords3
set_option linter.unusedSimpArgs false
set_option linter.unusedVariables false
section
namespace Vm
open Go
open Go.Proofs
def sig(f:FuncId):Option (List OT):=
 if f=116 then some [.mem [.fz,.fz,.fz,.fz,.fz,.fz,.fz,.fz,.fz,.fz,.fz,.fz,.fz,.fz,.fz,.fz,.fz,.fz,.fz,.fz,.fz,.own 119,.own 120],.fz,.fz]else
 if f=105 then some [.mem [.fz,.fz,.fz,.fz,.fz,.fz,.fz,.fz,.fz,.fz,.fz,.fz,.fz,.fz,.fz,.fz,.fz,.fz,.fz,.fz,.fz,.own 119,.own 120]]else
 if f=1000107 then some [.mem [.fz,.fz,.fz,.fz,.fz,.fz,.fz,.fz,.fz,.fz,.fz,.fz,.fz,.fz,.fz,.fz,.fz,.fz,.fz,.fz,.fz,.own 119,.own 120]]else
 none
def fresh(f:FuncId):Bool:=f==112||f==114
theorem follows:Try.prog.follows .mixedOrders=true:=by kernel_rfl
end Vm
end
section
namespace Vm
open Go
open Go.Proofs
def condW(x:Option V)(A B:Prop):Prop:=
 match x with
 |some (.bool true)=>A
 |some (.bool false)=>B
 |_=>False
@[simp] theorem condW_bool(b:Bool)(A B:Prop):condW (some (.bool b)) A B↔if b=true then A else B:=by cases b<;>simp[condW]
def onO{α:Type}(x:Option α)(K:α→Prop):Prop:=
 match x with
 |some x=>K x
 |none=>False
@[simp] theorem onO_some{α:Type}(x:α)(K:α→Prop):onO (some x) K↔K x:=Iff.rfl
@[simp] theorem onO_none{α:Type}(K:α→Prop):onO none K↔False:=Iff.rfl
@[simp] theorem onO_map{α β:Type}(f:α→β)(x:Option α)(K:β→Prop):onO (x.map f) K↔onO x (fun y=>K (f y)):=by cases x<;>rfl
@[simp] theorem onO_bind{α β:Type}(f:α→Option β)(x:Option α)(K:β→Prop):onO (x.bind f) K↔onO x (fun y=>onO (f y) K):=by cases x<;>rfl
@[simp] theorem onO_ite{α:Type}(p:Prop) [Decidable p](x y:Option α)(K:α→Prop):onO (if p then x else y) K↔if p then onO x K else onO y K:=by split<;>rfl
def callW(P:Program)(f:FuncId)(fr fl:Bool)(xs:List V)(K:V→Prop):Prop:= ∃r,VC P f fr xs r∧(fl=true→flV r=some r)∧K r
theorem callW_of{P:Program}{f:FuncId}{fr fl:Bool}{xs:List V}{K:V→Prop}{r:V}(h:VC P f fr xs r)(hf:fl=true→flV r=some r)(hK:K r):callW P f fr fl xs K:=⟨r,h,hf,hK⟩
def callWM(P:Program)(f:FuncId)(ks:List OT)(xs:List V)(K:V→Prop):Prop:= ∃R,VCM P f ks xs R∧K R
theorem callWM_of{P:Program}{f:FuncId}{ks:List OT}{xs:List V}{K:V→Prop}{R:V}(h:VCM P f ks xs R)(hK:K R):callWM P f ks xs K:=⟨R,h,hK⟩
def kS(P:Program)(b:Stm)(N:St→Prop)(X:Nat→St→Prop)(R:St→Prop)(s:St):Prop:=wpS P b s N X R
def xB(id:Nat)(N:St→Prop)(X:Nat→St→Prop)(i:Nat)(s:St):Prop:=if i=id then N s else X i s
def kR(chks:List (Conds×E))(outs:List (Nat×OV))(K:St→Prop)(t:St):Prop:=wpC t chks∧wpO outs t t K
def kO(l:List (Nat×OV))(t u:St)(i:Nat)(K:St→Prop)(x:SV):Prop:=wpO l t (putS u i x) K
def kL(P:Program)(l:List EF)(s:St)(i:Nat)(K:St→Prop)(x:V):Prop:=wpE P l (putS s i (.v x)) K
def kA(P:Program)(f:FuncId)(fr fl:Bool)(K:V→Prop)(xs:List V):Prop:=callW P f fr fl xs K
def kAE(P:Program)(fr fl:Bool)(K:V→Prop)(xs:List V)(v:V):Prop:=onO (cloV v) fun n=>callW P n.1 fr fl (xs++n.2) K
def kAF(P:Program)(x:Option V)(fr fl:Bool)(K:V→Prop)(xs:List V):Prop:=onO x (kAE P fr fl K xs)
def kAM(P:Program)(f:Option FuncId)(ks:List OT)(K:V→Prop)(xs:List V):Prop:=onO f fun n=>callWM P n ks xs K
def kW(P:Program)(l:List EF)(s:St)(i:Nat)(K:St→Prop)(os:List V):Prop:=if os= []then wpE P l s K else wpE P l (putS s i (.v (.tup (.bool false::os)))) K
def kT(_:V):Prop:=True
section
variable {P:Program} {N R:St→Prop} {X:Nat→St→Prop} {K:St→Prop} {s t u:St}
@[simp] theorem kS_at(b:Stm):kS P b N X R s↔wpS P b s N X R:=Iff.rfl
@[simp] theorem xB_same(id:Nat):xB id N X id s↔N s:=by simp[xB]
theorem xB_other(id i:Nat):xB id N X i s↔if i=id then N s else X i s:=Iff.rfl
@[simp] theorem xB_ne{id i:Nat}(h:i≠id):xB id N X i s↔X i s:=by simp[xB,h]
@[simp] theorem kR_at(chks:List (Conds×E))(outs:List (Nat×OV)):kR chks outs K t↔wpC t chks∧wpO outs t t K:=Iff.rfl
@[simp] theorem kO_at(l:List (Nat×OV))(i:Nat)(x:SV):kO l t u i K x↔wpO l t (putS u i x) K:=Iff.rfl
@[simp] theorem kL_at(l:List EF)(i:Nat)(x:V):kL P l s i K x↔wpE P l (putS s i (.v x)) K:=Iff.rfl
@[simp] theorem kA_at(f:FuncId)(fr fl:Bool)(K:V→Prop)(xs:List V):kA P f fr fl K xs↔callW P f fr fl xs K:=Iff.rfl
@[simp] theorem kAF_some(v:V)(fr fl:Bool)(K:V→Prop)(xs:List V):kAF P (some v) fr fl K xs↔kAE P fr fl K xs v:=Iff.rfl
@[simp] theorem kAE_fn(f:FuncId)(fr fl:Bool)(K:V→Prop)(xs:List V):kAE P fr fl K xs (.fn f)↔callW P f fr fl xs K:=by simp[kAE,cloV]
@[simp] theorem kAE_clo(f:FuncId)(cs:List V)(fr fl:Bool)(K:V→Prop)(xs:List V):kAE P fr fl K xs (.clo f cs)↔callW P f fr fl (xs++cs) K:=by simp[kAE,cloV]
@[simp] theorem kAM_some(f:FuncId)(ks:List OT)(K:V→Prop)(xs:List V):kAM P (some f) ks K xs↔callWM P f ks xs K:=Iff.rfl
@[simp] theorem kW_nil(l:List EF)(i:Nat):kW P l s i K []↔wpE P l s K:=by simp[kW]
@[simp] theorem kW_cons(l:List EF)(i:Nat)(x:V)(os:List V):kW P l s i K (x::os)↔wpE P l (putS s i (.v (.tup (.bool false::x::os)))) K:=by simp[kW]
@[simp] theorem kT_at(x:V):kT x↔True:=Iff.rfl
@[simp] theorem wpS_reg(r:Reg):wpS P (.reg r) s N X R↔wpR P r s N:=Iff.rfl
@[simp] theorem wpS_skip:wpS P .skip s N X R↔N s:=Iff.rfl
@[simp] theorem wpS_seq(a b:Stm):wpS P (.seq a b) s N X R↔wpS P a s (kS P b N X R) X R:=Iff.rfl
@[simp] theorem wpS_cond(c:E)(a b:Stm):wpS P (.cond c a b) s N X R↔condW (eval s c) (wpS P a s N X R) (wpS P b s N X R):=by
 simp only[wpS,condW]
 generalize eval s c=x
 cases x with
 |none=>rfl
 |some v=>cases v<;>first|rfl| (rename_i q;cases q<;>rfl)
@[simp] theorem wpS_block(id:Nat)(a:Stm):wpS P (.block id a) s N X R↔wpS P a s N (xB id N X) R:=Iff.rfl
@[simp] theorem wpS_exit(id:Nat):wpS P (.exit id) s N X R↔X id s:=Iff.rfl
@[simp] theorem wpS_ret:wpS P .ret s N X R↔R s:=Iff.rfl
theorem wpS_loop{keep:List Nat}{a:Stm}(I:St→Prop)(μ:St→Nat)(h0:I (onlyS keep s))(h1: ∀s,I s→wpS P a s (fun s'=>I (onlyS keep s')∧μ (onlyS keep s') <μ s) X R):wpS P (.loop keep a) s N X R:=⟨I,μ,h0,h1⟩
@[simp] theorem wpR_eq(efs:List EF)(chks:List (Conds×E))(outs:List (Nat×OV)):wpR P ⟨efs,chks,outs⟩ s K↔wpE P efs s (kR chks outs K):=Iff.rfl
@[simp] theorem wpO_nil:wpO [] t u K↔K u:=Iff.rfl
@[simp] theorem wpO_cons(i:Nat)(o:OV)(l:List (Nat×OV)):wpO ((i,o)::l) t u K↔onO (ovV t o) (kO l t u i K):=by
 simp only[wpO,onO,kO]
 cases ovV t o<;>rfl
@[simp] theorem wpC_nil:wpC t []↔True:=Iff.rfl
@[simp] theorem wpC_cons(C:Conds)(e:E)(l:List (Conds×E)):wpC t ((C,e)::l)↔(holdsB t C=true→onO (eval t e) kT)∧wpC t l:=by
 simp only[wpC,onO,kT]
 cases eval t e<;>simp
@[simp] theorem wpE_nil:wpE P [] s K↔K s:=Iff.rfl
@[simp] theorem wpE_lt(i:Nat)(C:Conds)(e:E)(l:List EF):wpE P (.lt i C e::l) s K↔if holdsB s C=true then onO (eval s e) (kL P l s i K)else wpE P l s K:=by
 simp only[wpE,onO,kL]
 cases eval s e<;>rfl
@[simp] theorem wpE_call(i:Nat)(C:Conds)(f:FuncId)(fr fl:Bool)(es:List E)(l:List EF):wpE P (.call i C (.id f) fr fl es::l) s K↔if holdsB s C=true then onO (evals s es) (kA P f fr fl (kL P l s i K))else wpE P l s K:=by
 simp only[wpE,onO,kA,callW,kL,fnV]
 cases evals s es<;>simp
@[simp] theorem wpE_calle(i:Nat)(C:Conds)(x:E)(fr fl:Bool)(es:List E)(l:List EF):wpE P (.call i C (.e x) fr fl es::l) s K↔if holdsB s C=true then onO (evals s es) (kAF P (eval s x) fr fl (kL P l s i K))else wpE P l s K:=by
 simp only[wpE,onO,kAF,kAE,callW,kL,fnV]
 cases evals s es with
 |none=>simp
 |some xs=>
  cases eval s x with
  |none=>simp
  |some v=>cases hv:cloV v<;>simp[hv]
@[simp] theorem wpE_callm(i:Nat)(C:Conds)(f:FN)(ks:List OT)(es:List E)(l:List EF):wpE P (.callm i C f ks es::l) s K↔
  if holdsB s C=true then onO (evals s es) (kAM P (fnOf s f) ks (kL P l s i K))
  else onO (oldV s ks es) (kW P l s i K):=by
 simp only[wpE,onO,callWM,kAM,kL,kW]
 split
 ·cases evals s es<;>cases fnOf s f<;>simp
 ·cases oldV s ks es with
  |none=>simp
  |some os=>cases os<;>simp
@[simp] theorem ovV_v(e:E):ovV t (.v e)=(eval t e).map .v:=rfl
@[simp] theorem ovV_m(l:List E):ovV t (.m l)=(evals t l).map .m:=rfl
@[simp] theorem ovV_no:ovV t .no=some .no:=rfl
@[simp] theorem holdsB_nil:holdsB s []=true:=rfl
theorem holdsB_cons(i:Nat)(b:Bool)(C:Conds):holdsB s ((i,b)::C)=((match get s i with| .v (.bool c)=>c==b|_=>false)&&holdsB s C):=rfl
end
@[simp] theorem get_zero(x:SV)(s:St):get (x::s) 0=x:=rfl
@[simp] theorem get_succ(x:SV)(s:St)(n:Nat):get (x::s) (n+1)=get s n:=by simp[get]
@[simp] theorem putS_zero(x y:SV)(s:St):putS (y::s) 0 x=x::s:=rfl
@[simp] theorem putS_succ(x y:SV)(s:St)(n:Nat):putS (y::s) (n+1) x=y::putS s n x:=rfl
@[simp] theorem putS_nil_zero(x:SV):putS [] 0 x= [x]:=rfl
@[simp] theorem putS_nil_succ(x:SV)(n:Nat):putS [] (n+1) x= .no::putS [] n x:=rfl
@[simp] theorem onlyS_nil(s:St):onlyS [] s= []:=rfl
@[simp] theorem onlyS_cons(i:Nat)(l:List Nat)(s:St):onlyS (i::l) s=putS (onlyS l s) i (get s i):=rfl
attribute [simp] ptV eval evals holdsB_cons resV resV1 resVs finV finAll outsV packV argS argsS fnOf oldV
section
variable {k:IntKind} {a b:Int} {x y:V} {l r:List V}
@[simp] theorem binV_add:binV .add (.int k a) (.int k b)=some (.int k (k.wrap (a+b))):=by simp[binV]
@[simp] theorem binV_sub:binV .sub (.int k a) (.int k b)=some (.int k (k.wrap (a-b))):=by simp[binV]
@[simp] theorem binV_mul:binV .mul (.int k a) (.int k b)=some (.int k (k.wrap (a*b))):=by simp[binV]
@[simp] theorem binV_quo:binV .quo (.int k a) (.int k b)=if b≠0 then some (.int k (k.wrap (a.tdiv b)))else none:=by simp[binV]
@[simp] theorem binV_rem:binV .rem (.int k a) (.int k b)=if b≠0 then some (.int k (a.tmod b))else none:=by simp[binV]
@[simp] theorem binV_eql:binV .eql (.int k a) (.int k b)=some (.bool (decide (a=b))):=by simp[binV];rfl
@[simp] theorem binV_neq:binV .neq (.int k a) (.int k b)=some (.bool (!decide (a=b))):=by simp[binV];rfl
@[simp] theorem binV_lss:binV .lss (.int k a) (.int k b)=some (.bool (decide (a<b))):=by simp[binV]
@[simp] theorem binV_leq:binV .leq (.int k a) (.int k b)=some (.bool (decide (a≤b))):=by simp[binV]
@[simp] theorem binV_gtr:binV .gtr (.int k a) (.int k b)=some (.bool (decide (b<a))):=by simp[binV]
@[simp] theorem binV_geq:binV .geq (.int k a) (.int k b)=some (.bool (decide (b≤a))):=by simp[binV]
@[simp] theorem eqV_bool(p q n:Bool):eqV n (.bool p) (.bool q)=some (.bool (n ^^ (p==q))):=rfl
@[simp] theorem unV_neg:unV .neg (.int k a)=some (.int k (k.wrap (0-a))):=rfl
@[simp] theorem unV_not(p:Bool):unV .not (.bool p)=some (.bool !p):=rfl
@[simp] theorem convV_int(k':IntKind):convV k' (.int k a)=some (.int k' (k'.wrap a)):=rfl
@[simp] theorem lenV_sl:lenV (.sl l)=some (.int .i64 l.length):=rfl
@[simp] theorem mlenV_mp(id:Nat)(vs:List V):mlenV (.mp id l vs)=some (.int .i64 l.length):=rfl
@[simp] theorem mclrV_mp(id:Nat)(vs:List V):mclrV (.mp id l vs)=some (.mp id [] []):=rfl
@[simp] theorem minV_int:minV (.int k a) (.int k b)=some (.int k (if b<a then b else a)):=rfl
@[simp] theorem maxV_int:maxV (.int k a) (.int k b)=some (.int k (if b>a then b else a)):=rfl
@[simp] theorem extV_tup(i:Nat):extV (.tup l) i=l[i]? :=rfl
@[simp] theorem idxV_nat(i n:Nat):idxV (.sl l) (.int k (i:Int)) n=(l[i]?).bind fun z=>if z.cells.length=n then some z else none:=by simp[idxV]
@[simp] theorem cells_int:(V.int k a).cells= [V.int k a]:=rfl
@[simp] theorem cells_bool(p:Bool):(V.bool p).cells= [V.bool p]:=rfl
@[simp] theorem cells_str(s:ByteArray):(V.str s).cells= [V.str s]:=rfl
@[simp] theorem cells_sl:(V.sl l).cells= [V.sl l]:=rfl
@[simp] theorem cells_agg:(V.agg l).cells=l:=rfl
@[simp] theorem cells_mp(id:Nat):(V.mp id l r).cells= [V.mp id l r]:=rfl
@[simp] theorem cells_fn(f:FuncId):(V.fn f).cells= [V.fn f]:=rfl
@[simp] theorem one_int:(V.int k a).one=true:=rfl
@[simp] theorem one_bool(p:Bool):(V.bool p).one=true:=rfl
@[simp] theorem one_sl:(V.sl l).one=true:=rfl
@[simp] theorem one_mp(id:Nat):(V.mp id l r).one=true:=rfl
@[simp] theorem one_fn(f:FuncId):(V.fn f).one=true:=rfl
@[simp] theorem one_agg:(V.agg l).one=false:=rfl
@[simp] theorem oneV_int:oneV (.int k a)=some (.int k a):=rfl
@[simp] theorem oneV_bool(p:Bool):oneV (.bool p)=some (.bool p):=rfl
@[simp] theorem oneV_str(s:ByteArray):oneV (.str s)=some (.str s):=rfl
@[simp] theorem oneV_sl:oneV (.sl l)=some (.sl l):=rfl
@[simp] theorem oneV_mp(id:Nat):oneV (.mp id l r)=some (.mp id l r):=rfl
@[simp] theorem oneV_fn(f:FuncId):oneV (.fn f)=some (.fn f):=rfl
@[simp] theorem fldV_agg(o:Nat):fldV (.agg l) o=(l[o]?).bind oneV:=rfl
@[simp] theorem fldV_int:fldV (.int k a) 0=some (.int k a):=rfl
@[simp] theorem fldV_bool(p:Bool):fldV (.bool p) 0=some (.bool p):=rfl
@[simp] theorem fldV_sl:fldV (.sl l) 0=some (.sl l):=rfl
@[simp] theorem fldV_str(s:ByteArray):fldV (.str s) 0=some (.str s):=rfl
@[simp] theorem fldsV_agg(o n:Nat):fldsV (.agg l) o n=if o+n≤l.length then some (.agg ((l.drop o).take n))else none:=rfl
@[simp] theorem szV_agg(n:Nat):szV (.agg l) n=if l.length=n then some (.agg l)else none:=rfl
@[simp] theorem isagV_agg:isagV (.agg l)=some (.agg l):=rfl
@[simp] theorem starV_ptr:starV (.ptr l)=some (.agg l):=rfl
@[simp] theorem iteV_bool(p:Bool)(A B:Option V):iteV (.bool p) A B=if p=true then A else B:=by cases p<;>rfl
@[simp] theorem agV_eq:agV l= .agg (flat l):=rfl
@[simp] theorem flat_cons':flat (x::l)=x.cells++flat l:=rfl
@[simp] theorem flat_nil':flat []= []:=rfl
@[simp] theorem appV_sl(n:Nat):appV n (.sl l) (.sl r)=if l.length+r.length≤lim∧sizeOk n r=true then some (.sl (l++r))else none:=rfl
@[simp] theorem sizeOk_nil(n:Nat):sizeOk n []=true:=rfl
@[simp] theorem sizeOk_cons(n:Nat):sizeOk n (x::l)=(x.cells.length==n&&sizeOk n l):=rfl
theorem sizeOk_map{α:Type}{f:α→V}{n:Nat}{l:List α}(h: ∀x,(f x).cells.length=n):sizeOk n (l.map f)=true:=by
 simp[sizeOk,h]
@[simp] theorem sizeOk_vi(l:List Int):sizeOk 1 (l.map (V.int k))=true:=sizeOk_map fun _=>rfl
@[simp] theorem mkV_nat(n:Nat):mkV x (.int k (n:Int))=if n≤lim then some (.sl (List.replicate n x))else none:=by
 simp only[mkV]
 have:((n:Int)≤(lim:Nat))↔n≤lim:=by omega
 simp[this]
@[simp] theorem slcV_nat(i j n:Nat):slcV n (.sl l) (.int k (i:Int)) (.int k (j:Int))=if i≤j∧j≤l.length∧sizeOk n l=true then some (.sl ((l.take j).drop i))else none:=by
 simp[slcV]
@[simp] theorem slclV_nat(i n:Nat):slclV n (.sl l) (.int k (i:Int))=if i≤l.length∧sizeOk n l=true then some (.sl (l.drop i))else none:=by
 simp[slclV]
@[simp] theorem updV_nat(i o:Nat):updV (.sl l) (.int k (i:Int)) o y=(l[i]?).bind fun z=>if o+y.cells.length≤z.cells.length∧y.cells≠ []then some (.sl (l.set i (z.put o y.cells)))else none:=by
 simp[updV]
end
abbrev vi(n:Int):V:= .int .i64 n
abbrev vu(n:Int):V:= .int .u64 n
@[simp] theorem nat_neg(n:Nat):((n:Int) <0)↔False:=⟨fun h=>absurd h (by omega),False.elim⟩
theorem wrap_i(n:Int)(h1: -9223372036854775808≤n)(h2:n≤9223372036854775807):IntKind.i64.wrap n=n:=by
 rw[IntKind.wrap_i64];omega
end Vm
end
section
namespace Vm
open Go Go.ChangeShapes Go.WideShapes Go.ChangeAt Go.RowKit
def fldsOk(P:Program)(n:Nat):List Field→Nat→Bool
 | [],o=>o==n
 |f::l,o=>f.offset==o&&fldsOk P n l (o+P.cellsOf f.type)
def okTy(P:Program):Nat→TypeId→Bool
 |0,_=>false
 |n+1,t=>match P.underlying t with
  |some .bool|some (.int _) |some .string=>true
  |some (.slice e)=>okTy P n e&&decide (0<P.cellsOf e)
  |some (.struct fs)=>fldsOk P (P.cellsOf t) fs.toList 0&&fs.toList.all fun f=>okTy P n f.type
  |some (.array m e)=>okTy P n e&&m*P.cellsOf e==P.cellsOf t
  |_=>false
def tyV(P:Program):Nat→TypeId→V→Prop
 |0,_,_=>False
 |n+1,t,x=>match P.underlying t with
  |some .bool=> ∃b,x= .bool b
  |some (.int k)=> ∃m,x= .int k m∧(Lit.int k m).wf=true
  |some .string=> ∃s,x= .str s∧s.size≤maxLen
  |some (.slice e)=> ∃l,x= .sl l∧l.length≤maxLen∧ ∀y∈l,tyV P n e y
  |some (.struct fs)=> ∃ys,x= .agg (flat ys)∧ys.length=fs.toList.length∧ ∀(i:Nat) (f:Field) (y:V),fs.toList[i]? =some f→ys[i]? =some y→tyV P n f.type y
  |some (.array m e)=> ∃ys,x= .agg (flat ys)∧ys.length=m∧ ∀y∈ys,tyV P n e y
  |_=>False
def RdC(w:World)(G:Nat→Prop)(cs:List V)(vs:List Value):Prop:=
 vs.length=cs.length∧ ∀(i:Nat) (c:V),cs[i]? =some c→c.one=true∧ ∃u,vs[i]? =some u∧Rd w G c u
theorem RdC.nil{w:World}{G:Nat→Prop}:RdC w G [] []:=⟨rfl,fun i c h=>by simp at h⟩
theorem RdC.append{w:World}{G:Nat→Prop}{cs cs':List V}{vs vs':List Value}(h:RdC w G cs vs)(h':RdC w G cs' vs'):RdC w G (cs++cs') (vs++vs'):=by
 refine⟨by simp[h.1,h'.1],fun i c hi=> ?_⟩
 rw[List.getElem?_append]at hi⊢
 rw[h.1]
 split at hi
 ·rename_i hlt
  rw[if_pos hlt]
  exact h.2 i c hi
 ·rename_i hlt
  rw[if_neg hlt]
  exact h'.2 _ c hi
theorem RdC.one{w:World}{G:Nat→Prop}{c:V}{v:Value}(h1:c.one=true)(h:Rd w G c v):RdC w G [c] [v]:=
 ⟨rfl,fun i x hi=>by
  cases i with
  |zero=>simp at hi;subst hi;exact⟨h1,v,rfl,h⟩
  |succ i=>simp at hi⟩
theorem choose_list{α:Type}{Q:Nat→α→Prop}: ∀(n:Nat),(∀i,i<n→ ∃y,Q i y)→ ∃l:List α,l.length=n∧ ∀(i:Nat) (y:α),l[i]? =some y→Q i y
 |0,_=>⟨[],rfl,fun i y h=>by simp at h⟩
 |n+1,h=>by
  obtain⟨l,h1,h2⟩:=choose_list n fun i hi=>h i (by omega)
  obtain⟨y,hy⟩:=h n (by omega)
  refine⟨l++ [y],by simp[h1],fun i z hz=> ?_⟩
  rw[List.getElem?_append]at hz
  split at hz
  ·exact h2 i z hz
  ·rename_i hlt
   rw[List.getElem?_singleton]at hz
   split at hz
   ·rename_i he
    have:i=n:=by omega
    subst this
    simp only[Option.some.injEq]at hz
    subst hz;exact hy
   ·cases hz
theorem cells_some{w:World}{b:Nat}{a:Addr}{n:Nat}{cs:List Value}(h:w.cells? b a n=some cs):cs.length=n∧ ∀i,i<n→w.cell? (a.add i)=cs[i]? :=by
 unfold World.cells? at h
 split at h
 ·have h1:=mapM_some_length h
  rw[List.length_range]at h1
  refine⟨h1,fun i hi=>mapM_some_get h i i ?_⟩
  rw[List.getElem?_range hi]
 ·cases h
theorem cell_lt{w:World}{a:Addr}{v:Value}(h:w.cell? a=some v):a.block<w.heap.size:=by
 unfold World.cell? at h
 rcases Nat.lt_or_ge a.block w.heap.size with h1|h1
 ·exact h1
 ·have:w.heap[a.block]? =none:=by simp[h1]
  simp[this]at h
theorem rdc_flat{w:World}{G:Nat→Prop}: ∀ {ys:List V} {vss:List (List Value)},vss.length=ys.length→(∀(i:Nat) (y:V) (vs:List Value),ys[i]? =some y→vss[i]? =some vs→RdC w G y.cells vs)→RdC w G (flat ys) vss.flatten
 | [],[],_,_=>by simpa using RdC.nil
 | [],_::_,h,_=>by simp at h
 |_::_,[],h,_=>by simp at h
 |y::ys,vs::vss,h,hr=>by
  rw[flat_cons,List.flatten_cons]
  exact(hr 0 y vs rfl rfl).append (rdc_flat (by simpa using h) fun i z us hz hu=>hr (i+1) z us (by simpa using hz) (by simpa using hu))
theorem flds_cut{P:Program}{n:Nat}{cs:List Value}: ∀ {l:List Field} {o:Nat},fldsOk P n l o=true→o≤n∧(cs.length=n→cs.drop o=(l.map fun f=>(cs.drop f.offset).take (P.cellsOf f.type)).flatten)
 | [],o,h=>by
   simp only[fldsOk,beq_iff_eq]at h
   subst h
   exact⟨Nat.le_refl _,fun hc=>by simp[←hc]⟩
 |f::l,o,h=>by
  simp only[fldsOk,Bool.and_eq_true,beq_iff_eq]at h
  obtain⟨h1,h2⟩:=h
  obtain⟨h3,h4⟩:=flds_cut (cs:=cs) h2
  refine⟨by omega,fun hc=> ?_⟩
  rw[List.map_cons,List.flatten_cons,←h4 hc,h1,←List.drop_drop,List.take_append_drop]
theorem arr_cut{cs:List Value}{k:Nat}: ∀ {m:Nat},cs.length=m*k→cs=((List.range m).map fun i=>(cs.drop (i*k)).take k).flatten:=by
 have: ∀(m:Nat) (cs:List Value),cs.take (m*k)=((List.range m).map fun i=>(cs.drop (i*k)).take k).flatten:=by
  intro m
  induction m with
  |zero=>intro cs;simp
  |succ m ih=>
   intro cs
   rw[List.range_succ,List.map_append,List.flatten_append,←ih,Nat.succ_mul,List.take_add]
   simp
 intro m h
 have h2:=this m cs
 rw[List.take_of_length_le (by omega)]at h2
 exact h2
section
variable {H:Type} {enc:TypeId×Value→H} {P:Program} {w:World} {spare:Nat→Bool} {held:Bool}
theorem read_trod: ∀ {n:Nat} {t:TypeId} {fuel:Nat} {cs:List Value} {d:DataW H×List MemPlace},okTy P n t=true→DataW.trod enc P w 0 spare held fuel t cs=some d→
  ∃x,tyV P n t x∧RdC w (fun b=>b<w.heap.size) x.cells cs
 |0,t,fuel,cs,d,hk,h=>by cases hk
 |n+1,t,fuel,cs,d,hk,h=>by
  unfold okTy at hk
  unfold tyV
  split at hk
  ·rename_i ht
   obtain⟨b,rfl,_⟩:=DataW.trod_bool ht h
   exact⟨.bool b,⟨b,rfl⟩,.one rfl (.bool b)⟩
  ·rename_i k ht
   obtain⟨m,rfl,_,hw⟩:=DataW.trod_int ht h
   exact⟨.int k m,⟨m,rfl,hw⟩,.one rfl (.int k m)⟩
  ·rename_i ht
   obtain⟨s,rfl,_,hw⟩:=DataW.trod_string ht h
   exact⟨.str s,⟨s,rfl,hw⟩,.one rfl (.str s)⟩
  ·rename_i e ht
   simp only[Bool.and_eq_true,decide_eq_true_eq]at hk
   obtain⟨hk1,hk2⟩:=hk
   rcases DataW.trod_slice ht h with ⟨rfl,_⟩ | ⟨a,len,cap,elems,rest,m,_,rfl,_,_,hlc,hcm,hel,hat,_⟩
   ·exact⟨.sl [],⟨[],rfl,by simp,by simp⟩,.one rfl (.nil _ _ (Nat.zero_le _))⟩
   ·have heach: ∀i,i<len→ ∃y,tyV P n e y∧ ∃vs,w.cells? 0 (a.add (i*P.cellsOf e)) (P.cellsOf e)=some vs∧RdC w (fun b=>b<w.heap.size) y.cells vs:=by
     intro i hi
     have h1:=hat i hi
     rw[List.getElem?_eq_getElem (by omega)]at h1
     simp only[Option.bind_eq_some_iff]at h1
     obtain⟨vs,h2,h3⟩:=h1
     obtain⟨y,hy,hr⟩:=read_trod hk1 h3
     exact⟨y,hy,vs,h2,hr⟩
    obtain⟨l,hl1,hl2⟩:=choose_list len heach
    have hty: ∀y∈l,tyV P n e y:=fun y hy=>by
     obtain⟨i,hi⟩:=List.getElem?_of_mem hy
     exact(hl2 i y hi).1
    refine⟨.sl l,⟨l,rfl,by omega,hty⟩,.one rfl ?_⟩
    cases hlen:len with
    |zero=>
     have:l= []:=List.eq_nil_of_length_eq_zero (by omega)
     subst this
     exact .nil _ _ hcm
    |succ len'=>
     obtain⟨b,o,spot⟩:=a
     have hspot:spot=none:=by
      obtain⟨y,_,vs,hv,_⟩:=heach 0 (by omega)
      obtain⟨h1,h2⟩:=cells_some hv
      have h3:=h2 0 hk2
      rw[List.getElem?_eq_getElem (by omega)]at h3
      have h4:=World.cell?_spot h3
      cases spot with
      |none=>rfl
      |some s=>simp[Addr.add]at h4
     subst hspot
     have hcell: ∀(i j:Nat) (y:V),l[i]? =some y→j<P.cellsOf e→ ∃(u:Value),w.cell? ⟨b,o+(i*P.cellsOf e+j),none⟩=some u∧ ∃c,y.cells[j]? =some c∧c.one=true∧Rd w (fun b=>b<w.heap.size) c u:=by
      intro i j y hy hj
      obtain⟨_,vs,hv,hr⟩:=hl2 i y hy
      obtain⟨h1,h2⟩:=cells_some hv
      have h3:=h2 j hj
      rw[Addr.add_lit,Addr.add_lit,List.getElem?_eq_getElem (by omega)]at h3
      have hyl:j<y.cells.length:=by rw[←hr.1];omega
      obtain⟨q1,u,q2,q3⟩:=hr.2 j y.cells[j] (List.getElem?_eq_getElem hyl)
      rw[List.getElem?_eq_getElem (by omega),Option.some.injEq]at q2
      subst q2
      exact⟨_,by rw[←Nat.add_assoc];exact h3,_,List.getElem?_eq_getElem hyl,q1,q3⟩
     have hfit: ∀y∈l,y.fits (P.cellsOf e):=fun y hy=>by
      obtain⟨i,hi⟩:=List.getElem?_of_mem hy
      obtain⟨_,vs,hv,hr⟩:=hl2 i y hi
      refine⟨by rw[←hr.1,(cells_some hv).1],fun c hc=> ?_⟩
      obtain⟨j,hj⟩:=List.getElem?_of_mem hc
      exact(hr.2 j c hj).1
     have hdiv: ∀i,i<l.length*P.cellsOf e→ ∃y,l[i / P.cellsOf e]? =some y∧i%P.cellsOf e<P.cellsOf e∧i=i / P.cellsOf e*P.cellsOf e+i%P.cellsOf e:=by
      intro i hi
      have h1:i / P.cellsOf e<l.length:=(Nat.div_lt_iff_lt_mul hk2).2 hi
      exact⟨_,List.getElem?_eq_getElem h1,Nat.mod_lt _ hk2,by rw[Nat.mul_comm];exact(Nat.div_add_mod _ _).symm⟩
     have hb:b<w.heap.size:=by
      obtain⟨y,hy⟩: ∃y,l[0]? =some y:=⟨_,List.getElem?_eq_getElem (by omega)⟩
      obtain⟨u,hu,_⟩:=hcell 0 0 y hy hk2
      exact cell_lt hu
     have hsl:=Rd.sl (w:=w) (G:=fun b=>b<w.heap.size) l b o cap (P.cellsOf e) (fun i=>(w.cell? ⟨b,o+i,none⟩).getD undef) (by omega) hcm hb hfit (fun i hi=> ?_) (fun i c hi=> ?_)
     ·rw[hl1,hlen]at hsl
      exact hsl
     ·obtain⟨y,h1,h2,h3⟩:=hdiv i hi
      obtain⟨u,hu,_⟩:=hcell _ _ y h1 h2
      rw[←h3]at hu
      rw[hu];rfl
     ·have hil:i<l.length*P.cellsOf e:=by
       rw[←flat_length hfit]
       exact(List.getElem?_eq_some_iff.1 hi).1
      obtain⟨y,h1,h2,h3⟩:=hdiv i hil
      obtain⟨u,hu,c',hc',_,hr⟩:=hcell _ _ y h1 h2
      rw[←h3]at hu
      rw[h3,flat_at hfit h1 _ h2,hc']at hi
      cases hi
      simp only[hu,Option.getD_some]
      exact hr
  ·rename_i fs ht
   simp only[Bool.and_eq_true,List.all_eq_true]at hk
   obtain⟨hk1,hk2⟩:=hk
   obtain⟨xs,m,_,_,hcl,hxl,hat⟩:=DataW.trod_struct ht h
   obtain⟨ys,hy1,hy2⟩:=choose_list (Q:=fun i y=> ∀f,fs.toList[i]? =some f→tyV P n f.type y∧RdC w (fun b=>b<w.heap.size) y.cells ((cs.drop f.offset).take (P.cellsOf f.type))) fs.toList.length (by
    intro i hi
    have hf:fs.toList[i]? =some fs.toList[i]:=List.getElem?_eq_getElem hi
    have h1:=hat i fs.toList[i] (by simp)
    rw[List.getElem?_eq_getElem (by rw[hxl];exact hi)]at h1
    obtain⟨y,hy,hr⟩:=read_trod (hk2 _ (List.getElem_mem hi)) h1
    exact⟨y,fun f h2=>by rw[hf]at h2;cases h2;exact⟨hy,hr⟩⟩)
   refine⟨.agg (flat ys),⟨ys,rfl,hy1,fun i f y hf hy=>(hy2 i y hy f hf).1⟩,?_⟩
   have hcut:=(flds_cut (cs:=cs) hk1).2 hcl
   rw[List.drop_zero]at hcut
   rw[hcut]
   refine rdc_flat (by simp[hy1]) fun i y vs hy hv=> ?_
   rw[List.getElem?_map,Option.map_eq_some_iff]at hv
   obtain⟨f,hf,rfl⟩:=hv
   exact(hy2 i y hy f hf).2
  ·rename_i m e ht
   simp only[Bool.and_eq_true,beq_iff_eq]at hk
   obtain⟨hk1,hk2⟩:=hk
   obtain⟨xs,q,_,_,hcl,hxl,hat⟩:=DataW.trod_array ht h
   obtain⟨ys,hy1,hy2⟩:=choose_list (Q:=fun i y=>tyV P n e y∧RdC w (fun b=>b<w.heap.size) y.cells ((cs.drop (i*P.cellsOf e)).take (P.cellsOf e))) m (by
    intro i hi
    have h1:=hat i hi
    rw[List.getElem?_eq_getElem (by omega)]at h1
    exact read_trod hk1 h1)
   refine⟨.agg (flat ys),⟨ys,rfl,hy1,fun y hy=> ?_⟩,?_⟩
   ·obtain⟨i,hi⟩:=List.getElem?_of_mem hy
    exact(hy2 i y hi).1
   ·rw[arr_cut (cs:=cs) (k:=P.cellsOf e) (m:=m) (by omega)]
    refine rdc_flat (by simp[hy1]) fun i y vs hy hv=> ?_
    rw[List.getElem?_map,Option.map_eq_some_iff]at hv
    obtain⟨j,hj,rfl⟩:=hv
    have:j=i:=by
     rw[List.getElem?_eq_some_iff]at hj
     obtain⟨_,hj⟩:=hj
     simpa using hj.symm
    subst this
    exact(hy2 j y hy).2
  ·cases hk
theorem read_arg{n:Nat}{t:TypeId}{v:Value}{d:DataW H}{ps:List MemPlace}{r:Reach}{b0:Nat}(hk:okTy P n t=true)(hval:Value.okWide P w r b0 t v)(h:DataW.Trod enc P w 0 spare held t v d ps):
  ∃x,tyV P n t x∧Rd w (fun b=>b<w.heap.size) x v:=by
 obtain⟨fuel,h⟩:=h
 obtain⟨x,hx,hr⟩:=read_trod hk h
 refine⟨x,hx,?_⟩
 have h1: ∀ {c:V},x=c→c.cells= [c]→v.cells.toList= [v]→Rd w (fun b=>b<w.heap.size) x v:=by
  intro c he hc hv
  subst he
  rw[hc,hv]at hr
  obtain⟨_,u,q1,q2⟩:=hr.2 0 x rfl
  simp at q1
  subst q1
  exact q2
 have h2: ∀ {cs:List V} {vs:Array Value},x= .agg cs→v= .agg vs→Rd w (fun b=>b<w.heap.size) x v:=by
  intro cs vs he hv
  subst he hv
  refine .agg cs vs (by have:=hr.1;simpa[Value.cells]using this) (fun c hc=> ?_) fun i c hi=> ?_
  ·obtain⟨i,hi⟩:=List.getElem?_of_mem hc
   exact(hr.2 i c hi).1
  ·obtain⟨_,u,q1,q2⟩:=hr.2 i c hi
   have:vs.getD i undef=u:=by
    have q3:vs[i]? =some u:=by simpa[Value.cells]using q1
    simp[Array.getD_eq_getD_getElem?,q3]
   rw[this]
   exact q2
 cases n with
 |zero=>cases hk
 |succ n=>
  unfold okTy at hk
  unfold tyV at hx
  split at hk
  ·rename_i ht
   rw[ht]at hx
   obtain⟨b,rfl⟩:=hx
   obtain⟨c,rfl⟩:=okWide_bool ht hval
   exact h1 rfl rfl rfl
  ·rename_i k ht
   rw[ht]at hx
   obtain⟨b,rfl,_⟩:=hx
   obtain⟨c,rfl⟩:=okWide_int ht hval
   exact h1 rfl rfl rfl
  ·rename_i ht
   rw[ht]at hx
   obtain⟨b,rfl,_⟩:=hx
   obtain⟨c,rfl⟩:=okWide_string ht hval
   exact h1 rfl rfl rfl
  ·rename_i e ht
   rw[ht]at hx
   obtain⟨b,rfl,_⟩:=hx
   obtain⟨c,_,_,rfl⟩:=okWide_slice ht hval
   exact h1 rfl rfl rfl
  ·rename_i fs ht
   rw[ht]at hx
   obtain⟨b,rfl,_⟩:=hx
   simp only[Value.okWide,ht]at hval
   obtain⟨cs,rfl,_⟩:=hval
   exact h2 rfl rfl
  ·rename_i m e ht
   rw[ht]at hx
   obtain⟨b,rfl,_⟩:=hx
   simp only[Value.okWide,ht]at hval
   obtain⟨cs,rfl,_⟩:=hval
   exact h2 rfl rfl
  ·cases hk
theorem read_args{n:Nat}{r:Reach}{b0:Nat}: ∀ {ts:List TypeId} {vs:List Value} {ds:List (DataW H)} {ps:List MemPlace},DataW.TrodAll enc P w 0 spare held ts vs ds ps→(∀t∈ts,okTy P n t=true)→
  (∀(j:Nat) t v,ts[j]? =some t→vs[j]? =some v→Value.okWide P w r b0 t v)→
  ∃xs:List V,xs.length=vs.length∧vs.length=ts.length∧ds.length=ts.length∧(∀(i:Nat) (t:TypeId) (x:V),ts[i]? =some t→xs[i]? =some x→tyV P n t x)∧ ∀(i:Nat) (x:V) (v:Value),xs[i]? =some x→vs[i]? =some v→Rd w (fun b=>b<w.heap.size) x v
 | [],vs,ds,ps,h,_,_=>by
   obtain⟨rfl,rfl,rfl⟩:=trodAll_nil h
   exact⟨[],rfl,rfl,rfl,fun i t x h=>by simp at h,fun i x v h=>by simp at h⟩
 |t::ts,vs,ds,ps,h,hk,hval=>by
  obtain⟨v,vs',d,ds',p,q,rfl,rfl,rfl,h1,h2⟩:=trodAll_cons h
  obtain⟨x,hx1,hx2⟩:=read_arg (hk t (by simp)) (hval 0 t v rfl rfl) h1
  obtain⟨xs,q1,q2,q5,q3,q4⟩:=read_args h2 (fun t ht=>hk t (by simp[ht])) fun j t' v' ht hv=>hval (j+1) t' v' (by simpa using ht) (by simpa using hv)
  refine⟨x::xs,by simp[q1],by simp[q2],by simp[q5],fun i t' x' ht hx=> ?_,fun i x' v' hx hv=> ?_⟩
  ·cases i with
   |zero=>simp at ht hx;subst ht hx;exact hx1
   |succ i=>exact q3 i t' x' (by simpa using ht) (by simpa using hx)
  ·cases i with
   |zero=>simp at hv hx;subst hv hx;exact hx2
   |succ i=>exact q4 i x' v' (by simpa using hx) (by simpa using hv)
theorem args_stay{W W':World}(hl:laidOutB P=true)(hb:Below W.heap.size W W'): ∀ {ts:List TypeId} {vs:List Value} {ds:List (DataW H)} {ps:List MemPlace},DataW.TrodAll enc P W 0 (fun _=>true) true ts vs ds ps→
  (∀t∈ts,P.readableRec t=true∧t<P.types.size)→(∀x∈ps,x.block<W.heap.size)→DataW.TrodAll enc P W' 0 (fun b=>decide (b<W.heap.size)) true ts vs ds ps
 | [],vs,ds,ps,h,_,_=>by
   obtain⟨rfl,rfl,rfl⟩:=trodAll_nil h
   exact trodAll_mk0
 |t::ts,vs,ds,ps,h,hk,hlt=>by
  obtain⟨v,vs',d,ds',p,q,rfl,rfl,rfl,h1,h2⟩:=trodAll_cons h
  exact trodAll_cons_mk (Below.trod hl (hk t (by simp)).1 (hk t (by simp)).2 h1 hb fun x hx=>hlt x (by simp[hx])) (args_stay hl hb h2 (fun t ht=>hk t (by simp[ht])) fun x hx=>hlt x (by simp[hx]))
end
theorem law_contract{P:Program}{f:FuncId}{fn:Func}{s:ChangeSpec}{tb:TypeId}(n:Nat)(hl:laidOutB P=true)(hok:(fn.params.toList.all fun t=>okTy P n t)=true)(hread:(fn.params.toList.all fun t=>P.readableRec t&&decide (t<P.types.size))=true)
  (hvars:s.vars= []) (hres:fn.resultTypes= #[tb]) (hb:P.underlying tb=some .bool)
  (hfn: ∀(H:Type) (ds:List (DataW H)),ds.length=fn.params.toList.length→s.fn H ds= {results:= [.lit (.bool true)],args:=ds})
  (hlaw: ∀xs:List V,xs.length=fn.params.toList.length→(∀(i:Nat) (t:TypeId) (x:V),fn.params.toList[i]? =some t→xs[i]? =some x→tyV P n t x)→VC P f false xs (.bool true))
  (H:Type) (enc:TypeId×Value→H) (W:World) (base:Nat) (args:Array Value) (ds gs:List (DataW H)) (before:List MemPlace)
  (hval: ∀(j:Nat) t v,fn.params[j]? =some t→args[j]? =some v→Value.okWide P W .any base t v)
  (hW:DataW.Whole enc P fn.params.toList s.vars false W args.toList ds gs before):
  Calls P f args W fun e W'=> ∃v,e= .returned v∧s.post enc P fn false true false false W args v W':=by
 have hlt: ∀x∈before,x.block<W.heap.size:=fun x hx=>by simpa using hW.lt x hx
 have hW':=hW
 obtain⟨p,q,hA,hV,rfl,_,_⟩:=hW
 rw[hvars]at hV
 obtain⟨rfl,rfl⟩:=trodVars_none hV
 rw[List.append_nil]at hlt hW'
 obtain⟨xs,q1,q2,q5,q3,q4⟩:=read_args (n:=n) hA (List.all_eq_true.1 hok) fun j t v ht hv=>hval j t v (by simpa using ht) (by simpa using hv)
 obtain⟨_,hvc⟩:=hlaw xs (by rw[q1,q2]) q3
 refine Calls.mono (hvc W (fun b=>b<W.heap.size) args (fun b h=>h) (by simpa using q1.symm) fun i x hx=> ?_) fun e W' he=> ?_
 ·have hi:i<args.toList.length:=by rw[←q1];exact(List.getElem?_eq_some_iff.1 hx).1
  have:args.getD i undef=args.toList[i]:=by
   have hi2:i<args.size:=by simpa using hi
   simp[Array.getD_eq_getD_getElem?,hi2]
  rw[this]
  exact q4 i x _ hx (List.getElem?_eq_getElem hi)
 ·obtain⟨v,rfl,hbel,hrd⟩:=he
  cases hrd
  refine⟨_,rfl,ds,[],p,[],p,[],hW',?_,?_,?_,hbel.frame _,fun h=>by cases h⟩
  ·rw[hfn H _ (by rw[List.append_nil];exact q5),hres]
   exact trodAll_mk1 (shut_bool hb true)
  ·rw[hfn H _ (by rw[List.append_nil];exact q5),List.append_nil]
   exact args_stay hl hbel hA (fun t ht=>by simpa using List.all_eq_true.1 hread t ht) hlt
  ·rw[hvars,hfn H _ (by rw[List.append_nil];exact q5)]
   rfl
theorem list_of{α:Type}{enc:α→V}{Q:α→Prop}: ∀ {l:List V},(∀y∈l,∃a,y=enc a∧Q a)→ ∃l':List α,l=l'.map enc∧ ∀a∈l',Q a
 | [],_=>⟨[],rfl,by simp⟩
 |y::l,h=>by
  obtain⟨a,rfl,ha⟩:=h y (by simp)
  obtain⟨l',rfl,hl⟩:=list_of (l:=l) fun z hz=>h z (List.mem_cons_of_mem _ hz)
  exact⟨a::l',rfl,fun b hb=>by
   rcases List.mem_cons.1 hb with rfl|hb
   ·exact ha
   ·exact hl b hb⟩
theorem ty_int{P:Program}{n:Nat}{t:TypeId}{x:V}{k:IntKind}(ht:P.underlying t=some (.int k))(h:tyV P (n+1) t x): ∃m,x= .int k m∧k.min≤m∧m≤k.max:=by
 unfold tyV at h;rw[ht]at h
 obtain⟨m,rfl,hw⟩:=h
 simp only[Lit.wf,Bool.and_eq_true,decide_eq_true_eq]at hw
 exact⟨m,rfl,hw⟩
theorem ty_slice{P:Program}{n:Nat}{t e:TypeId}{x:V}{α:Type}{enc:α→V}{Q:α→Prop}(ht:P.underlying t=some (.slice e))(h:tyV P (n+1) t x)(hQ: ∀y,tyV P n e y→ ∃a,y=enc a∧Q a): ∃l:List α,x= .sl (l.map enc)∧l.length≤maxLen∧ ∀a∈l,Q a:=by
 unfold tyV at h;rw[ht]at h
 obtain⟨l,rfl,h1,h2⟩:=h
 obtain⟨l',rfl,h3⟩:=list_of fun y hy=>hQ y (h2 y hy)
 exact⟨l',rfl,by simpa using h1,h3⟩
theorem ty_struct{P:Program}{n:Nat}{t:TypeId}{x:V}{fs:Array Field}(ht:P.underlying t=some (.struct fs))(h:tyV P (n+1) t x): ∃ys,x= .agg (flat ys)∧ys.length=fs.toList.length∧ ∀(i:Nat) (f:Field) (y:V),fs.toList[i]? =some f→ys[i]? =some y→tyV P n f.type y:=by
 unfold tyV at h;rw[ht]at h;exact h
end Vm
end
section
namespace Vm
open Go
open Go.Proofs
def putsS(s:St):List (Nat×SV)→St
 | []=>s
 | (i,x)::l=>putsS (putS s i x) l
@[simp] theorem putsS_nil(s:St):putsS s []=s:=rfl
@[simp] theorem putsS_cons(s:St)(i:Nat)(x:SV)(l:List (Nat×SV)):putsS s ((i,x)::l)=putsS (putS s i x) l:=rfl
section
variable {P:Program} {K K':St→Prop}
theorem wpO_mono(hK: ∀s,K s→K' s){t:St}: ∀ {l:List (Nat×OV)} {u:St},wpO l t u K→wpO l t u K'
 | [],_,h=>hK _ h
 | (i,o)::l,u,h=>by
   simp only[wpO]at h⊢
   split
   ·rename_i x hx
    rw[hx]at h
    exact wpO_mono hK h
   ·rename_i hx
    rw[hx]at h
    exact h
theorem wpE_mono(hK: ∀s,K s→K' s): ∀ {l:List EF} {s:St},wpE P l s K→wpE P l s K'
 | [],_,h=>hK _ h
 | .lt i C e::l,s,h=>by
   simp only[wpE]at h⊢
   split
   ·rename_i hc
    rw[if_pos hc]at h
    split
    ·rename_i x hx
     rw[hx]at h
     exact wpE_mono hK h
    ·rename_i hx
     rw[hx]at h
     exact h
   ·rename_i hc
    rw[if_neg hc]at h
    exact wpE_mono hK h
 | .call i C f fr fl es::l,s,h=>by
   simp only[wpE]at h⊢
   split
   ·rename_i hc
    rw[if_pos hc]at h
    split
    ·rename_i x n hx hn
     rw[hx,hn]at h
     obtain⟨r,h1,h2,h3⟩:=h
     exact⟨r,h1,h2,wpE_mono hK h3⟩
    ·rename_i hne
     split at h
     ·rename_i x n hx hn
      exact(hne x n hx hn).elim
     ·exact h
   ·rename_i hc
    rw[if_neg hc]at h
    exact wpE_mono hK h
 | .callm i C f ks es::l,s,h=>by
   simp only[wpE]at h⊢
   split
   ·rename_i hc
    rw[if_pos hc]at h
    split
    ·rename_i x n hx hn
     rw[hx,hn]at h
     obtain⟨r,h1,h3⟩:=h
     exact⟨r,h1,wpE_mono hK h3⟩
    ·rename_i hx
     split at h
     ·rename_i x n h1 h2
      exact(hx x n h1 h2).elim
     ·exact h
   ·rename_i hc
    rw[if_neg hc]at h
    split at h
    ·exact wpE_mono hK h
    ·exact wpE_mono hK h
    ·exact h.elim
theorem wpS_mono: ∀ {a:Stm} {s:St} {N N' R R':St→Prop} {X X':Nat→St→Prop},wpS P a s N X R→(∀s,N s→N' s)→(∀i s,X i s→X' i s)→(∀s,R s→R' s)→wpS P a s N' X' R'
 | .reg r,s,_,_,_,_,_,_,h,hN,_,_=>wpE_mono (fun t ht=>⟨ht.1,wpO_mono hN ht.2⟩) h
 | .skip,s,_,_,_,_,_,_,h,hN,_,_=>hN _ h
 | .seq a b,s,_,_,_,_,_,_,h,hN,hX,hR=>wpS_mono (a:=a) (s:=s) h (fun t ht=>wpS_mono (a:=b) (s:=t) ht hN hX hR) hX hR
 | .cond c a b,s,_,_,_,_,_,_,h,hN,hX,hR=>by
   simp only[wpS]at h⊢
   split
   ·rename_i hc
    rw[hc]at h
    exact wpS_mono h hN hX hR
   ·rename_i hc
    rw[hc]at h
    exact wpS_mono h hN hX hR
   ·rename_i h1 h2
    split at h
    ·rename_i hc;exact(h1 hc).elim
    ·rename_i hc;exact(h2 hc).elim
    ·exact h
 | .block id a,s,_,_,_,_,_,_,h,hN,hX,hR=>wpS_mono (a:=a) (s:=s) h hN (fun i t ht=>by
   split
   ·rename_i hi;rw[if_pos hi]at ht;exact hN _ ht
   ·rename_i hi;rw[if_neg hi]at ht;exact hX _ _ ht) hR
 | .loop keep a,s,_,_,_,_,_,_,h,hN,hX,hR=>by
   obtain⟨I,m,h1,h2⟩:=h
   exact⟨I,m,h1,fun t ht=>wpS_mono (a:=a) (s:=t) (h2 t ht) (fun _ h=>h) hX hR⟩
 | .exit id,s,_,_,_,_,_,_,h,_,hX,_=>hX _ _ h
 | .ret,s,_,_,_,_,_,_,h,_,_,hR=>hR _ h
end
theorem wpS_loopP{P:Program}{keep:List Nat}{a:Stm}{s:St}{N R:St→Prop}{X:Nat→St→Prop}{ι:Type}(L:ι→List (Nat×SV))(Inv:ι→Prop)(m:St→Nat)(p0:ι)
  (h0:onlyS keep s=putsS (onlyS keep s) (L p0)) (hI:Inv p0)
  (h1: ∀p,Inv p→wpS P a (putsS (onlyS keep s) (L p)) (fun s'=> ∃q,Inv q∧onlyS keep s'=putsS (onlyS keep s) (L q)∧m (putsS (onlyS keep s) (L q)) <m (putsS (onlyS keep s) (L p))) X R):
  wpS P (.loop keep a) s N X R:=by
 refine⟨fun t=> ∃p,Inv p∧t=putsS (onlyS keep s) (L p),m,⟨p0,hI,h0⟩,?_⟩
 rintro t ⟨p,hp,rfl⟩
 refine wpS_mono (h1 p hp) (fun s' hs=> ?_) (fun _ _ h=>h) (fun _ h=>h)
 obtain⟨q,hq,he,hm⟩:=hs
 rw[he]
 exact⟨⟨q,hq,rfl⟩,hm⟩
def cnt(c:Nat)(n:Nat)(t:St):Nat:=match get t c with| .v (.int _ k)=>n-k.toNat|_=>0
theorem wpS_for{P:Program}{keep:List Nat}{a:Stm}{s:St}{N R:St→Prop}{X:Nat→St→Prop}(c n:Nat)(L:Nat→List (Nat×SV))(Inv:Nat→Prop)
  (h0:onlyS keep s=putsS (onlyS keep s) (L 0)) (hc: ∀i,get (putsS (onlyS keep s) (L i)) c= .v (vi i)) (hI:Inv 0)
  (h1: ∀i,i≤n→Inv i→wpS P a (putsS (onlyS keep s) (L i)) (fun s'=>i<n∧Inv (i+1)∧onlyS keep s'=putsS (onlyS keep s) (L (i+1))) X R):
  wpS P (.loop keep a) s N X R:=by
 refine wpS_loopP L (fun i=>i≤n∧Inv i) (cnt c n) 0 h0 ⟨by omega,hI⟩ ?_
 rintro i ⟨hi,hv⟩
 refine wpS_mono (h1 i hi hv) (fun s' hs=> ?_) (fun _ _ h=>h) (fun _ h=>h)
 obtain⟨h,hv',he⟩:=hs
 refine⟨i+1,⟨by omega,hv'⟩,he,?_⟩
 simp only[cnt,hc]
 simp
 omega
theorem wpS_for0{P:Program}{keep:List Nat}{a:Stm}{s:St}{N R:St→Prop}{X:Nat→St→Prop}(c n:Nat)(Inv:Nat→Prop)
  (h0:onlyS keep s=putS (onlyS keep s) c (.v (vi 0))) (hc: ∀x,get (putS (onlyS keep s) c x) c=x) (hI:Inv 0)
  (h1: ∀i,i≤n→Inv i→wpS P a (putS (onlyS keep s) c (.v (vi i))) (fun s'=>i<n∧Inv (i+1)∧onlyS keep s'=putS (onlyS keep s) c (.v (vi (i+1)))) X R):
  wpS P (.loop keep a) s N X R:=
 wpS_for c n (fun i=> [(c,.v (vi i))]) Inv h0 (fun i=>hc _) hI h1
end Vm
end
section
namespace Vm
open Go
open Go.Proofs
set_option maxRecDepth 100000
def p40:Fn:=⟨4,[0,2,3,9],
(.seq
(.reg ⟨[],[],[(1,.v (.c (.int .u64 (0)))),(2,.v (.c (.int .i64 (0))))]⟩)
(.seq
(.seq
(.reg ⟨[.lt 4 [] (.bin .lss (.s 0) (.c (.int .u64 (1))))],[([(4,false)],(.bin .gtr (.s 0) (.c (.int .u64 (9223372036854775807)))))],[(3,.v (.ite (.s 4) (.c (.bool true)) (.bin .gtr (.s 0) (.c (.int .u64 (9223372036854775807))))))]⟩)
(.cond (.s 3)
 (.seq
 (.reg ⟨[],[],[(1,.v (.c (.int .u64 (0)))),(2,.v (.c (.int .i64 (1))))]⟩)
 .ret)
 .skip))
(.seq
(.reg ⟨[],[],[(1,.v (.bin .add (.bin .mul (.c (.int .u64 (2))) (.s 0)) (.c (.int .u64 (1))))),(2,.v (.c (.int .i64 (0))))]⟩)
.ret))),
[(1,.v),(2,.v)]⟩
theorem c40:compFn Try.prog fresh sig [.fz] [] Try.f40=some p40:=by kernel_rfl
def p57:Fn:=⟨5,[0,2,3,5,12],
(.seq
(.reg ⟨[],[],[(1,.v (.c (.int .u64 (0)))),(2,.v (.c (.int .i64 (0))))]⟩)
(.seq
(.seq
(.reg ⟨[],[],[(3,.v (.bin .eql (.s 0) (.c (.int .u64 (0)))))]⟩)
(.cond (.s 3)
 (.seq
 (.reg ⟨[],[],[(1,.v (.c (.int .u64 (0)))),(2,.v (.c (.int .i64 (6))))]⟩)
 .ret)
 .skip))
(.seq
(.seq
(.reg ⟨[.lt 5 [] (.bin .eql (.bin .rem (.s 0) (.c (.int .u64 (2)))) (.c (.int .u64 (0))))],[([(5,false)],(.bin .eql (.s 0) (.c (.int .u64 (1)))))],[(4,.v (.ite (.s 5) (.c (.bool true)) (.bin .eql (.s 0) (.c (.int .u64 (1))))))]⟩)
(.cond (.s 4)
 (.seq
 (.reg ⟨[],[],[(1,.v (.c (.int .u64 (0)))),(2,.v (.c (.int .i64 (3))))]⟩)
 .ret)
 .skip))
(.seq
(.reg ⟨[],[],[(1,.v (.bin .quo (.s 0) (.c (.int .u64 (2))))),(2,.v (.c (.int .i64 (0))))]⟩)
.ret)))),
[(1,.v),(2,.v)]⟩
theorem c57:compFn Try.prog fresh sig [.fz] [] Try.f57=some p57:=by kernel_rfl
def p60:Fn:=⟨5,[0,2,3,4,20],
(.seq
(.reg ⟨[],[],[(1,.m [(.c (.int .i64 (0))),(.c (.int .i64 (0)))]),(2,.v (.c (.int .i64 (0))))]⟩)
(.seq
(.reg ⟨[],[],[(3,.m [(.fld (.ag [(.conv .i64 (.bin .rem (.bin .shr (.s 0) (.c (.int .u64 (1)))) (.c (.int .u64 (65536))))),(.conv .i64 (.bin .shr (.s 0) (.c (.int .u64 (17)))))]) 0),(.fld (.ag [(.conv .i64 (.bin .rem (.bin .shr (.s 0) (.c (.int .u64 (1)))) (.c (.int .u64 (65536))))),(.conv .i64 (.bin .shr (.s 0) (.c (.int .u64 (17)))))]) 1)])]⟩)
(.seq
(.seq
(.reg ⟨[.lt 5 [] (.bin .neq (.bin .rem (.s 0) (.c (.int .u64 (2)))) (.c (.int .u64 (0)))),.call 6 [(5,false)] (.id 91) false false [(.mm 3 0 2)]],[([(5,false)],(.un .not (.s 6)))],[(4,.v (.ite (.s 5) (.c (.bool true)) (.un .not (.s 6))))]⟩)
(.cond (.s 4)
 (.seq
 (.reg ⟨[],[],[(1,.m [(.fld (.ag [(.c (.int .i64 (0))),(.c (.int .i64 (0)))]) 0),(.fld (.ag [(.c (.int .i64 (0))),(.c (.int .i64 (0)))]) 1)]),(2,.v (.c (.int .i64 (3))))]⟩)
 .ret)
 .skip))
(.seq
(.reg ⟨[],[],[(1,.m [(.fld (.mm 3 0 2) 0),(.fld (.mm 3 0 2) 1)]),(2,.v (.c (.int .i64 (0))))]⟩)
.ret)))),
[(1,(.ag 2)),(2,.v)]⟩
theorem c60:compFn Try.prog fresh sig [.fz] [] Try.f60=some p60:=by kernel_rfl
def p83:Fn:=⟨4,[0,2,3,9],
(.seq
(.reg ⟨[],[],[(1,.v (.c (.int .u64 (0)))),(2,.v (.c (.int .i64 (0))))]⟩)
(.seq
(.seq
(.reg ⟨[.lt 4 [] (.bin .lss (.s 0) (.c (.int .u64 (1))))],[([(4,false)],(.bin .gtr (.s 0) (.c (.int .u64 (9223372036854775807)))))],[(3,.v (.ite (.s 4) (.c (.bool true)) (.bin .gtr (.s 0) (.c (.int .u64 (9223372036854775807))))))]⟩)
(.cond (.s 3)
 (.seq
 (.reg ⟨[],[],[(1,.v (.c (.int .u64 (0)))),(2,.v (.c (.int .i64 (1))))]⟩)
 .ret)
 .skip))
(.seq
(.reg ⟨[],[],[(1,.v (.bin .add (.bin .mul (.c (.int .u64 (2))) (.s 0)) (.c (.int .u64 (1))))),(2,.v (.c (.int .i64 (0))))]⟩)
.ret))),
[(1,.v),(2,.v)]⟩
theorem c83:compFn Try.prog fresh sig [.fz] [] Try.f83=some p83:=by kernel_rfl
def p91:Fn:=⟨3,[0,1,2],
(.seq
(.reg ⟨[],[],[(1,.m [(.fld (.sz (.s 0) 2) 0),(.fld (.sz (.s 0) 2) 1)]),(2,.v (.c (.bool false)))]⟩)
(.seq
(.reg ⟨[.lt 3 [] (.bin .geq (.m 1 0) (.c (.int .i64 (0)))),.lt 4 [] (.ite (.s 3) (.bin .leq (.m 1 0) (.c (.int .i64 (255)))) (.c (.bool false))),.lt 5 [] (.ite (.s 4) (.bin .geq (.m 1 1) (.c (.int .i64 (0)))) (.c (.bool false)))],[([(3,true)],(.bin .leq (.m 1 0) (.c (.int .i64 (255))))),([(4,true)],(.bin .geq (.m 1 1) (.c (.int .i64 (0))))),([(5,true)],(.bin .leq (.m 1 1) (.m 1 0)))],[(2,.v (.ite (.s 5) (.bin .leq (.m 1 1) (.m 1 0)) (.c (.bool false))))]⟩)
.ret)),
[(2,.v)]⟩
theorem c91:compFn Try.prog fresh sig [.fz] [] Try.f91=some p91:=by kernel_rfl
def p92:Fn:=⟨6,[0,1,2,3,4,8],
(.seq
(.reg ⟨[],[],[(1,.m [(.fld (.sz (.s 0) 2) 0),(.fld (.sz (.s 0) 2) 1)]),(2,.v (.c (.int .u64 (0)))),(3,.v (.c (.int .i64 (0))))]⟩)
(.seq
(.reg ⟨[.call 6 [] (.id 102) false false [(.mm 1 0 2)]],[],[(4,.v (.s 6))]⟩)
(.seq
(.seq
(.reg ⟨[],[],[(5,.v (.un .not (.s 4)))]⟩)
(.cond (.s 5)
 (.seq
 (.reg ⟨[],[],[(2,.v (.c (.int .u64 (0)))),(3,.v (.c (.int .i64 (1))))]⟩)
 .ret)
 .skip))
(.seq
(.reg ⟨[],[],[(2,.v (.bin .mul (.c (.int .u64 (2))) (.bin .add (.conv .u64 (.m 1 0)) (.bin .mul (.c (.int .u64 (65536))) (.conv .u64 (.m 1 1)))))),(3,.v (.c (.int .i64 (0))))]⟩)
.ret)))),
[(2,.v),(3,.v)]⟩
theorem c92:compFn Try.prog fresh sig [.fz] [] Try.f92=some p92:=by kernel_rfl
def p102:Fn:=⟨3,[0,1,2],
(.seq
(.reg ⟨[],[],[(1,.m [(.fld (.sz (.s 0) 2) 0),(.fld (.sz (.s 0) 2) 1)]),(2,.v (.c (.bool false)))]⟩)
(.seq
(.reg ⟨[.lt 3 [] (.bin .geq (.m 1 0) (.c (.int .i64 (0)))),.lt 4 [] (.ite (.s 3) (.bin .leq (.m 1 0) (.c (.int .i64 (255)))) (.c (.bool false))),.lt 5 [] (.ite (.s 4) (.bin .geq (.m 1 1) (.c (.int .i64 (0)))) (.c (.bool false)))],[([(3,true)],(.bin .leq (.m 1 0) (.c (.int .i64 (255))))),([(4,true)],(.bin .geq (.m 1 1) (.c (.int .i64 (0))))),([(5,true)],(.bin .leq (.m 1 1) (.m 1 0)))],[(2,.v (.ite (.s 5) (.bin .leq (.m 1 1) (.m 1 0)) (.c (.bool false))))]⟩)
.ret)),
[(2,.v)]⟩
theorem c102:compFn Try.prog fresh sig [.fz] [] Try.f102=some p102:=by kernel_rfl
end Vm
end
section
namespace Vm
open Go Go.Proofs
set_option maxRecDepth 100000
def Fit(n:Int):Prop:= -9223372036854775808≤n∧n≤9223372036854775807
def U64(n:Int):Prop:=0≤n∧n<18446744073709551616
theorem wrap_u(n:Int)(h1:0≤n)(h2:n≤18446744073709551615):IntKind.u64.wrap n=n:=by
 rw[IntKind.wrap_u64];omega
theorem at_of{α:Type}{l:List α}{i:Nat}{x:α}(h:l[i]? =some x): ∀hl:i<l.length,l[i]'hl=x:=fun hl=>by
 rw[List.getElem?_eq_getElem hl]at h
 exact Option.some.inj h
def shapeOk(size ptrs:Int):Bool:=decide (0≤size)&&decide (size≤255)&&decide (0≤ptrs)&&decide (ptrs≤size)
theorem shapeOk_iff{s p:Int}:shapeOk s p=true↔0≤s∧s≤255∧0≤p∧p≤s:=by simp[shapeOk,and_assoc]
abbrev shV(s p:Int):V:= .agg [vi s,vi p]
theorem right5_vc{s p:Int}:VC Try.prog 91 false [shV s p] (.bool (shapeOk s p)):=by
 refine vc_of_wp Try.func91 follows (by kernel_rfl) c91 rfl ?_
 by_cases h1:0≤s<;>by_cases h2:s≤255<;>by_cases h3:0≤p<;>by_cases h4:p≤s<;>simp[p91,shapeOk,h1,h2,h3,h4]
theorem refRight5_vc{s p:Int}:VC Try.prog 102 false [shV s p] (.bool (shapeOk s p)):=by
 refine vc_of_wp Try.func102 follows (by kernel_rfl) c102 rfl ?_
 by_cases h1:0≤s<;>by_cases h2:s≤255<;>by_cases h3:0≤p<;>by_cases h4:p≤s<;>simp[p102,shapeOk,h1,h2,h3,h4]
def adr(w:Int):Int×Int:=if w=0 then(0,6)else if w%2=0∨w=1 then(0,3)else(w / 2,0)
theorem adr_vc{w:Int}(hw:U64 w):VC Try.prog 57 false [vu w] (.tup [vu (adr w).1,vi (adr w).2]):=by
 refine vc_of_wp Try.func57 follows (by kernel_rfl) c57 rfl ?_
 obtain⟨h1,h2⟩:=hw
 have e1:w.tmod 2=w%2:=Int.tmod_eq_emod_of_nonneg h1
 have e2:w.tdiv 2=w / 2:=Int.tdiv_eq_ediv_of_nonneg h1
 have e3:=wrap_u (w / 2) (by omega) (by omega)
 by_cases h0:w=0
 ·simp[p57,adr,h0]
 ·by_cases h3:w%2=0
  ·simp[p57,adr,h0,e1,h3]
  ·by_cases h4:w=1
   ·subst h4
    simp[p57,adr]
   ·simp[p57,adr,h0,e1,e2,h3,h4,e3]
def ptrTo(a:Int):Int×Int:=if a<1∨9223372036854775807<a then(0,1)else(2*a+1,0)
theorem ptrTo_vc{a:Int}(hw:U64 a):VC Try.prog 40 false [vu a] (.tup [vu (ptrTo a).1,vi (ptrTo a).2]):=by
 refine vc_of_wp Try.func40 follows (by kernel_rfl) c40 rfl ?_
 obtain⟨h1,h2⟩:=hw
 by_cases h3:a<1
 ·simp[p40,ptrTo,h3]
 ·by_cases h4:9223372036854775807<a
  ·simp[p40,ptrTo,h3,h4]
  ·have e1:=wrap_u (2*a) (by omega) (by omega)
   have e2:=wrap_u (2*a+1) (by omega) (by omega)
   simp[p40,ptrTo,h3,h4,e1,e2]
theorem refPtrTo_vc{a:Int}(hw:U64 a):VC Try.prog 83 false [vu a] (.tup [vu (ptrTo a).1,vi (ptrTo a).2]):=by
 refine vc_of_wp Try.func83 follows (by kernel_rfl) c83 rfl ?_
 obtain⟨h1,h2⟩:=hw
 by_cases h3:a<1
 ·simp[p83,ptrTo,h3]
 ·by_cases h4:9223372036854775807<a
  ·simp[p83,ptrTo,h3,h4]
  ·have e1:=wrap_u (2*a) (by omega) (by omega)
   have e2:=wrap_u (2*a+1) (by omega) (by omega)
   simp[p83,ptrTo,h3,h4,e1,e2]
def packW(s p:Int):Int×Int:=if shapeOk s p then(2*(s+65536*p),0)else(0,1)
theorem refPack_vc{s p:Int}:VC Try.prog 92 false [shV s p] (.tup [vu (packW s p).1,vi (packW s p).2]):=by
 refine vc_of_wp Try.func92 follows (by kernel_rfl) c92 rfl ?_
 simp[p92]
 refine callW_of refRight5_vc (by simp) ?_
 cases h:shapeOk s p
 ·simp[packW,h]
 ·obtain⟨h1,h2,h3,h4⟩:=shapeOk_iff.1 h
  have e1:=wrap_u s (by omega) (by omega)
  have e2:=wrap_u p (by omega) (by omega)
  have e3:=wrap_u (65536*p) (by omega) (by omega)
  have e4:=wrap_u (s+65536*p) (by omega) (by omega)
  have e5:=wrap_u (2*(s+65536*p)) (by omega) (by omega)
  simp[packW,h,e1,e2,e3,e4,e5]
def unpk(w:Int):Int×Int×Int:=if w%2=0∧shapeOk (w / 2%65536) (w / 131072)=true then(w / 2%65536,w / 131072,0)else(0,0,3)
theorem unpk_vc{w:Int}(hw:U64 w):VC Try.prog 60 false [vu w] (.tup [shV (unpk w).1 (unpk w).2.1,vi (unpk w).2.2]):=by
 refine vc_of_wp Try.func60 follows (by kernel_rfl) c60 rfl ?_
 obtain⟨h1,h2⟩:=hw
 have s1:w.fdiv (2 ^ min 1 IntKind.u64.bits)=w / 2:=by
  rw[show(2:Int) ^ min 1 IntKind.u64.bits=2 by decide]
  exact Int.fdiv_eq_ediv_of_nonneg _ (by omega)
 have s2:w.fdiv (2 ^ min 17 IntKind.u64.bits)=w / 131072:=by
  rw[show(2:Int) ^ min 17 IntKind.u64.bits=131072 by decide]
  exact Int.fdiv_eq_ediv_of_nonneg _ (by omega)
 have m1:=wrap_u (w / 2) (by omega) (by omega)
 have m2:=wrap_u (w / 131072) (by omega) (by omega)
 have e1:w.tmod 2=w%2:=Int.tmod_eq_emod_of_nonneg h1
 have e2:(w / 2).tmod 65536=w / 2%65536:=Int.tmod_eq_emod_of_nonneg (by omega)
 have e3:=wrap_i (w / 2%65536) (by omega) (by omega)
 have e4:=wrap_i (w / 131072) (by omega) (by omega)
 simp[p60,binV,s1,s2,e1,e2,e3,e4,m1,m2]
 by_cases h3:w%2=0
 ·simp[h3]
  refine callW_of right5_vc (by simp) ?_
  cases h4:shapeOk (w / 2%65536) (w / 131072)
  ·simp[unpk,h3,h4]
  ·simp[unpk,h3,h4]
 ·simp[h3,unpk]
end Vm
end
section
namespace Vm
open Go
open Go.Proofs
set_option maxRecDepth 100000
def p37:Fn:=⟨11,[0,1,2,3,4,5,6,12,7,8,28],
(.seq
(.reg ⟨[],[],[(2,.m [(.fld (.sz (.s 0) 7) 0),(.fld (.sz (.s 0) 7) 1),(.fld (.sz (.s 0) 7) 2),(.fld (.sz (.s 0) 7) 3),(.fld (.sz (.s 0) 7) 4),(.fld (.sz (.s 0) 7) 5),(.fld (.sz (.s 0) 7) 6)]),(3,.m [(.fld (.sz (.s 1) 2) 0),(.fld (.sz (.s 1) 2) 1)]),(4,.v (.c (.int .u64 (0)))),(5,.v (.c (.int .i64 (0))))]⟩)
(.seq
(.reg ⟨[.call 11 [] (.id 63) false false [(.mm 2 0 7)]],[],[(6,.v (.s 11))]⟩)
(.seq
(.seq
(.reg ⟨[],[],[(7,.v (.un .not (.s 6)))]⟩)
(.cond (.s 7)
 (.seq
 (.reg ⟨[],[],[(4,.v (.c (.int .u64 (0)))),(5,.v (.c (.int .i64 (1))))]⟩)
 .ret)
 .skip))
(.seq
(.reg ⟨[.call 12 [] (.id 77) false false [(.mm 2 0 7),(.m 3 0)]],[],[(8,.v (.ext (.s 12) 0)),(9,.v (.ext (.s 12) 1))]⟩)
(.seq
(.seq
(.reg ⟨[.lt 13 [] (.bin .lss (.m 3 1) (.c (.int .i64 (0))))],[([(13,false)],(.bin .geq (.m 3 1) (.s 9)))],[(10,.v (.ite (.s 13) (.c (.bool true)) (.bin .geq (.m 3 1) (.s 9))))]⟩)
(.cond (.s 10)
 (.seq
 (.reg ⟨[],[],[(4,.v (.c (.int .u64 (0)))),(5,.v (.c (.int .i64 (6))))]⟩)
 .ret)
 .skip))
(.seq
(.reg ⟨[],[],[(4,.v (.bin .add (.s 8) (.conv .u64 (.m 3 1)))),(5,.v (.c (.int .i64 (0))))]⟩)
.ret)))))),
[(4,.v),(5,.v)]⟩
theorem c37:compFn Try.prog fresh sig [.fz,.fz] [] Try.f37=some p37:=by kernel_rfl
def p39:Fn:=⟨10,[0,1,2,3,4,5,9,17,6,33],
(.seq
(.reg ⟨[],[],[(2,.m [(.fld (.sz (.s 0) 7) 0),(.fld (.sz (.s 0) 7) 1),(.fld (.sz (.s 0) 7) 2),(.fld (.sz (.s 0) 7) 3),(.fld (.sz (.s 0) 7) 4),(.fld (.sz (.s 0) 7) 5),(.fld (.sz (.s 0) 7) 6)]),(3,.m [(.fld (.sz (.s 1) 2) 0),(.fld (.sz (.s 1) 2) 1)]),(4,.v (.c (.int .u64 (0)))),(5,.v (.c (.int .i64 (0))))]⟩)
(.seq
(.seq
(.reg ⟨[.call 10 [] (.id 55) false false [(.mm 2 0 7)]],[],[(6,.v (.un .not (.s 10)))]⟩)
(.cond (.s 6)
 (.seq
 (.reg ⟨[],[],[(4,.v (.c (.int .u64 (0)))),(5,.v (.c (.int .i64 (1))))]⟩)
 .ret)
 .skip))
(.seq
(.seq
(.reg ⟨[.lt 11 [] (.bin .lss (.m 3 0) (.c (.int .i64 (1))))],[([(11,false)],(.bin .gtr (.m 3 0) (.c (.int .i64 (4)))))],[(7,.v (.ite (.s 11) (.c (.bool true)) (.bin .gtr (.m 3 0) (.c (.int .i64 (4))))))]⟩)
(.cond (.s 7)
 (.seq
 (.reg ⟨[],[],[(4,.v (.c (.int .u64 (0)))),(5,.v (.c (.int .i64 (6))))]⟩)
 .ret)
 .skip))
(.seq
(.reg ⟨[.call 12 [] (.id 78) false false [(.mm 2 0 7)]],[],[(8,.m [(.fld (.sz (.ai (.s 12) (.bin .sub (.m 3 0) (.c (.int .i64 (1)))) 4 2 true) 2) 0),(.fld (.sz (.ai (.s 12) (.bin .sub (.m 3 0) (.c (.int .i64 (1)))) 4 2 true) 2) 1)])]⟩)
(.seq
(.seq
(.reg ⟨[.lt 13 [] (.bin .lss (.m 3 1) (.c (.int .i64 (0))))],[([(13,false)],(.bin .geq (.m 3 1) (.m 8 1)))],[(9,.v (.ite (.s 13) (.c (.bool true)) (.bin .geq (.m 3 1) (.m 8 1))))]⟩)
(.cond (.s 9)
 (.seq
 (.reg ⟨[],[],[(4,.v (.c (.int .u64 (0)))),(5,.v (.c (.int .i64 (6))))]⟩)
 .ret)
 .skip))
(.seq
(.reg ⟨[],[],[(4,.v (.bin .add (.m 8 0) (.conv .u64 (.m 3 1)))),(5,.v (.c (.int .i64 (0))))]⟩)
.ret)))))),
[(4,.v),(5,.v)]⟩
theorem c39:compFn Try.prog fresh sig [.fz,.fz] [] Try.f39=some p39:=by kernel_rfl
def p55:Fn:=⟨4,[0,1,2,25],
(.seq
(.reg ⟨[],[],[(1,.m [(.fld (.sz (.s 0) 7) 0),(.fld (.sz (.s 0) 7) 1),(.fld (.sz (.s 0) 7) 2),(.fld (.sz (.s 0) 7) 3),(.fld (.sz (.s 0) 7) 4),(.fld (.sz (.s 0) 7) 5),(.fld (.sz (.s 0) 7) 6)]),(2,.v (.c (.bool false)))]⟩)
(.seq
(.seq
(.reg ⟨[.lt 4 [] (.bin .lss (.m 1 1) (.c (.int .i64 (0)))),.lt 5 [] (.ite (.s 4) (.c (.bool true)) (.bin .gtr (.m 1 1) (.c (.int .i64 (4096))))),.lt 6 [] (.ite (.s 5) (.c (.bool true)) (.bin .lss (.m 1 0) (.c (.int .u64 (1)))))],[([(4,false)],(.bin .gtr (.m 1 1) (.c (.int .i64 (4096))))),([(5,false)],(.bin .lss (.m 1 0) (.c (.int .u64 (1))))),([(6,false)],(.bin .gtr (.m 1 0) (.bin .sub (.c (.int .u64 (9223372036854775808))) (.bin .mul (.c (.int .u64 (2))) (.conv .u64 (.m 1 1))))))],[(3,.v (.ite (.s 6) (.c (.bool true)) (.bin .gtr (.m 1 0) (.bin .sub (.c (.int .u64 (9223372036854775808))) (.bin .mul (.c (.int .u64 (2))) (.conv .u64 (.m 1 1)))))))]⟩)
(.cond (.s 3)
 (.seq
 (.reg ⟨[],[],[(2,.v (.c (.bool false)))]⟩)
 .ret)
 .skip))
(.seq
(.reg ⟨[.lt 7 [] (.bin .eql (.m 1 2) (.c (.int .i64 (0)))),.lt 8 [] (.ite (.s 7) (.c (.bool true)) (.bin .eql (.m 1 2) (.c (.int .i64 (1))))),.call 9 [(8,true)] (.id 89) false false [(.m 1 3),(.m 1 4),(.m 1 1)],.lt 10 [] (.ite (.s 8) (.s 9) (.c (.bool false))),.call 11 [(10,true)] (.id 89) false false [(.m 1 5),(.m 1 6),(.m 1 1)]],[([(7,false)],(.bin .eql (.m 1 2) (.c (.int .i64 (1)))))],[(2,.v (.ite (.s 10) (.s 11) (.c (.bool false))))]⟩)
.ret))),
[(2,.v)]⟩
theorem c55:compFn Try.prog fresh sig [.fz] [] Try.f55=some p55:=by kernel_rfl
def p58:Fn:=⟨12,[0,1,2,4,5,10,14,15,7,6,13,31],
(.seq
(.reg ⟨[],[],[(2,.m [(.fld (.sz (.s 0) 7) 0),(.fld (.sz (.s 0) 7) 1),(.fld (.sz (.s 0) 7) 2),(.fld (.sz (.s 0) 7) 3),(.fld (.sz (.s 0) 7) 4),(.fld (.sz (.s 0) 7) 5),(.fld (.sz (.s 0) 7) 6)]),(3,.m [(.c (.int .i64 (0))),(.c (.int .i64 (0)))]),(4,.v (.c (.int .i64 (0))))]⟩)
(.seq
(.seq
(.reg ⟨[.call 12 [] (.id 55) false false [(.mm 2 0 7)]],[],[(5,.v (.un .not (.s 12)))]⟩)
(.cond (.s 5)
 (.seq
 (.reg ⟨[],[],[(3,.m [(.fld (.ag [(.c (.int .i64 (0))),(.c (.int .i64 (0)))]) 0),(.fld (.ag [(.c (.int .i64 (0))),(.c (.int .i64 (0)))]) 1)]),(4,.v (.c (.int .i64 (1))))]⟩)
 .ret)
 .skip))
(.seq
(.seq
(.reg ⟨[.call 10 [] (.id 78) false false [(.mm 2 0 7)]],[],[(6,.v (.c (.int .i64 (0))))]⟩)
(.block 0
 (.loop [0,1,2,3,4,5,6,10]
  (.seq
  (.reg ⟨[],[],[(7,.v (.bin .lss (.s 6) (.c (.int .i64 (4)))))]⟩)
  (.seq
  (.cond (.s 7)
   .skip
   (.exit 0))
  (.seq
  (.block 1
   (.seq
   (.reg ⟨[],[],[(8,.m [(.fld (.sz (.ai (.s 10) (.s 6) 4 2 true) 2) 0),(.fld (.sz (.ai (.s 10) (.s 6) 4 2 true) 2) 1)]),(9,.v (.s 6))]⟩)
   (.seq
   (.reg ⟨[.lt 13 [] (.bin .geq (.s 1) (.m 8 0))],[([(13,true)],(.bin .lss (.bin .sub (.s 1) (.m 8 0)) (.conv .u64 (.m 8 1))))],[(11,.v (.ite (.s 13) (.bin .lss (.bin .sub (.s 1) (.m 8 0)) (.conv .u64 (.m 8 1))) (.c (.bool false))))]⟩)
   (.cond (.s 11)
    (.seq
    (.reg ⟨[],[],[(3,.m [(.fld (.ag [(.bin .add (.s 9) (.c (.int .i64 (1)))),(.conv .i64 (.bin .sub (.s 1) (.m 8 0)))]) 0),(.fld (.ag [(.bin .add (.s 9) (.c (.int .i64 (1)))),(.conv .i64 (.bin .sub (.s 1) (.m 8 0)))]) 1)]),(4,.v (.c (.int .i64 (0))))]⟩)
    .ret)
    .skip))))
  (.reg ⟨[],[],[(6,.v (.bin .add (.s 6) (.c (.int .i64 (1)))))]⟩)))))))
(.seq
(.reg ⟨[],[],[(3,.m [(.fld (.ag [(.c (.int .i64 (0))),(.c (.int .i64 (0)))]) 0),(.fld (.ag [(.c (.int .i64 (0))),(.c (.int .i64 (0)))]) 1)]),(4,.v (.c (.int .i64 (6))))]⟩)
.ret)))),
[(3,(.ag 2)),(4,.v)]⟩
theorem c58:compFn Try.prog fresh sig [.fz,.fz] [] Try.f58=some p58:=by kernel_rfl
def p63:Fn:=⟨5,[0,1,2,35,53],
(.seq
(.reg ⟨[],[],[(1,.m [(.fld (.sz (.s 0) 7) 0),(.fld (.sz (.s 0) 7) 1),(.fld (.sz (.s 0) 7) 2),(.fld (.sz (.s 0) 7) 3),(.fld (.sz (.s 0) 7) 4),(.fld (.sz (.s 0) 7) 5),(.fld (.sz (.s 0) 7) 6)]),(2,.v (.c (.bool false)))]⟩)
(.seq
(.seq
(.reg ⟨[.lt 5 [] (.bin .lss (.m 1 0) (.c (.int .u64 (1)))),.lt 6 [] (.ite (.s 5) (.c (.bool true)) (.bin .lss (.m 1 1) (.c (.int .i64 (0))))),.lt 7 [] (.ite (.s 6) (.c (.bool true)) (.bin .gtr (.m 1 1) (.c (.int .i64 (4096))))),.lt 8 [] (.ite (.s 7) (.c (.bool true)) (.bin .gtr (.m 1 0) (.bin .sub (.c (.int .u64 (9223372036854775808))) (.bin .mul (.c (.int .u64 (2))) (.conv .u64 (.m 1 1)))))),.lt 9 [] (.ite (.s 8) (.c (.bool true)) (.bin .lss (.m 1 2) (.c (.int .i64 (0)))))],[([(5,false)],(.bin .lss (.m 1 1) (.c (.int .i64 (0))))),([(6,false)],(.bin .gtr (.m 1 1) (.c (.int .i64 (4096))))),([(7,false)],(.bin .gtr (.m 1 0) (.bin .sub (.c (.int .u64 (9223372036854775808))) (.bin .mul (.c (.int .u64 (2))) (.conv .u64 (.m 1 1)))))),([(8,false)],(.bin .lss (.m 1 2) (.c (.int .i64 (0))))),([(9,false)],(.bin .gtr (.m 1 2) (.c (.int .i64 (1)))))],[(3,.v (.ite (.s 9) (.c (.bool true)) (.bin .gtr (.m 1 2) (.c (.int .i64 (1))))))]⟩)
(.cond (.s 3)
 (.seq
 (.reg ⟨[],[],[(2,.v (.c (.bool false)))]⟩)
 .ret)
 .skip))
(.seq
(.seq
(.reg ⟨[.lt 10 [] (.bin .lss (.m 1 3) (.c (.int .i64 (0)))),.lt 11 [] (.ite (.s 10) (.c (.bool true)) (.bin .lss (.m 1 4) (.c (.int .i64 (0))))),.lt 12 [] (.ite (.s 11) (.c (.bool true)) (.bin .lss (.m 1 5) (.c (.int .i64 (0)))))],[([(10,false)],(.bin .lss (.m 1 4) (.c (.int .i64 (0))))),([(11,false)],(.bin .lss (.m 1 5) (.c (.int .i64 (0))))),([(12,false)],(.bin .lss (.m 1 6) (.c (.int .i64 (0)))))],[(4,.v (.ite (.s 12) (.c (.bool true)) (.bin .lss (.m 1 6) (.c (.int .i64 (0))))))]⟩)
(.cond (.s 4)
 (.seq
 (.reg ⟨[],[],[(2,.v (.c (.bool false)))]⟩)
 .ret)
 .skip))
(.seq
(.reg ⟨[.lt 13 [] (.bin .leq (.m 1 3) (.m 1 1)),.lt 14 [] (.ite (.s 13) (.bin .leq (.m 1 4) (.bin .sub (.m 1 1) (.m 1 3))) (.c (.bool false))),.lt 15 [] (.ite (.s 14) (.bin .leq (.m 1 5) (.m 1 1)) (.c (.bool false)))],[([(13,true)],(.bin .leq (.m 1 4) (.bin .sub (.m 1 1) (.m 1 3)))),([(14,true)],(.bin .leq (.m 1 5) (.m 1 1))),([(15,true)],(.bin .leq (.m 1 6) (.bin .sub (.m 1 1) (.m 1 5))))],[(2,.v (.ite (.s 15) (.bin .leq (.m 1 6) (.bin .sub (.m 1 1) (.m 1 5))) (.c (.bool false))))]⟩)
.ret)))),
[(2,.v)]⟩
theorem c63:compFn Try.prog fresh sig [.fz] [] Try.f63=some p63:=by kernel_rfl
def p77:Fn:=⟨12,[0,1,2,4,5,6,7,28,27,33,45,50],
(.seq
(.reg ⟨[],[],[(2,.m [(.fld (.sz (.s 0) 7) 0),(.fld (.sz (.s 0) 7) 1),(.fld (.sz (.s 0) 7) 2),(.fld (.sz (.s 0) 7) 3),(.fld (.sz (.s 0) 7) 4),(.fld (.sz (.s 0) 7) 5),(.fld (.sz (.s 0) 7) 6)]),(3,.v (.c (.int .u64 (0)))),(4,.v (.c (.int .i64 (0))))]⟩)
(.seq
(.reg ⟨[],[],[(5,.v (.bin .add (.m 2 0) (.conv .u64 (.bin .mul (.m 2 2) (.m 2 1)))))]⟩)
(.seq
(.reg ⟨[],[],[(6,.v (.bin .add (.m 2 0) (.conv .u64 (.bin .mul (.bin .sub (.c (.int .i64 (1))) (.m 2 2)) (.m 2 1)))))]⟩)
(.seq
(.seq
(.reg ⟨[],[],[(8,.v (.s 1))]⟩)
(.block 0
 (.seq
 (.reg ⟨[],[],[(7,.v (.bin .eql (.s 8) (.c (.int .i64 (1)))))]⟩)
 (.cond (.s 7)
  (.seq
  (.reg ⟨[],[],[(3,.v (.s 5)),(4,.v (.m 2 3))]⟩)
  .ret)
  (.seq
  (.reg ⟨[],[],[(9,.v (.bin .eql (.s 8) (.c (.int .i64 (2)))))]⟩)
  (.cond (.s 9)
   (.seq
   (.reg ⟨[],[],[(3,.v (.bin .add (.s 5) (.conv .u64 (.bin .sub (.m 2 1) (.m 2 4))))),(4,.v (.m 2 4))]⟩)
   .ret)
   (.seq
   (.reg ⟨[],[],[(10,.v (.bin .eql (.s 8) (.c (.int .i64 (3)))))]⟩)
   (.cond (.s 10)
    (.seq
    (.reg ⟨[],[],[(3,.v (.s 6)),(4,.v (.m 2 5))]⟩)
    .ret)
    (.seq
    (.reg ⟨[],[],[(11,.v (.bin .eql (.s 8) (.c (.int .i64 (4)))))]⟩)
    (.cond (.s 11)
     (.seq
     (.reg ⟨[],[],[(3,.v (.bin .add (.s 6) (.conv .u64 (.bin .sub (.m 2 1) (.m 2 6))))),(4,.v (.m 2 6))]⟩)
     .ret)
     .skip))))))))))
(.seq
(.reg ⟨[],[],[(3,.v (.c (.int .u64 (0)))),(4,.v (.c (.int .i64 (0))))]⟩)
.ret))))),
[(3,.v),(4,.v)]⟩
theorem c77:compFn Try.prog fresh sig [.fz,.fz] [] Try.f77=some p77:=by kernel_rfl
def p78:Fn:=⟨3,[0,1,2],
(.seq
(.reg ⟨[],[],[(1,.m [(.fld (.sz (.s 0) 7) 0),(.fld (.sz (.s 0) 7) 1),(.fld (.sz (.s 0) 7) 2),(.fld (.sz (.s 0) 7) 3),(.fld (.sz (.s 0) 7) 4),(.fld (.sz (.s 0) 7) 5),(.fld (.sz (.s 0) 7) 6)]),(2,.m [(.c (.int .u64 (0))),(.c (.int .i64 (0))),(.c (.int .u64 (0))),(.c (.int .i64 (0))),(.c (.int .u64 (0))),(.c (.int .i64 (0))),(.c (.int .u64 (0))),(.c (.int .i64 (0)))])]⟩)
(.seq
(.reg ⟨[.call 3 [] (.id 99) false false [(.mm 1 0 7),(.c (.int .i64 (1)))],.call 4 [] (.id 99) false false [(.mm 1 0 7),(.c (.int .i64 (2)))],.call 5 [] (.id 99) false false [(.mm 1 0 7),(.c (.int .i64 (3)))],.call 6 [] (.id 99) false false [(.mm 1 0 7),(.c (.int .i64 (4)))]],[],[(2,.m [(.fld (.ag [(.fld (.ag [(.one (.s 3)),(.m 1 3)]) 0),(.fld (.ag [(.one (.s 3)),(.m 1 3)]) 1),(.fld (.ag [(.one (.s 4)),(.m 1 4)]) 0),(.fld (.ag [(.one (.s 4)),(.m 1 4)]) 1),(.fld (.ag [(.one (.s 5)),(.m 1 5)]) 0),(.fld (.ag [(.one (.s 5)),(.m 1 5)]) 1),(.fld (.ag [(.one (.s 6)),(.m 1 6)]) 0),(.fld (.ag [(.one (.s 6)),(.m 1 6)]) 1)]) 0),(.fld (.ag [(.fld (.ag [(.one (.s 3)),(.m 1 3)]) 0),(.fld (.ag [(.one (.s 3)),(.m 1 3)]) 1),(.fld (.ag [(.one (.s 4)),(.m 1 4)]) 0),(.fld (.ag [(.one (.s 4)),(.m 1 4)]) 1),(.fld (.ag [(.one (.s 5)),(.m 1 5)]) 0),(.fld (.ag [(.one (.s 5)),(.m 1 5)]) 1),(.fld (.ag [(.one (.s 6)),(.m 1 6)]) 0),(.fld (.ag [(.one (.s 6)),(.m 1 6)]) 1)]) 1),(.fld (.ag [(.fld (.ag [(.one (.s 3)),(.m 1 3)]) 0),(.fld (.ag [(.one (.s 3)),(.m 1 3)]) 1),(.fld (.ag [(.one (.s 4)),(.m 1 4)]) 0),(.fld (.ag [(.one (.s 4)),(.m 1 4)]) 1),(.fld (.ag [(.one (.s 5)),(.m 1 5)]) 0),(.fld (.ag [(.one (.s 5)),(.m 1 5)]) 1),(.fld (.ag [(.one (.s 6)),(.m 1 6)]) 0),(.fld (.ag [(.one (.s 6)),(.m 1 6)]) 1)]) 2),(.fld (.ag [(.fld (.ag [(.one (.s 3)),(.m 1 3)]) 0),(.fld (.ag [(.one (.s 3)),(.m 1 3)]) 1),(.fld (.ag [(.one (.s 4)),(.m 1 4)]) 0),(.fld (.ag [(.one (.s 4)),(.m 1 4)]) 1),(.fld (.ag [(.one (.s 5)),(.m 1 5)]) 0),(.fld (.ag [(.one (.s 5)),(.m 1 5)]) 1),(.fld (.ag [(.one (.s 6)),(.m 1 6)]) 0),(.fld (.ag [(.one (.s 6)),(.m 1 6)]) 1)]) 3),(.fld (.ag [(.fld (.ag [(.one (.s 3)),(.m 1 3)]) 0),(.fld (.ag [(.one (.s 3)),(.m 1 3)]) 1),(.fld (.ag [(.one (.s 4)),(.m 1 4)]) 0),(.fld (.ag [(.one (.s 4)),(.m 1 4)]) 1),(.fld (.ag [(.one (.s 5)),(.m 1 5)]) 0),(.fld (.ag [(.one (.s 5)),(.m 1 5)]) 1),(.fld (.ag [(.one (.s 6)),(.m 1 6)]) 0),(.fld (.ag [(.one (.s 6)),(.m 1 6)]) 1)]) 4),(.fld (.ag [(.fld (.ag [(.one (.s 3)),(.m 1 3)]) 0),(.fld (.ag [(.one (.s 3)),(.m 1 3)]) 1),(.fld (.ag [(.one (.s 4)),(.m 1 4)]) 0),(.fld (.ag [(.one (.s 4)),(.m 1 4)]) 1),(.fld (.ag [(.one (.s 5)),(.m 1 5)]) 0),(.fld (.ag [(.one (.s 5)),(.m 1 5)]) 1),(.fld (.ag [(.one (.s 6)),(.m 1 6)]) 0),(.fld (.ag [(.one (.s 6)),(.m 1 6)]) 1)]) 5),(.fld (.ag [(.fld (.ag [(.one (.s 3)),(.m 1 3)]) 0),(.fld (.ag [(.one (.s 3)),(.m 1 3)]) 1),(.fld (.ag [(.one (.s 4)),(.m 1 4)]) 0),(.fld (.ag [(.one (.s 4)),(.m 1 4)]) 1),(.fld (.ag [(.one (.s 5)),(.m 1 5)]) 0),(.fld (.ag [(.one (.s 5)),(.m 1 5)]) 1),(.fld (.ag [(.one (.s 6)),(.m 1 6)]) 0),(.fld (.ag [(.one (.s 6)),(.m 1 6)]) 1)]) 6),(.fld (.ag [(.fld (.ag [(.one (.s 3)),(.m 1 3)]) 0),(.fld (.ag [(.one (.s 3)),(.m 1 3)]) 1),(.fld (.ag [(.one (.s 4)),(.m 1 4)]) 0),(.fld (.ag [(.one (.s 4)),(.m 1 4)]) 1),(.fld (.ag [(.one (.s 5)),(.m 1 5)]) 0),(.fld (.ag [(.one (.s 5)),(.m 1 5)]) 1),(.fld (.ag [(.one (.s 6)),(.m 1 6)]) 0),(.fld (.ag [(.one (.s 6)),(.m 1 6)]) 1)]) 7)])]⟩)
.ret)),
[(2,(.ag 8))]⟩
theorem c78:compFn Try.prog fresh sig [.fz] [] Try.f78=some p78:=by kernel_rfl
def p89:Fn:=⟨4,[0,1,2,6],
(.seq
(.reg ⟨[],[],[(3,.v (.c (.bool false)))]⟩)
(.seq
(.reg ⟨[.lt 4 [] (.bin .geq (.s 0) (.c (.int .i64 (0)))),.lt 5 [] (.ite (.s 4) (.bin .geq (.s 1) (.c (.int .i64 (0)))) (.c (.bool false))),.lt 6 [] (.ite (.s 5) (.bin .leq (.s 0) (.s 2)) (.c (.bool false)))],[([(4,true)],(.bin .geq (.s 1) (.c (.int .i64 (0))))),([(5,true)],(.bin .leq (.s 0) (.s 2))),([(6,true)],(.bin .leq (.s 1) (.bin .sub (.s 2) (.s 0))))],[(3,.v (.ite (.s 6) (.bin .leq (.s 1) (.bin .sub (.s 2) (.s 0))) (.c (.bool false))))]⟩)
.ret)),
[(3,.v)]⟩
theorem c89:compFn Try.prog fresh sig [.fz,.fz,.fz] [] Try.f89=some p89:=by kernel_rfl
def p99:Fn:=⟨10,[0,1,2,4,5,9,8,11,13,15],
(.seq
(.reg ⟨[],[],[(2,.m [(.fld (.sz (.s 0) 7) 0),(.fld (.sz (.s 0) 7) 1),(.fld (.sz (.s 0) 7) 2),(.fld (.sz (.s 0) 7) 3),(.fld (.sz (.s 0) 7) 4),(.fld (.sz (.s 0) 7) 5),(.fld (.sz (.s 0) 7) 6)]),(3,.v (.c (.int .u64 (0))))]⟩)
(.seq
(.reg ⟨[],[],[(4,.v (.m 2 0))]⟩)
(.seq
(.seq
(.reg ⟨[],[],[(6,.v (.s 1))]⟩)
(.block 0
 (.seq
 (.block 4
  (.seq
  (.block 3
   (.seq
   (.block 2
    (.seq
    (.block 1
     (.seq
     (.seq
     (.seq
     (.reg ⟨[],[],[(5,.v (.bin .eql (.s 6) (.c (.int .i64 (2)))))]⟩)
     (.cond (.s 5)
      (.exit 1)
      .skip))
     (.seq
     (.seq
     (.reg ⟨[],[],[(7,.v (.bin .eql (.s 6) (.c (.int .i64 (1)))))]⟩)
     (.cond (.s 7)
      (.exit 2)
      .skip))
     (.seq
     (.seq
     (.reg ⟨[],[],[(8,.v (.bin .eql (.s 6) (.c (.int .i64 (4)))))]⟩)
     (.cond (.s 8)
      (.exit 3)
      .skip))
     (.seq
     (.reg ⟨[],[],[(9,.v (.bin .eql (.s 6) (.c (.int .i64 (3)))))]⟩)
     (.cond (.s 9)
      (.exit 4)
      .skip)))))
     (.exit 0)))
    (.reg ⟨[],[],[(4,.v (.bin .add (.s 4) (.conv .u64 (.bin .sub (.m 2 1) (.m 2 4)))))]⟩)))
   (.seq
   (.reg ⟨[],[],[(4,.v (.bin .add (.s 4) (.conv .u64 (.bin .mul (.m 2 2) (.m 2 1)))))]⟩)
   (.exit 0))))
  (.reg ⟨[],[],[(4,.v (.bin .add (.s 4) (.conv .u64 (.bin .sub (.m 2 1) (.m 2 6)))))]⟩)))
 (.seq
 (.reg ⟨[],[],[(4,.v (.bin .add (.s 4) (.conv .u64 (.bin .mul (.bin .sub (.c (.int .i64 (1))) (.m 2 2)) (.m 2 1)))))]⟩)
 (.exit 0)))))
(.seq
(.reg ⟨[],[],[(3,.v (.s 4))]⟩)
.ret)))),
[(3,.v)]⟩
theorem c99:compFn Try.prog fresh sig [.fz,.fz] [] Try.f99=some p99:=by kernel_rfl
end Vm
end
section
namespace Vm
open Go Go.Proofs
set_option maxRecDepth 100000
structure Ly where
 base:Int
 cap:Int
 to:Int
 low:Int
 high:Int
 old:Int
 far:Int
 deriving DecidableEq,Inhabited
def lyV(l:Ly):V:= .agg [vu l.base,vi l.cap,vi l.to,vi l.low,vi l.high,vi l.old,vi l.far]
@[simp] theorem szV_lyV(l:Ly):szV (lyV l) 7=some (lyV l):=rfl
@[simp] theorem lyV_cells(l:Ly):(lyV l).cells= [vu l.base,vi l.cap,vi l.to,vi l.low,vi l.high,vi l.old,vi l.far]:=rfl
@[simp] theorem fldV_lyV0(l:Ly):fldV (lyV l) 0=some (vu l.base):=rfl
@[simp] theorem fldV_lyV1(l:Ly):fldV (lyV l) 1=some (vi l.cap):=rfl
@[simp] theorem fldV_lyV2(l:Ly):fldV (lyV l) 2=some (vi l.to):=rfl
@[simp] theorem fldV_lyV3(l:Ly):fldV (lyV l) 3=some (vi l.low):=rfl
@[simp] theorem fldV_lyV4(l:Ly):fldV (lyV l) 4=some (vi l.high):=rfl
@[simp] theorem fldV_lyV5(l:Ly):fldV (lyV l) 5=some (vi l.old):=rfl
@[simp] theorem fldV_lyV6(l:Ly):fldV (lyV l) 6=some (vi l.far):=rfl
def Ly.fits(l:Ly):Prop:=U64 l.base∧Fit l.cap∧Fit l.to∧Fit l.low∧Fit l.high∧Fit l.old∧Fit l.far
def withinP(a b words:Int):Bool:=decide (0≤a)&&decide (0≤b)&&decide (a≤words)&&decide (b≤words-a)
def rightL(l:Ly):Bool:=decide (0≤l.cap)&&decide (l.cap≤4096)&&decide (1≤l.base)&&decide (l.base≤9223372036854775808-2*l.cap)&&(decide (l.to=0)||decide (l.to=1))&&withinP l.low l.high l.cap&&withinP l.old l.far l.cap
theorem rightL_iff{l:Ly}:rightL l=true↔0≤l.cap∧l.cap≤4096∧1≤l.base∧l.base≤9223372036854775808-2*l.cap∧(l.to=0∨l.to=1)∧(0≤l.low∧0≤l.high∧l.low≤l.cap∧l.high≤l.cap-l.low)∧(0≤l.old∧0≤l.far∧l.old≤l.cap∧l.far≤l.cap-l.old):=by
 simp[rightL,withinP,and_assoc]
theorem rightL_no{l:Ly}:rightL l=false↔ ¬(0≤l.cap∧l.cap≤4096∧1≤l.base∧l.base≤9223372036854775808-2*l.cap∧(l.to=0∨l.to=1)∧(0≤l.low∧0≤l.high∧l.low≤l.cap∧l.high≤l.cap-l.low)∧(0≤l.old∧0≤l.far∧l.old≤l.cap∧l.far≤l.cap-l.old)):=by
 rw[←rightL_iff];simp
theorem within_vc{a b w:Int}(ha:Fit a)(hb:Fit b)(hw:Fit w):VC Try.prog 89 false [vi a,vi b,vi w] (.bool (withinP a b w)):=by
 refine vc_of_wp Try.func89 follows (by kernel_rfl) c89 rfl ?_
 obtain⟨a1,a2⟩:=ha
 obtain⟨w1,w2⟩:=hw
 by_cases h1:0≤a
 ·by_cases h2:a≤w
  ·have e:=wrap_i (w-a) (by omega) (by omega)
   by_cases h3:0≤b<;>simp[p89,withinP,h1,h2,h3,e]
  ·by_cases h3:0≤b<;>simp[p89,withinP,h1,h2,h3]
 ·simp[p89,withinP,h1]
theorem rightL_vc{l:Ly}(hl:l.fits):VC Try.prog 55 false [lyV l] (.bool (rightL l)):=by
 refine vc_of_wp Try.func55 follows (by kernel_rfl) c55 rfl ?_
 obtain⟨⟨hb1,hb2⟩,hc,ht,h1,h2,h3,h4⟩:=hl
 obtain⟨c1,c2⟩:=hc
 simp[p55]
 by_cases g1:l.cap<0
 ·have:rightL l=false:=rightL_no.2 (by omega)
  simp[g1,this]
 by_cases g2:4096<l.cap
 ·have:rightL l=false:=rightL_no.2 (by omega)
  simp[g1,g2,this]
 by_cases g3:l.base<1
 ·have:rightL l=false:=rightL_no.2 (by omega)
  simp[g1,g2,g3,this]
 have e1:=wrap_u l.cap (by omega) (by omega)
 have e2:=wrap_u (2*l.cap) (by omega) (by omega)
 have e3:=wrap_u (9223372036854775808-2*l.cap) (by omega) (by omega)
 by_cases g4:9223372036854775808-2*l.cap<l.base
 ·have:rightL l=false:=rightL_no.2 (by omega)
  simp[g1,g2,g3,e1,e2,e3,g4,this]
 by_cases g5:l.to=0∨l.to=1
 ·have k1:=within_vc h1 h2 ⟨c1,c2⟩
  have k2:=within_vc h3 h4 ⟨c1,c2⟩
  have hr:rightL l=(withinP l.low l.high l.cap&&withinP l.old l.far l.cap):=by
   rcases g5 with h|h<;>simp[rightL,show 0≤l.cap by omega,show l.cap≤4096 by omega,show 1≤l.base by omega,show l.base≤9223372036854775808-2*l.cap by omega,h]
  rw[hr]
  rcases g5 with g5|g5
  all_goals
   cases hw:withinP l.low l.high l.cap
   ·rw[hw]at k1
    simp[g1,g2,g3,e1,e2,e3,g4,g5]
    refine callW_of k1 (by simp) ?_
    simp
   ·rw[hw]at k1
    simp[g1,g2,g3,e1,e2,e3,g4,g5]
    refine callW_of k1 (by simp) ?_
    simp
    refine callW_of k2 (by simp) ?_
    simp
 ·have:rightL l=false:=rightL_no.2 (by omega)
  have g6: ¬l.to=0:=fun h=>g5 (.inl h)
  have g7: ¬l.to=1:=fun h=>g5 (.inr h)
  simp[g1,g2,g3,e1,e2,e3,g4,g6,g7,this]
theorem refRightL_vc{l:Ly}(hl:l.fits):VC Try.prog 63 false [lyV l] (.bool (rightL l)):=by
 refine vc_of_wp Try.func63 follows (by kernel_rfl) c63 rfl ?_
 obtain⟨⟨hb1,hb2⟩,hc,ht,h1,h2,h3,h4⟩:=hl
 obtain⟨c1,c2⟩:=hc
 simp[p63]
 by_cases g3:l.base<1
 ·have:rightL l=false:=rightL_no.2 (by omega)
  simp[g3,this]
 by_cases g1:l.cap<0
 ·have:rightL l=false:=rightL_no.2 (by omega)
  simp[g1,g3,this]
 by_cases g2:4096<l.cap
 ·have:rightL l=false:=rightL_no.2 (by omega)
  simp[g1,g2,g3,this]
 have e1:=wrap_u l.cap (by omega) (by omega)
 have e2:=wrap_u (2*l.cap) (by omega) (by omega)
 have e3:=wrap_u (9223372036854775808-2*l.cap) (by omega) (by omega)
 by_cases g4:9223372036854775808-2*l.cap<l.base
 ·have:rightL l=false:=rightL_no.2 (by omega)
  simp[g1,g2,g3,e1,e2,e3,g4,this]
 by_cases g5:l.to<0
 ·have:rightL l=false:=rightL_no.2 (by omega)
  simp[g1,g2,g3,e1,e2,e3,g4,g5,this]
 by_cases g6:1<l.to
 ·have:rightL l=false:=rightL_no.2 (by omega)
  simp[g1,g2,g3,e1,e2,e3,g4,g5,g6,this]
 by_cases q1:l.low<0
 ·have:rightL l=false:=rightL_no.2 (by omega)
  simp[g1,g2,g3,e1,e2,e3,g4,g5,g6,q1,this]
 by_cases q2:l.high<0
 ·have:rightL l=false:=rightL_no.2 (by omega)
  simp[g1,g2,g3,e1,e2,e3,g4,g5,g6,q1,q2,this]
 by_cases q3:l.old<0
 ·have:rightL l=false:=rightL_no.2 (by omega)
  simp[g1,g2,g3,e1,e2,e3,g4,g5,g6,q1,q2,q3,this]
 by_cases q4:l.far<0
 ·have:rightL l=false:=rightL_no.2 (by omega)
  simp[g1,g2,g3,e1,e2,e3,g4,g5,g6,q1,q2,q3,q4,this]
 obtain⟨l1,l2⟩:=h1
 obtain⟨o1,o2⟩:=h3
 have w1:=wrap_i (l.cap-l.low) (by omega) (by omega)
 have w2:=wrap_i (l.cap-l.old) (by omega) (by omega)
 by_cases r1:l.low≤l.cap
 ·by_cases r2:l.high≤l.cap-l.low
  ·by_cases r3:l.old≤l.cap
   ·by_cases r4:l.far≤l.cap-l.old
    ·have:rightL l=true:=rightL_iff.2 (by omega)
     simp[g1,g2,g3,e1,e2,e3,g4,g5,g6,q1,q2,q3,q4,w1,w2,r1,r2,r3,r4,this]
    ·have:rightL l=false:=rightL_no.2 (by omega)
     simp[g1,g2,g3,e1,e2,e3,g4,g5,g6,q1,q2,q3,q4,w1,w2,r1,r2,r3,r4,this]
   ·have:rightL l=false:=rightL_no.2 (by omega)
    simp[g1,g2,g3,e1,e2,e3,g4,g5,g6,q1,q2,q3,q4,w1,w2,r1,r2,r3,this]
  ·have:rightL l=false:=rightL_no.2 (by omega)
   simp[g1,g2,g3,e1,e2,e3,g4,g5,g6,q1,q2,q3,q4,w1,w2,r1,r2,this]
 ·have:rightL l=false:=rightL_no.2 (by omega)
  simp[g1,g2,g3,e1,e2,e3,g4,g5,g6,q1,q2,q3,q4,w1,w2,r1,this]
def fstL(l:Ly)(part:Int):Int:=
 if part=1 then l.base+l.to*l.cap else if part=2 then l.base+l.to*l.cap+(l.cap-l.high)else if part=3 then l.base+(1-l.to)*l.cap else l.base+(1-l.to)*l.cap+(l.cap-l.far)
def sizL(l:Ly)(part:Int):Int:=if part=1 then l.low else if part=2 then l.high else if part=3 then l.old else l.far
theorem toCap{l:Ly}(hr:rightL l=true):(l.to*l.cap=0∧(1-l.to)*l.cap=l.cap)∨(l.to*l.cap=l.cap∧(1-l.to)*l.cap=0):=by
 obtain⟨_,_,_,_,ht,_⟩:=rightL_iff.1 hr
 rcases ht with h|h
 ·rw[h];exact .inl ⟨by simp,by simp⟩
 ·rw[h];exact .inr ⟨by simp,by simp⟩
theorem fstL_range{l:Ly}(hr:rightL l=true)(k:Int):1≤fstL l k∧fstL l k+sizL l k≤9223372036854775808∧0≤sizL l k∧sizL l k≤4096:=by
 have h:=rightL_iff.1 hr
 have ht:=toCap hr
 unfold fstL sizL
 by_cases k1:k=1
 ·simp only[if_pos k1];omega
 by_cases k2:k=2
 ·simp only[if_neg k1,if_pos k2];omega
 by_cases k3:k=3
 ·simp only[if_neg k1,if_neg k2,if_pos k3];omega
 ·simp only[if_neg k1,if_neg k2,if_neg k3];omega
theorem first_vc{l:Ly}(hr:rightL l=true){k:Int}(hk:1≤k∧k≤4):VC Try.prog 99 false [lyV l,vi k] (vu (fstL l k)):=by
 refine vc_of_wp Try.func99 follows (by kernel_rfl) c99 rfl ?_
 have h:=rightL_iff.1 hr
 have ht:=toCap hr
 have w1:=wrap_i (l.to*l.cap) (by omega) (by omega)
 have w2:=wrap_i (1-l.to) (by omega) (by omega)
 have w3:=wrap_i ((1-l.to)*l.cap) (by omega) (by omega)
 have w4:=wrap_i (l.cap-l.high) (by omega) (by omega)
 have w5:=wrap_i (l.cap-l.far) (by omega) (by omega)
 have u1:=wrap_u (l.to*l.cap) (by omega) (by omega)
 have u3:=wrap_u ((1-l.to)*l.cap) (by omega) (by omega)
 have u4:=wrap_u (l.cap-l.high) (by omega) (by omega)
 have u5:=wrap_u (l.cap-l.far) (by omega) (by omega)
 have v1:=wrap_u (l.base+l.to*l.cap) (by omega) (by omega)
 have v2:=wrap_u (l.base+(l.cap-l.high)) (by omega) (by omega)
 have v3:=wrap_u (l.base+(l.cap-l.high)+l.to*l.cap) (by omega) (by omega)
 have v4:=wrap_u (l.base+(1-l.to)*l.cap) (by omega) (by omega)
 have v5:=wrap_u (l.base+(l.cap-l.far)) (by omega) (by omega)
 have v6:=wrap_u (l.base+(l.cap-l.far)+(1-l.to)*l.cap) (by omega) (by omega)
 have hk':k=1∨k=2∨k=3∨k=4:=by omega
 rcases hk' with rfl|rfl|rfl|rfl
 ·simp[p99,xB_other,fstL,w1,u1,v1]
 ·simp[p99,xB_other,fstL,w1,u1,w4,u4,v2,v3]
  omega
 ·simp[p99,xB_other,fstL,w2,w3,u3,v4]
 ·simp[p99,xB_other,fstL,w2,w3,u3,w5,u5,v5,v6]
  omega
def spansV(l:Ly):V:= .agg [vu (fstL l 1),vi l.low,vu (fstL l 2),vi l.high,vu (fstL l 3),vi l.old,vu (fstL l 4),vi l.far]
theorem spans_vc{l:Ly}(hr:rightL l=true):VC Try.prog 78 false [lyV l] (spansV l):=by
 refine vc_of_wp Try.func78 follows (by kernel_rfl) c78 rfl ?_
 simp[p78]
 refine callW_of (first_vc hr (k:=1) (by omega)) (by simp[lyV]) ?_
 simp
 refine callW_of (first_vc hr (k:=2) (by omega)) (by simp[lyV]) ?_
 simp
 refine callW_of (first_vc hr (k:=3) (by omega)) (by simp[lyV]) ?_
 simp
 refine callW_of (first_vc hr (k:=4) (by omega)) (by simp[lyV]) ?_
 simp[spansV]
@[simp] theorem sizL1(l:Ly):sizL l 1=l.low:=rfl
@[simp] theorem sizL2(l:Ly):sizL l 2=l.high:=rfl
@[simp] theorem sizL3(l:Ly):sizL l 3=l.old:=rfl
@[simp] theorem sizL4(l:Ly):sizL l 4=l.far:=rfl
def addrL(l:Ly)(part at_:Int):Int×Int:=
 if rightL l=false then(0,1)else if part<1∨4<part then(0,6)else if at_<0∨sizL l part≤at_ then(0,6)else(fstL l part+at_,0)
theorem addrL_vc{l:Ly}(hl:l.fits){part at_:Int}:VC Try.prog 39 false [lyV l,.agg [vi part,vi at_]] (.tup [vu (addrL l part at_).1,vi (addrL l part at_).2]):=by
 refine vc_of_wp Try.func39 follows (by kernel_rfl) c39 rfl ?_
 simp[p39]
 refine callW_of (rightL_vc hl) (by simp) ?_
 cases hr:rightL l
 ·simp[addrL,hr]
 ·simp
  by_cases h1:part<1
  ·simp[addrL,hr,h1]
  by_cases h2:4<part
  ·simp[addrL,hr,h1,h2]
  have hk:part=1∨part=2∨part=3∨part=4:=by omega
  simp[h1,h2]
  refine callW_of (spans_vc hr) (by simp[spansV]) ?_
  rcases hk with rfl|rfl|rfl|rfl
  ·have hw:=fstL_range hr 1
   simp only[sizL1]at hw
   simp[spansV,aiV,wrap_i]
   by_cases h3:at_<0
   ·simp[addrL,hr,h3]
   by_cases h4:l.low≤at_
   ·simp[addrL,hr,h3,h4]
   ·have u1:=wrap_u at_ (by omega) (by omega)
    have u2:=wrap_u (fstL l 1+at_) (by omega) (by omega)
    simp[addrL,hr,h3,h4,u1,u2]
  ·have hw:=fstL_range hr 2
   simp only[sizL2]at hw
   simp[spansV,aiV,wrap_i]
   by_cases h3:at_<0
   ·simp[addrL,hr,h3]
   by_cases h4:l.high≤at_
   ·simp[addrL,hr,h3,h4]
   ·have u1:=wrap_u at_ (by omega) (by omega)
    have u2:=wrap_u (fstL l 2+at_) (by omega) (by omega)
    simp[addrL,hr,h3,h4,u1,u2]
  ·have hw:=fstL_range hr 3
   simp only[sizL3]at hw
   simp[spansV,aiV,wrap_i]
   by_cases h3:at_<0
   ·simp[addrL,hr,h3]
   by_cases h4:l.old≤at_
   ·simp[addrL,hr,h3,h4]
   ·have u1:=wrap_u at_ (by omega) (by omega)
    have u2:=wrap_u (fstL l 3+at_) (by omega) (by omega)
    simp[addrL,hr,h3,h4,u1,u2]
  ·have hw:=fstL_range hr 4
   simp only[sizL4]at hw
   simp[spansV,aiV,wrap_i]
   by_cases h3:at_<0
   ·simp[addrL,hr,h3]
   by_cases h4:l.far≤at_
   ·simp[addrL,hr,h3,h4]
   ·have u1:=wrap_u at_ (by omega) (by omega)
    have u2:=wrap_u (fstL l 4+at_) (by omega) (by omega)
    simp[addrL,hr,h3,h4,u1,u2]
theorem refAddresses_vc{l:Ly}(hr:rightL l=true){k:Int}(hk:1≤k∧k≤4):VC Try.prog 77 false [lyV l,vi k] (.tup [vu (fstL l k),vi (sizL l k)]):=by
 refine vc_of_wp Try.func77 follows (by kernel_rfl) c77 rfl ?_
 have h:=rightL_iff.1 hr
 have ht:=toCap hr
 have w1:=wrap_i (l.to*l.cap) (by omega) (by omega)
 have w2:=wrap_i (1-l.to) (by omega) (by omega)
 have w3:=wrap_i ((1-l.to)*l.cap) (by omega) (by omega)
 have w4:=wrap_i (l.cap-l.high) (by omega) (by omega)
 have w5:=wrap_i (l.cap-l.far) (by omega) (by omega)
 have u1:=wrap_u (l.to*l.cap) (by omega) (by omega)
 have u3:=wrap_u ((1-l.to)*l.cap) (by omega) (by omega)
 have u4:=wrap_u (l.cap-l.high) (by omega) (by omega)
 have u5:=wrap_u (l.cap-l.far) (by omega) (by omega)
 have v1:=wrap_u (l.base+l.to*l.cap) (by omega) (by omega)
 have v2:=wrap_u (l.base+l.to*l.cap+(l.cap-l.high)) (by omega) (by omega)
 have v4:=wrap_u (l.base+(1-l.to)*l.cap) (by omega) (by omega)
 have v5:=wrap_u (l.base+(1-l.to)*l.cap+(l.cap-l.far)) (by omega) (by omega)
 have hk':k=1∨k=2∨k=3∨k=4:=by omega
 rcases hk' with rfl|rfl|rfl|rfl
 all_goals simp[p77,xB_other,fstL,w1,u1,w2,w3,u3,w4,u4,w5,u5,v1,v2,v4,v5]
theorem refAddresses_no{l:Ly}(hr:rightL l=true){k:Int}(hk:k<1∨4<k):VC Try.prog 77 false [lyV l,vi k] (.tup [vu 0,vi 0]):=by
 refine vc_of_wp Try.func77 follows (by kernel_rfl) c77 rfl ?_
 simp[p77,xB_other,show k≠1 by omega,show k≠2 by omega,show k≠3 by omega,show k≠4 by omega]
theorem refAddrL_vc{l:Ly}(hl:l.fits){part at_:Int}:VC Try.prog 37 false [lyV l,.agg [vi part,vi at_]] (.tup [vu (addrL l part at_).1,vi (addrL l part at_).2]):=by
 refine vc_of_wp Try.func37 follows (by kernel_rfl) c37 rfl ?_
 simp[p37]
 refine callW_of (refRightL_vc hl) (by simp) ?_
 cases hr:rightL l
 ·simp[addrL,hr]
 ·simp
  by_cases hp:part<1∨4<part
  ·refine callW_of (refAddresses_no hr hp) (by simp) ?_
   by_cases h3:at_<0
   ·simp[addrL,hr,hp,h3]
   ·simp[addrL,hr,hp,h3,show 0≤at_ by omega]
  have hk:part=1∨part=2∨part=3∨part=4:=by omega
  rcases hk with rfl|rfl|rfl|rfl
  ·have hw:=fstL_range hr 1
   simp only[sizL1]at hw
   refine callW_of (refAddresses_vc hr (k:=1) (by omega)) (by simp) ?_
   by_cases h3:at_<0
   ·simp[addrL,hr,h3]
   by_cases h4:l.low≤at_
   ·simp[addrL,hr,h3,h4]
   ·have u1:=wrap_u at_ (by omega) (by omega)
    have u2:=wrap_u (fstL l 1+at_) (by omega) (by omega)
    simp[addrL,hr,h3,h4,u1,u2]
  ·have hw:=fstL_range hr 2
   simp only[sizL2]at hw
   refine callW_of (refAddresses_vc hr (k:=2) (by omega)) (by simp) ?_
   by_cases h3:at_<0
   ·simp[addrL,hr,h3]
   by_cases h4:l.high≤at_
   ·simp[addrL,hr,h3,h4]
   ·have u1:=wrap_u at_ (by omega) (by omega)
    have u2:=wrap_u (fstL l 2+at_) (by omega) (by omega)
    simp[addrL,hr,h3,h4,u1,u2]
  ·have hw:=fstL_range hr 3
   simp only[sizL3]at hw
   refine callW_of (refAddresses_vc hr (k:=3) (by omega)) (by simp) ?_
   by_cases h3:at_<0
   ·simp[addrL,hr,h3]
   by_cases h4:l.old≤at_
   ·simp[addrL,hr,h3,h4]
   ·have u1:=wrap_u at_ (by omega) (by omega)
    have u2:=wrap_u (fstL l 3+at_) (by omega) (by omega)
    simp[addrL,hr,h3,h4,u1,u2]
  ·have hw:=fstL_range hr 4
   simp only[sizL4]at hw
   refine callW_of (refAddresses_vc hr (k:=4) (by omega)) (by simp) ?_
   by_cases h3:at_<0
   ·simp[addrL,hr,h3]
   by_cases h4:l.far≤at_
   ·simp[addrL,hr,h3,h4]
   ·have u1:=wrap_u at_ (by omega) (by omega)
    have u2:=wrap_u (fstL l 4+at_) (by omega) (by omega)
    simp[addrL,hr,h3,h4,u1,u2]
def inL(l:Ly)(a k:Int):Bool:=decide (fstL l k≤a)&&decide (a<fstL l k+sizL l k)
theorem inL_iff{l:Ly}{a k:Int}:inL l a k=true↔fstL l k≤a∧a<fstL l k+sizL l k:=by simp[inL]
theorem inL_no{l:Ly}{a k:Int}:inL l a k=false↔ ¬(fstL l k≤a∧a<fstL l k+sizL l k):=by rw[←inL_iff];simp
def findL(l:Ly)(a:Int):Int×Int×Int:=
 if rightL l=false then(0,0,1)else if inL l a 1 then(1,a-fstL l 1,0)else if inL l a 2 then(2,a-fstL l 2,0)else if inL l a 3 then(3,a-fstL l 3,0)else if inL l a 4 then(4,a-fstL l 4,0)else(0,0,6)
theorem findL_vc{l:Ly}(hl:l.fits){a:Int}(ha:U64 a):VC Try.prog 58 false [lyV l,vu a] (.tup [.agg [vi (findL l a).1,vi (findL l a).2.1],vi (findL l a).2.2]):=by
 refine vc_of_wp Try.func58 follows (by kernel_rfl) c58 rfl ?_
 simp[p58]
 refine callW_of (rightL_vc hl) (by simp) ?_
 cases hr:rightL l
 ·simp[findL,hr]
 ·obtain⟨a1,a2⟩:=ha
  simp
  refine callW_of (spans_vc hr) (by simp[lyV]) ?_
  simp
  have hw: ∀k,1≤fstL l k∧fstL l k+sizL l k≤9223372036854775808∧0≤sizL l k∧sizL l k≤4096:=fun k=>fstL_range hr k
  have w1:=hw 1
  have w2:=hw 2
  have w3:=hw 3
  have w4:=hw 4
  simp only[sizL1,sizL2,sizL3,sizL4]at w1 w2 w3 w4
  refine wpS_for0 6 4 (fun i=>(0<i→inL l a 1=false)∧(1<i→inL l a 2=false)∧(2<i→inL l a 3=false)∧(3<i→inL l a 4=false)) (by simp) (by simp) (by simp) ?_
  rintro i hi ⟨i1,i2,i3,i4⟩
  have hi':i=0∨i=1∨i=2∨i=3∨i=4:=by omega
  rcases hi' with rfl|rfl|rfl|rfl|rfl
  ·have u0:=wrap_u l.low (by omega) (by omega)
   by_cases h1:fstL l 1≤a
   ·have u1:=wrap_u (a-fstL l 1) (by omega) (by omega)
    by_cases h2:a-fstL l 1<l.low
    ·have u2:=wrap_i (a-fstL l 1) (by omega) (by omega)
     have hin:inL l a 1=true:=inL_iff.2 ⟨h1,by rw[sizL1];omega⟩
     simp[spansV,aiV,wrap_i,h1,u0,u1,h2,u2,findL,hr,hin]
    ·have hin:inL l a 1=false:=inL_no.2 (by rw[sizL1];omega)
     simp[spansV,aiV,wrap_i,h1,u0,u1,h2,hin]
   ·have hin:inL l a 1=false:=by simp[inL,h1]
    simp[spansV,aiV,wrap_i,h1,hin]
  ·have u0:=wrap_u l.high (by omega) (by omega)
   by_cases h1:fstL l 2≤a
   ·have u1:=wrap_u (a-fstL l 2) (by omega) (by omega)
    by_cases h2:a-fstL l 2<l.high
    ·have u2:=wrap_i (a-fstL l 2) (by omega) (by omega)
     have hin:inL l a 2=true:=inL_iff.2 ⟨h1,by rw[sizL2];omega⟩
     simp[spansV,aiV,wrap_i,h1,u0,u1,h2,u2,findL,hr,hin,i1 (by omega)]
    ·have hin:inL l a 2=false:=inL_no.2 (by rw[sizL2];omega)
     simp[spansV,aiV,wrap_i,h1,u0,u1,h2,hin,i1 (by omega)]
   ·have hin:inL l a 2=false:=by simp[inL,h1]
    simp[spansV,aiV,wrap_i,h1,hin,i1 (by omega)]
  ·have u0:=wrap_u l.old (by omega) (by omega)
   by_cases h1:fstL l 3≤a
   ·have u1:=wrap_u (a-fstL l 3) (by omega) (by omega)
    by_cases h2:a-fstL l 3<l.old
    ·have u2:=wrap_i (a-fstL l 3) (by omega) (by omega)
     have hin:inL l a 3=true:=inL_iff.2 ⟨h1,by rw[sizL3];omega⟩
     simp[spansV,aiV,wrap_i,h1,u0,u1,h2,u2,findL,hr,hin,i1 (by omega),i2 (by omega)]
    ·have hin:inL l a 3=false:=inL_no.2 (by rw[sizL3];omega)
     simp[spansV,aiV,wrap_i,h1,u0,u1,h2,hin,i1 (by omega),i2 (by omega)]
   ·have hin:inL l a 3=false:=by simp[inL,h1]
    simp[spansV,aiV,wrap_i,h1,hin,i1 (by omega),i2 (by omega)]
  ·have u0:=wrap_u l.far (by omega) (by omega)
   by_cases h1:fstL l 4≤a
   ·have u1:=wrap_u (a-fstL l 4) (by omega) (by omega)
    by_cases h2:a-fstL l 4<l.far
    ·have u2:=wrap_i (a-fstL l 4) (by omega) (by omega)
     have hin:inL l a 4=true:=inL_iff.2 ⟨h1,by rw[sizL4];omega⟩
     simp[spansV,aiV,wrap_i,h1,u0,u1,h2,u2,findL,hr,hin,i1 (by omega),i2 (by omega),i3 (by omega)]
    ·have hin:inL l a 4=false:=inL_no.2 (by rw[sizL4];omega)
     simp[spansV,aiV,wrap_i,h1,u0,u1,h2,hin,i1 (by omega),i2 (by omega),i3 (by omega)]
   ·have hin:inL l a 4=false:=by simp[inL,h1]
    simp[spansV,aiV,wrap_i,h1,hin,i1 (by omega),i2 (by omega),i3 (by omega)]
  ·simp[findL,hr,i1 (by omega),i2 (by omega),i3 (by omega),i4 (by omega)]
end Vm
end
section
namespace Vm
open Go
open Go.Proofs
set_option maxRecDepth 100000
def p22:Fn:=⟨10,[0,1,2,3,4,39,5,41,6,52],
(.seq
(.reg ⟨[],[],[(2,.m [(.fld (.sz (.s 0) 10) 0),(.fld (.sz (.s 0) 10) 1),(.fld (.sz (.s 0) 10) 2),(.fld (.sz (.s 0) 10) 3),(.fld (.sz (.s 0) 10) 4),(.fld (.sz (.s 0) 10) 5),(.fld (.sz (.s 0) 10) 6),(.fld (.sz (.s 0) 10) 7),(.fld (.sz (.s 0) 10) 8),(.fld (.sz (.s 0) 10) 9)]),(3,.m [(.fld (.sz (.s 1) 10) 0),(.fld (.sz (.s 1) 10) 1),(.fld (.sz (.s 1) 10) 2),(.fld (.sz (.s 1) 10) 3),(.fld (.sz (.s 1) 10) 4),(.fld (.sz (.s 1) 10) 5),(.fld (.sz (.s 1) 10) 6),(.fld (.sz (.s 1) 10) 7),(.fld (.sz (.s 1) 10) 8),(.fld (.sz (.s 1) 10) 9)]),(4,.v (.c (.bool false)))]⟩)
(.seq
(.seq
(.reg ⟨[.lt 10 [] (.bin .neq (.m 2 0) (.m 3 0)),.lt 11 [] (.ite (.s 10) (.c (.bool true)) (.bin .neq (.m 2 1) (.m 3 1))),.lt 12 [] (.ite (.s 11) (.c (.bool true)) (.bin .neq (.m 2 2) (.m 3 2))),.lt 13 [] (.ite (.s 12) (.c (.bool true)) (.eqv true (.m 2 3) (.m 3 3)))],[([(10,false)],(.bin .neq (.m 2 1) (.m 3 1))),([(11,false)],(.bin .neq (.m 2 2) (.m 3 2))),([(12,false)],(.eqv true (.m 2 3) (.m 3 3))),([(13,false)],(.bin .neq (.m 2 4) (.m 3 4)))],[(5,.v (.ite (.s 13) (.c (.bool true)) (.bin .neq (.m 2 4) (.m 3 4))))]⟩)
(.cond (.s 5)
 (.seq
 (.reg ⟨[],[],[(4,.v (.c (.bool false)))]⟩)
 .ret)
 .skip))
(.seq
(.seq
(.reg ⟨[],[],[(6,.v (.c (.int .i64 (1))))]⟩)
(.block 0
 (.loop [0,1,2,3,4,5,6]
  (.seq
  (.seq
  (.reg ⟨[],[],[(7,.v (.bin .leq (.s 6) (.c (.int .i64 (4)))))]⟩)
  (.cond (.s 7)
   .skip
   (.exit 0)))
  (.seq
  (.block 1
   (.seq
   (.reg ⟨[.call 14 [] (.id 28) false false [(.mm 2 0 10),(.s 6)],.call 15 [] (.id 28) false false [(.mm 3 0 10),(.s 6)],.call 16 [] (.id 42) false false [(.s 14),(.s 15)]],[],[(8,.v (.s 16))]⟩)
   (.seq
   (.reg ⟨[],[],[(9,.v (.un .not (.s 8)))]⟩)
   (.cond (.s 9)
    (.seq
    (.reg ⟨[],[],[(4,.v (.c (.bool false)))]⟩)
    .ret)
    .skip))))
  (.reg ⟨[],[],[(6,.v (.bin .add (.s 6) (.c (.int .i64 (1)))))]⟩))))))
(.seq
(.reg ⟨[.call 17 [] (.id 42) false false [(.m 2 9),(.m 3 9)]],[],[(4,.v (.s 17))]⟩)
.ret)))),
[(4,.v)]⟩
theorem c22:compFn Try.prog fresh sig [.fz,.fz] [] Try.f22=some p22:=by kernel_rfl
def p27:Fn:=⟨9,[0,1,2,3,6,10,7,14,18],
(.seq
(.reg ⟨[],[],[(3,.m [(.fld (.sz (.s 0) 10) 0),(.fld (.sz (.s 0) 10) 1),(.fld (.sz (.s 0) 10) 2),(.fld (.sz (.s 0) 10) 3),(.fld (.sz (.s 0) 10) 4),(.fld (.sz (.s 0) 10) 5),(.fld (.sz (.s 0) 10) 6),(.fld (.sz (.s 0) 10) 7),(.fld (.sz (.s 0) 10) 8),(.fld (.sz (.s 0) 10) 9)]),(4,.m [(.c (.int .u64 (0))),(.c (.int .i64 (0))),(.c (.int .i64 (0))),(.c (.bool false)),(.c (.int .i64 (0))),(.c (.sl [])),(.c (.sl [])),(.c (.sl [])),(.c (.sl [])),(.c (.sl []))])]⟩)
(.seq
(.seq
(.reg ⟨[],[],[(6,.v (.s 1))]⟩)
(.block 0
 (.seq
 (.reg ⟨[],[],[(5,.v (.bin .eql (.s 6) (.c (.int .i64 (1)))))]⟩)
 (.cond (.s 5)
  (.reg ⟨[],[],[(3,.m [(.m 3 0),(.m 3 1),(.m 3 2),(.m 3 3),(.m 3 4),(.one (.s 2)),(.m 3 6),(.m 3 7),(.m 3 8),(.m 3 9)])]⟩)
  (.seq
  (.reg ⟨[],[],[(7,.v (.bin .eql (.s 6) (.c (.int .i64 (2)))))]⟩)
  (.cond (.s 7)
   (.reg ⟨[],[],[(3,.m [(.m 3 0),(.m 3 1),(.m 3 2),(.m 3 3),(.m 3 4),(.m 3 5),(.one (.s 2)),(.m 3 7),(.m 3 8),(.m 3 9)])]⟩)
   (.seq
   (.reg ⟨[],[],[(8,.v (.bin .eql (.s 6) (.c (.int .i64 (3)))))]⟩)
   (.cond (.s 8)
    (.reg ⟨[],[],[(3,.m [(.m 3 0),(.m 3 1),(.m 3 2),(.m 3 3),(.m 3 4),(.m 3 5),(.m 3 6),(.one (.s 2)),(.m 3 8),(.m 3 9)])]⟩)
    (.reg ⟨[],[],[(3,.m [(.m 3 0),(.m 3 1),(.m 3 2),(.m 3 3),(.m 3 4),(.m 3 5),(.m 3 6),(.m 3 7),(.one (.s 2)),(.m 3 9)])]⟩)))))))))
(.seq
(.reg ⟨[],[],[(4,.m [(.fld (.mm 3 0 10) 0),(.fld (.mm 3 0 10) 1),(.fld (.mm 3 0 10) 2),(.fld (.mm 3 0 10) 3),(.fld (.mm 3 0 10) 4),(.fld (.mm 3 0 10) 5),(.fld (.mm 3 0 10) 6),(.fld (.mm 3 0 10) 7),(.fld (.mm 3 0 10) 8),(.fld (.mm 3 0 10) 9)])]⟩)
.ret))),
[(4,(.ag 10))]⟩
theorem c27:compFn Try.prog fresh sig [.fz,.fz,.fz] [] Try.f27=some p27:=by kernel_rfl
def p28:Fn:=⟨8,[0,1,2,4,6,5,10,14],
(.seq
(.reg ⟨[],[],[(2,.m [(.fld (.sz (.s 0) 10) 0),(.fld (.sz (.s 0) 10) 1),(.fld (.sz (.s 0) 10) 2),(.fld (.sz (.s 0) 10) 3),(.fld (.sz (.s 0) 10) 4),(.fld (.sz (.s 0) 10) 5),(.fld (.sz (.s 0) 10) 6),(.fld (.sz (.s 0) 10) 7),(.fld (.sz (.s 0) 10) 8),(.fld (.sz (.s 0) 10) 9)]),(3,.v (.c (.sl [])))]⟩)
(.seq
(.seq
(.reg ⟨[],[],[(5,.v (.s 1))]⟩)
(.block 0
 (.seq
 (.reg ⟨[],[],[(4,.v (.bin .eql (.s 5) (.c (.int .i64 (1)))))]⟩)
 (.cond (.s 4)
  (.seq
  (.reg ⟨[],[],[(3,.v (.m 2 5))]⟩)
  .ret)
  (.seq
  (.reg ⟨[],[],[(6,.v (.bin .eql (.s 5) (.c (.int .i64 (2)))))]⟩)
  (.cond (.s 6)
   (.seq
   (.reg ⟨[],[],[(3,.v (.m 2 6))]⟩)
   .ret)
   (.seq
   (.reg ⟨[],[],[(7,.v (.bin .eql (.s 5) (.c (.int .i64 (3)))))]⟩)
   (.cond (.s 7)
    (.seq
    (.reg ⟨[],[],[(3,.v (.m 2 7))]⟩)
    .ret)
    .skip))))))))
(.seq
(.reg ⟨[],[],[(3,.v (.m 2 8))]⟩)
.ret))),
[(3,.v)]⟩
theorem c28:compFn Try.prog fresh sig [.fz,.fz] [] Try.f28=some p28:=by kernel_rfl
def p29:Fn:=⟨4,[0,1,4,6],
(.seq
(.reg ⟨[],[],[(2,.v (.c (.int .i64 (0))))]⟩)
(.seq
(.seq
(.reg ⟨[],[],[(3,.v (.bin .lss (.s 0) (.c (.int .i64 (0)))))]⟩)
(.cond (.s 3)
 (.reg ⟨[],[],[(0,.v (.un .neg (.bin .add (.s 0) (.c (.int .i64 (1))))))]⟩)
 .skip))
(.seq
(.reg ⟨[],[],[(2,.v (.bin .rem (.s 0) (.s 1)))]⟩)
.ret))),
[(2,.v)]⟩
theorem c29:compFn Try.prog fresh sig [.fz,.fz] [] Try.f29=some p29:=by kernel_rfl
def p38:Fn:=⟨3,[0,1,2],
(.seq
(.reg ⟨[],[],[(1,.m [(.fld (.sz (.s 0) 10) 0),(.fld (.sz (.s 0) 10) 1),(.fld (.sz (.s 0) 10) 2),(.fld (.sz (.s 0) 10) 3),(.fld (.sz (.s 0) 10) 4),(.fld (.sz (.s 0) 10) 5),(.fld (.sz (.s 0) 10) 6),(.fld (.sz (.s 0) 10) 7),(.fld (.sz (.s 0) 10) 8),(.fld (.sz (.s 0) 10) 9)]),(2,.m [(.c (.int .u64 (0))),(.c (.int .i64 (0))),(.c (.int .i64 (0))),(.c (.int .i64 (0))),(.c (.int .i64 (0))),(.c (.int .i64 (0))),(.c (.int .i64 (0)))])]⟩)
(.seq
(.reg ⟨[],[],[(2,.m [(.fld (.ag [(.m 1 0),(.m 1 1),(.m 1 2),(.len (.m 1 5)),(.len (.m 1 6)),(.len (.m 1 7)),(.len (.m 1 8))]) 0),(.fld (.ag [(.m 1 0),(.m 1 1),(.m 1 2),(.len (.m 1 5)),(.len (.m 1 6)),(.len (.m 1 7)),(.len (.m 1 8))]) 1),(.fld (.ag [(.m 1 0),(.m 1 1),(.m 1 2),(.len (.m 1 5)),(.len (.m 1 6)),(.len (.m 1 7)),(.len (.m 1 8))]) 2),(.fld (.ag [(.m 1 0),(.m 1 1),(.m 1 2),(.len (.m 1 5)),(.len (.m 1 6)),(.len (.m 1 7)),(.len (.m 1 8))]) 3),(.fld (.ag [(.m 1 0),(.m 1 1),(.m 1 2),(.len (.m 1 5)),(.len (.m 1 6)),(.len (.m 1 7)),(.len (.m 1 8))]) 4),(.fld (.ag [(.m 1 0),(.m 1 1),(.m 1 2),(.len (.m 1 5)),(.len (.m 1 6)),(.len (.m 1 7)),(.len (.m 1 8))]) 5),(.fld (.ag [(.m 1 0),(.m 1 1),(.m 1 2),(.len (.m 1 5)),(.len (.m 1 6)),(.len (.m 1 7)),(.len (.m 1 8))]) 6)])]⟩)
.ret)),
[(2,(.ag 7))]⟩
theorem c38:compFn Try.prog fresh sig [.fz] [] Try.f38=some p38:=by kernel_rfl
def p42:Fn:=⟨7,[0,1,4,10,5,14,25],
(.seq
(.reg ⟨[],[],[(2,.v (.c (.bool false)))]⟩)
(.seq
(.seq
(.reg ⟨[],[],[(3,.v (.bin .neq (.len (.s 0)) (.len (.s 1))))]⟩)
(.cond (.s 3)
 (.seq
 (.reg ⟨[],[],[(2,.v (.c (.bool false)))]⟩)
 .ret)
 .skip))
(.seq
(.seq
(.reg ⟨[],[],[(4,.v (.c (.int .i64 (0))))]⟩)
(.block 0
 (.loop [0,1,2,3,4]
  (.seq
  (.seq
  (.reg ⟨[],[],[(5,.v (.bin .lss (.s 4) (.len (.s 0))))]⟩)
  (.cond (.s 5)
   .skip
   (.exit 0)))
  (.seq
  (.block 1
   (.seq
   (.reg ⟨[],[],[(6,.v (.bin .neq (.fld (.idx (.s 0) (.s 4) 1) 0) (.fld (.idx (.s 1) (.s 4) 1) 0)))]⟩)
   (.cond (.s 6)
    (.seq
    (.reg ⟨[],[],[(2,.v (.c (.bool false)))]⟩)
    .ret)
    .skip)))
  (.reg ⟨[],[],[(4,.v (.bin .add (.s 4) (.c (.int .i64 (1)))))]⟩))))))
(.seq
(.reg ⟨[],[],[(2,.v (.c (.bool true)))]⟩)
.ret)))),
[(2,.v)]⟩
theorem c42:compFn Try.prog fresh sig [.fz,.fz] [] Try.f42=some p42:=by kernel_rfl
def p54:Fn:=⟨3,[0,1,2],
(.seq
(.reg ⟨[],[],[(1,.m [(.fld (.sz (.s 0) 10) 0),(.fld (.sz (.s 0) 10) 1),(.fld (.sz (.s 0) 10) 2),(.fld (.sz (.s 0) 10) 3),(.fld (.sz (.s 0) 10) 4),(.fld (.sz (.s 0) 10) 5),(.fld (.sz (.s 0) 10) 6),(.fld (.sz (.s 0) 10) 7),(.fld (.sz (.s 0) 10) 8),(.fld (.sz (.s 0) 10) 9)]),(2,.m [(.c (.int .u64 (0))),(.c (.int .i64 (0))),(.c (.int .i64 (0))),(.c (.int .i64 (0))),(.c (.int .i64 (0))),(.c (.int .i64 (0))),(.c (.int .i64 (0)))])]⟩)
(.seq
(.reg ⟨[],[],[(2,.m [(.fld (.ag [(.m 1 0),(.m 1 1),(.m 1 2),(.len (.m 1 5)),(.len (.m 1 6)),(.len (.m 1 7)),(.len (.m 1 8))]) 0),(.fld (.ag [(.m 1 0),(.m 1 1),(.m 1 2),(.len (.m 1 5)),(.len (.m 1 6)),(.len (.m 1 7)),(.len (.m 1 8))]) 1),(.fld (.ag [(.m 1 0),(.m 1 1),(.m 1 2),(.len (.m 1 5)),(.len (.m 1 6)),(.len (.m 1 7)),(.len (.m 1 8))]) 2),(.fld (.ag [(.m 1 0),(.m 1 1),(.m 1 2),(.len (.m 1 5)),(.len (.m 1 6)),(.len (.m 1 7)),(.len (.m 1 8))]) 3),(.fld (.ag [(.m 1 0),(.m 1 1),(.m 1 2),(.len (.m 1 5)),(.len (.m 1 6)),(.len (.m 1 7)),(.len (.m 1 8))]) 4),(.fld (.ag [(.m 1 0),(.m 1 1),(.m 1 2),(.len (.m 1 5)),(.len (.m 1 6)),(.len (.m 1 7)),(.len (.m 1 8))]) 5),(.fld (.ag [(.m 1 0),(.m 1 1),(.m 1 2),(.len (.m 1 5)),(.len (.m 1 6)),(.len (.m 1 7)),(.len (.m 1 8))]) 6)])]⟩)
.ret)),
[(2,(.ag 7))]⟩
theorem c54:compFn Try.prog fresh sig [.fz] [] Try.f54=some p54:=by kernel_rfl
def p79:Fn:=⟨4,[0,1,4,6],
(.seq
(.reg ⟨[],[],[(2,.v (.c (.int .i64 (0))))]⟩)
(.seq
(.seq
(.reg ⟨[],[],[(3,.v (.bin .lss (.s 0) (.c (.int .i64 (0)))))]⟩)
(.cond (.s 3)
 (.reg ⟨[],[],[(0,.v (.un .neg (.bin .add (.s 0) (.c (.int .i64 (1))))))]⟩)
 .skip))
(.seq
(.reg ⟨[],[],[(2,.v (.bin .rem (.s 0) (.s 1)))]⟩)
.ret))),
[(2,.v)]⟩
theorem c79:compFn Try.prog fresh sig [.fz,.fz] [] Try.f79=some p79:=by kernel_rfl
def p100:Fn:=⟨4,[0,1,4,6],
(.seq
(.reg ⟨[],[],[(2,.v (.c (.int .i64 (0))))]⟩)
(.seq
(.seq
(.reg ⟨[],[],[(3,.v (.bin .lss (.s 0) (.c (.int .i64 (0)))))]⟩)
(.cond (.s 3)
 (.reg ⟨[],[],[(0,.v (.un .neg (.bin .add (.s 0) (.c (.int .i64 (1))))))]⟩)
 .skip))
(.seq
(.reg ⟨[],[],[(2,.v (.bin .rem (.s 0) (.s 1)))]⟩)
.ret))),
[(2,.v)]⟩
theorem c100:compFn Try.prog fresh sig [.fz,.fz] [] Try.f100=some p100:=by kernel_rfl
end Vm
end
section
namespace Vm
open Go Go.Proofs
set_option maxRecDepth 100000
structure Hp where
 base:Int
 cap:Int
 to:Int
 cycle:Bool
 scan:Int
 low:List Int
 high:List Int
 old:List Int
 far:List Int
 roots:List Int
 deriving DecidableEq,Inhabited
def hpV(h:Hp):V:= .agg [vu h.base,vi h.cap,vi h.to,.bool h.cycle,vi h.scan,.sl (h.low.map vu),.sl (h.high.map vu),.sl (h.old.map vu),.sl (h.far.map vu),.sl (h.roots.map vu)]
@[simp] theorem szV_hpV(h:Hp):szV (hpV h) 10=some (hpV h):=rfl
@[simp] theorem hpV_cells(h:Hp):(hpV h).cells= [vu h.base,vi h.cap,vi h.to,.bool h.cycle,vi h.scan,.sl (h.low.map vu),.sl (h.high.map vu),.sl (h.old.map vu),.sl (h.far.map vu),.sl (h.roots.map vu)]:=rfl
@[simp] theorem fldV_hpV0(h:Hp):fldV (hpV h) 0=some (vu h.base):=rfl
@[simp] theorem fldV_hpV1(h:Hp):fldV (hpV h) 1=some (vi h.cap):=rfl
@[simp] theorem fldV_hpV2(h:Hp):fldV (hpV h) 2=some (vi h.to):=rfl
@[simp] theorem fldV_hpV3(h:Hp):fldV (hpV h) 3=some (.bool h.cycle):=rfl
@[simp] theorem fldV_hpV4(h:Hp):fldV (hpV h) 4=some (vi h.scan):=rfl
@[simp] theorem fldV_hpV5(h:Hp):fldV (hpV h) 5=some (.sl (h.low.map vu)):=rfl
@[simp] theorem fldV_hpV6(h:Hp):fldV (hpV h) 6=some (.sl (h.high.map vu)):=rfl
@[simp] theorem fldV_hpV7(h:Hp):fldV (hpV h) 7=some (.sl (h.old.map vu)):=rfl
@[simp] theorem fldV_hpV8(h:Hp):fldV (hpV h) 8=some (.sl (h.far.map vu)):=rfl
@[simp] theorem fldV_hpV9(h:Hp):fldV (hpV h) 9=some (.sl (h.roots.map vu)):=rfl
def layH(h:Hp):Ly:=⟨h.base,h.cap,h.to,h.low.length,h.high.length,h.old.length,h.far.length⟩
structure Hp.ok (h:Hp):Prop where
 base:U64 h.base
 cap:Fit h.cap
 to:Fit h.to
 scan:Fit h.scan
 low:h.low.length≤1000000
 high:h.high.length≤1000000
 old:h.old.length≤1000000
 far:h.far.length≤1000000
 roots:h.roots.length≤1000000
 lowW: ∀w∈h.low,U64 w
 highW: ∀w∈h.high,U64 w
 oldW: ∀w∈h.old,U64 w
 farW: ∀w∈h.far,U64 w
 rootsW: ∀w∈h.roots,U64 w
theorem fit_len{α:Type}{l:List α}(h:l.length≤1000000):Fit (l.length:Int):=⟨by omega,by omega⟩
theorem Hp.ok.lay{h:Hp}(hh:h.ok):(layH h).fits:=⟨hh.base,hh.cap,hh.to,fit_len hh.low,fit_len hh.high,fit_len hh.old,fit_len hh.far⟩
theorem Layout_vc{h:Hp}:VC Try.prog 54 false [hpV h] (lyV (layH h)):=by
 refine vc_of_wp Try.func54 follows (by kernel_rfl) c54 rfl ?_
 simp[p54,lyV,layH]
theorem refLayout_vc{h:Hp}:VC Try.prog 38 false [hpV h] (lyV (layH h)):=by
 refine vc_of_wp Try.func38 follows (by kernel_rfl) c38 rfl ?_
 simp[p38,lyV,layH]
def partH(h:Hp)(n:Int):List Int:=if n=1 then h.low else if n=2 then h.high else if n=3 then h.old else h.far
@[simp] theorem partH1(h:Hp):partH h 1=h.low:=rfl
@[simp] theorem partH2(h:Hp):partH h 2=h.high:=rfl
@[simp] theorem partH3(h:Hp):partH h 3=h.old:=rfl
@[simp] theorem partH4(h:Hp):partH h 4=h.far:=rfl
theorem Part_vc{h:Hp}{n:Int}:VC Try.prog 28 false [hpV h,vi n] (.sl ((partH h n).map vu)):=by
 refine vc_of_wp Try.func28 follows (by kernel_rfl) c28 rfl ?_
 by_cases h1:n=1
 ·simp[p28,partH,h1]
 by_cases h2:n=2
 ·simp[p28,partH,h2]
 by_cases h3:n=3<;>simp[p28,partH,h1,h2,h3]
def withH(h:Hp)(n:Int)(l:List Int):Hp:=if n=1 then {h with low:=l}else if n=2 then {h with high:=l}else if n=3 then {h with old:=l}else {h with far:=l}
@[simp] theorem withH1(h:Hp)(l:List Int):withH h 1 l= {h with low:=l}:=rfl
@[simp] theorem withH2(h:Hp)(l:List Int):withH h 2 l= {h with high:=l}:=rfl
@[simp] theorem withH3(h:Hp)(l:List Int):withH h 3 l= {h with old:=l}:=rfl
@[simp] theorem withH4(h:Hp)(l:List Int):withH h 4 l= {h with far:=l}:=rfl
theorem With_vc{h:Hp}{n:Int}{l:List Int}:VC Try.prog 27 false [hpV h,vi n,.sl (l.map vu)] (hpV (withH h n l)):=by
 refine vc_of_wp Try.func27 follows (by kernel_rfl) c27 rfl ?_
 by_cases h1:n=1
 ·simp[p27,withH,h1,hpV]
 by_cases h2:n=2
 ·simp[p27,withH,h2,hpV]
 by_cases h3:n=3<;>simp[p27,withH,h1,h2,h3,hpV]
theorem take_succ_eq{α:Type}{a b:List α}{i:Nat}(h:a.take i=b.take i)(hx:a[i]? =b[i]?):a.take (i+1)=b.take (i+1):=by
 rw[List.take_add_one,List.take_add_one,h,hx]
theorem ne_at{α:Type}{a b:List α}{i:Nat}(h:a[i]? ≠b[i]?):a≠b:=fun e=>h (by rw[e])
theorem nums_vc{a b:List Int}(ha:a.length≤1000000):VC Try.prog 42 false [.sl (a.map vu),.sl (b.map vu)] (.bool (decide (a=b))):=by
 refine vc_of_wp Try.func42 follows (by kernel_rfl) c42 rfl ?_
 by_cases hl:a.length=b.length
 ·simp[p42,hl]
  refine wpS_for0 4 b.length (fun i=>a.take i=b.take i) (by simp) (by simp) (by simp) ?_
  intro i hi heq
  have hw:=wrap_i ((i:Int)+1) (by omega) (by omega)
  by_cases h:i<b.length
  ·have h':i<a.length:=by omega
   by_cases hx:a[i]=b[i]
   ·simp[h,h',hx,hw]
    exact take_succ_eq heq (by simp[h,h',hx])
   ·simp[h,h',hx]
    exact ne_at (i:=i) (by simp[h,h',hx])
  ·have:i=b.length:=by omega
   subst this
   rw[List.take_length,List.take_of_length_le (by omega)]at heq
   simp[heq]
 ·simp[p42,show ¬((a.length:Int)=(b.length:Int))by omega]
  intro e;subst e;exact hl rfl
theorem sameH_vc{a b:Hp}(ha:a.ok):VC Try.prog 22 false [hpV a,hpV b] (.bool (decide (a=b))):=by
 refine vc_of_wp Try.func22 follows (by kernel_rfl) c22 rfl ?_
 simp[p22]
 have hp: ∀k,(partH a k).length≤1000000:=fun k=>by
  unfold partH
  split
  ·exact ha.low
  split
  ·exact ha.high
  split
  ·exact ha.old
  ·exact ha.far
 by_cases g1:a.base=b.base
 case neg=>
  have:a≠b:=fun e=>g1 (by rw[e])
  simp[g1,this]
 by_cases g2:a.cap=b.cap
 case neg=>
  have:a≠b:=fun e=>g2 (by rw[e])
  simp[g1,g2,this]
 by_cases g3:a.to=b.to
 case neg=>
  have:a≠b:=fun e=>g3 (by rw[e])
  simp[g1,g2,g3,this]
 by_cases g4:a.cycle=b.cycle
 case neg=>
  have:a≠b:=fun e=>g4 (by rw[e])
  have g4':(a.cycle==b.cycle)=false:=by simpa using g4
  simp[g1,g2,g3,g4,g4',this]
 by_cases g5:a.scan=b.scan
 case neg=>
  have:a≠b:=fun e=>g5 (by rw[e])
  simp[g1,g2,g3,g4,g5,this]
 simp[g1,g2,g3,g4,g5]
 refine wpS_loopP (fun(i:Nat)=> [(6,.v (vi ((i+1:Nat):Int)))]) (fun i=>i≤4∧(0<i→a.low=b.low)∧(1<i→a.high=b.high)∧(2<i→a.old=b.old)∧(3<i→a.far=b.far)) (cnt 6 5) 0 (by simp) (by simp) ?_
 rintro i ⟨hi,i1,i2,i3,i4⟩
 have hi':i=0∨i=1∨i=2∨i=3∨i=4:=by omega
 rcases hi' with rfl|rfl|rfl|rfl|rfl
 ·simp
  refine callW_of (Part_vc (h:=⟨b.base,b.cap,b.to,b.cycle,b.scan,a.low,a.high,a.old,a.far,a.roots⟩) (n:=1)) (by simp[hpV]) ?_
  simp
  refine callW_of (Part_vc (h:=b) (n:=1)) (by simp[hpV]) ?_
  simp
  refine callW_of (nums_vc (b:=b.low) (hp 1)) (by simp) ?_
  by_cases hx:a.low=b.low
  ·simp[hx,wrap_i]
   exact⟨1,by simp[hx],by simp,by simp[cnt]⟩
  ·have:a≠b:=fun e=>hx (by rw[e])
   simp[hx,this]
 ·simp
  refine callW_of (Part_vc (h:=⟨b.base,b.cap,b.to,b.cycle,b.scan,a.low,a.high,a.old,a.far,a.roots⟩) (n:=2)) (by simp[hpV]) ?_
  simp
  refine callW_of (Part_vc (h:=b) (n:=2)) (by simp[hpV]) ?_
  simp
  refine callW_of (nums_vc (b:=b.high) (hp 2)) (by simp) ?_
  by_cases hx:a.high=b.high
  ·simp[hx,wrap_i]
   exact⟨2,by simp[hx,i1 (by omega)],by simp,by simp[cnt]⟩
  ·have:a≠b:=fun e=>hx (by rw[e])
   simp[hx,this]
 ·simp
  refine callW_of (Part_vc (h:=⟨b.base,b.cap,b.to,b.cycle,b.scan,a.low,a.high,a.old,a.far,a.roots⟩) (n:=3)) (by simp[hpV]) ?_
  simp
  refine callW_of (Part_vc (h:=b) (n:=3)) (by simp[hpV]) ?_
  simp
  refine callW_of (nums_vc (b:=b.old) (hp 3)) (by simp) ?_
  by_cases hx:a.old=b.old
  ·simp[hx,wrap_i]
   exact⟨3,by simp[hx,i1 (by omega),i2 (by omega)],by simp,by simp[cnt]⟩
  ·have:a≠b:=fun e=>hx (by rw[e])
   simp[hx,this]
 ·simp
  refine callW_of (Part_vc (h:=⟨b.base,b.cap,b.to,b.cycle,b.scan,a.low,a.high,a.old,a.far,a.roots⟩) (n:=4)) (by simp[hpV]) ?_
  simp
  refine callW_of (Part_vc (h:=b) (n:=4)) (by simp[hpV]) ?_
  simp
  refine callW_of (nums_vc (b:=b.far) (hp 4)) (by simp) ?_
  by_cases hx:a.far=b.far
  ·simp[hx,wrap_i]
   exact⟨4,by simp[hx,i1 (by omega),i2 (by omega),i3 (by omega)],by simp,by simp[cnt]⟩
  ·have:a≠b:=fun e=>hx (by rw[e])
   simp[hx,this]
 ·simp
  refine callW_of (nums_vc (b:=b.roots) ha.roots) (by simp) ?_
  by_cases hx:a.roots=b.roots
  ·have:a=b:=by
    have h1:=i1 (by omega)
    have h2:=i2 (by omega)
    have h3:=i3 (by omega)
    have h4:=i4 (by omega)
    obtain⟨_,_,_,_,_,_,_,_,_,_⟩:=a
    obtain⟨_,_,_,_,_,_,_,_,_,_⟩:=b
    simp only at g1 g2 g3 g4 g5 h1 h2 h3 h4 hx
    subst g1 g2 g3 g4 g5 h1 h2 h3 h4 hx
    rfl
   subst this
   simp
  ·have:a≠b:=fun e=>hx (by rw[e])
   simp[hx,this]
def pick(c n:Int):Int:=(if c<0 then-(c+1)else c) %n
theorem pick_lt{c n:Int}(hn:0<n):0≤pick c n∧pick c n<n:=⟨Int.emod_nonneg _ (by omega),Int.emod_lt_of_pos _ hn⟩
theorem pick11_vc{c n:Int}(hc:Fit c)(hn:0<n):VC Try.prog 29 false [vi c,vi n] (vi (pick c n)):=by
 refine vc_of_wp Try.func29 follows (by kernel_rfl) c29 rfl ?_
 obtain⟨h1,h2⟩:=hc
 by_cases h:c<0
 ·simp[p29,h]
  simp(disch:=omega) only[wrap_i]
  refine⟨by omega,?_⟩
  unfold pick
  rw[if_pos h,Int.tmod_eq_emod_of_nonneg (by omega)]
 ·simp[p29,h]
  refine⟨by omega,?_⟩
  unfold pick
  rw[if_neg h,Int.tmod_eq_emod_of_nonneg (by omega)]
theorem pick08_vc{c n:Int}(hc:Fit c)(hn:0<n):VC Try.prog 100 false [vi c,vi n] (vi (pick c n)):=by
 refine vc_of_wp Try.func100 follows (by kernel_rfl) c100 rfl ?_
 obtain⟨h1,h2⟩:=hc
 by_cases h:c<0
 ·simp[p100,h]
  simp(disch:=omega) only[wrap_i]
  refine⟨by omega,?_⟩
  unfold pick
  rw[if_pos h,Int.tmod_eq_emod_of_nonneg (by omega)]
 ·simp[p100,h]
  refine⟨by omega,?_⟩
  unfold pick
  rw[if_neg h,Int.tmod_eq_emod_of_nonneg (by omega)]
theorem pick20_vc{c n:Int}(hc:Fit c)(hn:0<n):VC Try.prog 79 false [vi c,vi n] (vi (pick c n)):=by
 refine vc_of_wp Try.func79 follows (by kernel_rfl) c79 rfl ?_
 obtain⟨h1,h2⟩:=hc
 by_cases h:c<0
 ·simp[p79,h]
  simp(disch:=omega) only[wrap_i]
  refine⟨by omega,?_⟩
  unfold pick
  rw[if_pos h,Int.tmod_eq_emod_of_nonneg (by omega)]
 ·simp[p79,h]
  refine⟨by omega,?_⟩
  unfold pick
  rw[if_neg h,Int.tmod_eq_emod_of_nonneg (by omega)]
end Vm
end
section
namespace Vm
open Go
open Go.Proofs
set_option maxRecDepth 100000
def p84:Fn:=⟨13,[0,1,4,5,6,7,16,8,9,30,10,78,97],
(.seq
(.reg ⟨[],[],[(2,.m [(.c (.sl [])),(.c (.sl []))])]⟩)
(.seq
(.reg ⟨[],[],[(3,.v (.mn (.len (.s 0)) (.c (.int .i64 (10)))))]⟩)
(.seq
(.reg ⟨[],[],[(4,.m [(.c (.sl [])),(.c (.sl []))])]⟩)
(.seq
(.seq
(.reg ⟨[],[],[(5,.v (.c (.int .i64 (0))))]⟩)
(.block 0
 (.loop [0,1,2,3,4,5]
  (.seq
  (.seq
  (.reg ⟨[],[],[(6,.v (.bin .lss (.s 5) (.s 3)))]⟩)
  (.cond (.s 6)
   .skip
   (.exit 0)))
  (.seq
  (.block 1
   (.seq
   (.reg ⟨[],[],[(7,.m [(.c (.sl [])),(.c (.sl []))])]⟩)
   (.seq
   (.seq
   (.reg ⟨[],[],[(8,.v (.c (.int .i64 (0))))]⟩)
   (.block 2
    (.loop [0,1,2,3,4,5,6,7,8]
     (.seq
     (.seq
     (.reg ⟨[.lt 13 [] (.bin .lss (.s 8) (.len (.fld (.idx (.s 0) (.s 5) 2) 0)))],[([(13,true)],(.bin .lss (.s 8) (.c (.int .i64 (4)))))],[(9,.v (.ite (.s 13) (.bin .lss (.s 8) (.c (.int .i64 (4)))) (.c (.bool false))))]⟩)
     (.cond (.s 9)
      .skip
      (.exit 2)))
     (.seq
     (.block 3
      (.reg ⟨[.call 14 [] (.id 100) false false [(.fld (.idx (.fld (.idx (.s 0) (.s 5) 2) 0) (.s 8) 1) 0),(.bin .add (.s 3) (.c (.int .i64 (1))))]],[],[(7,.m [(.app (.m 7 0) (.lit [(.bin .sub (.s 14) (.c (.int .i64 (1))))]) 1),(.m 7 1)])]⟩))
     (.reg ⟨[],[],[(8,.v (.bin .add (.s 8) (.c (.int .i64 (1)))))]⟩))))))
   (.seq
   (.reg ⟨[],[],[(7,.m [(.m 7 0),(.app (.c (.sl [])) (.slc (.fld (.idx (.s 0) (.s 5) 2) 1) (.c (.int .i64 (0))) (.mn (.len (.fld (.idx (.s 0) (.s 5) 2) 1)) (.c (.int .i64 (4)))) 1) 1)])]⟩)
   (.reg ⟨[],[],[(4,.m [(.app (.m 4 0) (.lit [(.mm 7 0 2)]) 2),(.m 4 1)])]⟩)))))
  (.reg ⟨[],[],[(5,.v (.bin .add (.s 5) (.c (.int .i64 (1)))))]⟩))))))
(.seq
(.seq
(.reg ⟨[],[],[(10,.v (.c (.int .i64 (0))))]⟩)
(.block 4
 (.loop [0,1,2,3,4,5,6,10]
  (.seq
  (.seq
  (.reg ⟨[.lt 15 [] (.bin .lss (.s 10) (.len (.s 1)))],[([(15,true)],(.bin .lss (.s 10) (.c (.int .i64 (5)))))],[(11,.v (.ite (.s 15) (.bin .lss (.s 10) (.c (.int .i64 (5)))) (.c (.bool false))))]⟩)
  (.cond (.s 11)
   .skip
   (.exit 4)))
  (.seq
  (.block 5
   (.reg ⟨[.call 16 [] (.id 100) false false [(.fld (.idx (.s 1) (.s 10) 1) 0),(.bin .add (.s 3) (.c (.int .i64 (1))))]],[],[(4,.m [(.m 4 0),(.app (.m 4 1) (.lit [(.bin .sub (.s 16) (.c (.int .i64 (1))))]) 1)])]⟩))
  (.reg ⟨[],[],[(10,.v (.bin .add (.s 10) (.c (.int .i64 (1)))))]⟩))))))
(.seq
(.seq
(.reg ⟨[],[],[(12,.v (.bin .eql (.len (.m 4 1)) (.c (.int .i64 (0)))))]⟩)
(.cond (.s 12)
 (.reg ⟨[],[],[(4,.m [(.m 4 0),(.app (.m 4 1) (.lit [(.bin .sub (.s 3) (.c (.int .i64 (1))))]) 1)])]⟩)
 .skip))
(.seq
(.reg ⟨[],[],[(2,.m [(.fld (.mm 4 0 2) 0),(.fld (.mm 4 0 2) 1)])]⟩)
.ret))))))),
[(2,(.ag 2))]⟩
theorem c84:compFn Try.prog fresh sig [.fz,.fz] [] Try.f84=some p84:=by kernel_rfl
def p85:Fn:=⟨10,[0,1,2,3,6,7,8,14,9,31],
(.seq
(.reg ⟨[],[],[(3,.m [(.fld (.sz (.s 0) 7) 0),(.fld (.sz (.s 0) 7) 1),(.fld (.sz (.s 0) 7) 2),(.fld (.sz (.s 0) 7) 3),(.fld (.sz (.s 0) 7) 4),(.fld (.sz (.s 0) 7) 5),(.fld (.sz (.s 0) 7) 6)]),(4,.v (.c (.int .i64 (0)))),(5,.v (.c (.bool false)))]⟩)
(.seq
(.reg ⟨[],[],[(6,.v (.s 1))]⟩)
(.seq
(.seq
(.reg ⟨[],[],[(7,.v (.bin .gtr (.len (.m 3 2)) (.c (.int .i64 (0)))))]⟩)
(.cond (.s 7)
 (.reg ⟨[],[],[(6,.v (.fld (.idx (.m 3 2) (.bin .rem (.s 1) (.len (.m 3 2))) 1) 0))]⟩)
 .skip))
(.seq
(.reg ⟨[.call 10 [] (.id 29) false false [(.s 6),(.c (.int .i64 (3)))]],[],[(8,.v (.s 10))]⟩)
(.seq
(.seq
(.reg ⟨[.lt 11 [] (.bin .eql (.s 8) (.c (.int .i64 (2))))],[([(11,true)],(.un .not (.s 2)))],[(9,.v (.ite (.s 11) (.un .not (.s 2)) (.c (.bool false))))]⟩)
(.cond (.s 9)
 (.reg ⟨[],[],[(8,.v (.c (.int .i64 (1))))]⟩)
 .skip))
(.seq
(.reg ⟨[.call 12 [] (.id 29) false false [(.bin .quo (.s 6) (.c (.int .i64 (3)))),(.c (.int .i64 (2)))]],[],[(4,.v (.s 8)),(5,.v (.bin .eql (.s 12) (.c (.int .i64 (1)))))]⟩)
.ret)))))),
[(4,.v),(5,.v)]⟩
theorem c85:compFn Try.prog fresh sig [.fz,.fz,.fz] [] Try.f85=some p85:=by kernel_rfl
def p86:Fn:=⟨15,[0,1,2,3,4,5,6,8,9,10,11,12,44,13,76],
(.seq
(.reg ⟨[],[],[(4,.m [(.fld (.sz (.s 0) 14) 0),(.fld (.sz (.s 0) 14) 1),(.fld (.sz (.s 0) 14) 2),(.fld (.sz (.s 0) 14) 3),(.fld (.sz (.s 0) 14) 4),(.fld (.sz (.s 0) 14) 5),(.fld (.sz (.s 0) 14) 6),(.fld (.sz (.s 0) 14) 7),(.fld (.sz (.s 0) 14) 8),(.fld (.sz (.s 0) 14) 9),(.fld (.sz (.s 0) 14) 10),(.fld (.sz (.s 0) 14) 11),(.fld (.sz (.s 0) 14) 12),(.fld (.sz (.s 0) 14) 13)]),(5,.m [(.fld (.sz (.s 1) 2) 0),(.fld (.sz (.s 1) 2) 1)]),(6,.m [(.fld (.sz (.s 2) 2) 0),(.fld (.sz (.s 2) 2) 1)]),(7,.m [(.c (.int .u64 (0))),(.c (.int .i64 (0))),(.c (.int .i64 (0))),(.c (.bool false)),(.c (.int .i64 (0))),(.c (.sl [])),(.c (.sl [])),(.c (.sl [])),(.c (.sl [])),(.c (.sl [])),(.c (.sl [])),(.c (.sl [])),(.c (.sl [])),(.c (.sl []))])]⟩)
(.seq
(.reg ⟨[.call 15 [] (.id 28) false false [(.mm 4 0 10),(.m 5 0)]],[],[(8,.v (.app (.c (.sl [])) (.s 15) 1))]⟩)
(.seq
(.reg ⟨[.call 16 [] (.id 92) false false [(.ag [(.bin .add (.len (.m 6 0)) (.len (.m 6 1))),(.len (.m 6 0))])]],[],[(9,.v (.ext (.s 16) 0)),(10,.v (.ext (.s 16) 1))]⟩)
(.seq
(.reg ⟨[],[([],(.idx (.s 8) (.m 5 1) 1))],[(8,.v (.upd (.s 8) (.m 5 1) 0 (.one (.s 9))))]⟩)
(.seq
(.seq
(.reg ⟨[],[],[(11,.v (.c (.int .i64 (0))))]⟩)
(.block 0
 (.loop [0,1,2,3,4,5,6,7,8,9,10,11]
  (.seq
  (.seq
  (.reg ⟨[],[],[(12,.v (.bin .lss (.s 11) (.len (.m 6 0))))]⟩)
  (.cond (.s 12)
   .skip
   (.exit 0)))
  (.seq
  (.block 1
   (.reg ⟨[.call 17 [] (.id 101) false false [(.mm 4 0 14),(.ag [(.m 5 0),(.bin .add (.bin .add (.m 5 1) (.c (.int .i64 (1)))) (.s 11))]),(.fld (.idx (.m 6 0) (.s 11) 1) 0),(.bin .add (.s 3) (.s 11))]],[([],(.idx (.s 8) (.bin .add (.bin .add (.m 5 1) (.c (.int .i64 (1)))) (.s 11)) 1))],[(8,.v (.upd (.s 8) (.bin .add (.bin .add (.m 5 1) (.c (.int .i64 (1)))) (.s 11)) 0 (.one (.s 17))))]⟩))
  (.reg ⟨[],[],[(11,.v (.bin .add (.s 11) (.c (.int .i64 (1)))))]⟩))))))
(.seq
(.seq
(.reg ⟨[],[],[(13,.v (.c (.int .i64 (0))))]⟩)
(.block 2
 (.loop [0,1,2,3,4,5,6,7,8,9,10,11,12,13]
  (.seq
  (.seq
  (.reg ⟨[],[],[(14,.v (.bin .lss (.s 13) (.len (.m 6 1))))]⟩)
  (.cond (.s 14)
   .skip
   (.exit 2)))
  (.seq
  (.block 3
   (.reg ⟨[],[([],(.idx (.s 8) (.bin .add (.bin .add (.bin .add (.m 5 1) (.c (.int .i64 (1)))) (.len (.m 6 0))) (.s 13)) 1))],[(8,.v (.upd (.s 8) (.bin .add (.bin .add (.bin .add (.m 5 1) (.c (.int .i64 (1)))) (.len (.m 6 0))) (.s 13)) 0 (.fld (.idx (.m 6 1) (.s 13) 1) 0)))]⟩))
  (.reg ⟨[],[],[(13,.v (.bin .add (.s 13) (.c (.int .i64 (1)))))]⟩))))))
(.seq
(.reg ⟨[.call 18 [] (.id 27) false false [(.mm 4 0 10),(.m 5 0),(.s 8)]],[],[(4,.m [(.fld (.sz (.s 18) 10) 0),(.fld (.sz (.s 18) 10) 1),(.fld (.sz (.s 18) 10) 2),(.fld (.sz (.s 18) 10) 3),(.fld (.sz (.s 18) 10) 4),(.fld (.sz (.s 18) 10) 5),(.fld (.sz (.s 18) 10) 6),(.fld (.sz (.s 18) 10) 7),(.fld (.sz (.s 18) 10) 8),(.fld (.sz (.s 18) 10) 9),(.m 4 10),(.m 4 11),(.m 4 12),(.m 4 13)])]⟩)
(.seq
(.reg ⟨[],[],[(7,.m [(.fld (.mm 4 0 14) 0),(.fld (.mm 4 0 14) 1),(.fld (.mm 4 0 14) 2),(.fld (.mm 4 0 14) 3),(.fld (.mm 4 0 14) 4),(.fld (.mm 4 0 14) 5),(.fld (.mm 4 0 14) 6),(.fld (.mm 4 0 14) 7),(.fld (.mm 4 0 14) 8),(.fld (.mm 4 0 14) 9),(.fld (.mm 4 0 14) 10),(.fld (.mm 4 0 14) 11),(.fld (.mm 4 0 14) 12),(.fld (.mm 4 0 14) 13)])]⟩)
.ret)))))))),
[(7,(.ag 14))]⟩
theorem c86:compFn Try.prog fresh sig [.fz,.fz,.fz,.fz] [] Try.f86=some p86:=by kernel_rfl
def p87:Fn:=⟨10,[0,1,2,3,4,11,5,6,7,8],
(.seq
(.reg ⟨[],[],[(2,.m [(.fld (.sz (.s 0) 14) 0),(.fld (.sz (.s 0) 14) 1),(.fld (.sz (.s 0) 14) 2),(.fld (.sz (.s 0) 14) 3),(.fld (.sz (.s 0) 14) 4),(.fld (.sz (.s 0) 14) 5),(.fld (.sz (.s 0) 14) 6),(.fld (.sz (.s 0) 14) 7),(.fld (.sz (.s 0) 14) 8),(.fld (.sz (.s 0) 14) 9),(.fld (.sz (.s 0) 14) 10),(.fld (.sz (.s 0) 14) 11),(.fld (.sz (.s 0) 14) 12),(.fld (.sz (.s 0) 14) 13)]),(3,.m [(.fld (.sz (.s 1) 2) 0),(.fld (.sz (.s 1) 2) 1)]),(4,.v (.c (.int .u64 (0))))]⟩)
(.seq
(.seq
(.reg ⟨[],[],[(5,.v (.bin .eql (.m 3 0) (.c (.int .i64 (0)))))]⟩)
(.cond (.s 5)
 (.seq
 (.reg ⟨[],[],[(4,.v (.c (.int .u64 (0))))]⟩)
 .ret)
 .skip))
(.seq
(.reg ⟨[.call 10 [] (.id 38) false false [(.mm 2 0 10)],.call 11 [] (.id 37) false false [(.s 10),(.mm 3 0 2)]],[],[(6,.v (.ext (.s 11) 0)),(7,.v (.ext (.s 11) 1))]⟩)
(.seq
(.reg ⟨[.call 12 [] (.id 83) false false [(.s 6)]],[],[(8,.v (.ext (.s 12) 0)),(9,.v (.ext (.s 12) 1))]⟩)
(.seq
(.reg ⟨[],[],[(4,.v (.s 8))]⟩)
.ret))))),
[(4,.v)]⟩
theorem c87:compFn Try.prog fresh sig [.fz,.fz] [] Try.f87=some p87:=by kernel_rfl
def p101:Fn:=⟨10,[0,1,2,3,4,5,8,10,13,54],
(.seq
(.reg ⟨[],[],[(4,.m [(.fld (.sz (.s 0) 14) 0),(.fld (.sz (.s 0) 14) 1),(.fld (.sz (.s 0) 14) 2),(.fld (.sz (.s 0) 14) 3),(.fld (.sz (.s 0) 14) 4),(.fld (.sz (.s 0) 14) 5),(.fld (.sz (.s 0) 14) 6),(.fld (.sz (.s 0) 14) 7),(.fld (.sz (.s 0) 14) 8),(.fld (.sz (.s 0) 14) 9),(.fld (.sz (.s 0) 14) 10),(.fld (.sz (.s 0) 14) 11),(.fld (.sz (.s 0) 14) 12),(.fld (.sz (.s 0) 14) 13)]),(5,.m [(.fld (.sz (.s 1) 2) 0),(.fld (.sz (.s 1) 2) 1)]),(6,.v (.c (.int .u64 (0))))]⟩)
(.seq
(.seq
(.reg ⟨[],[],[(7,.v (.bin .lss (.s 2) (.c (.int .i64 (0)))))]⟩)
(.cond (.s 7)
 (.seq
 (.reg ⟨[],[],[(6,.v (.c (.int .u64 (0))))]⟩)
 .ret)
 .skip))
(.seq
(.seq
(.reg ⟨[],[],[(8,.v (.bin .gtr (.m 5 0) (.c (.int .i64 (2)))))]⟩)
(.cond (.s 8)
 (.seq
 (.reg ⟨[.call 10 [] (.id 87) false false [(.mm 4 0 14),(.flds (.idx (.m 4 13) (.s 2) 2) 0 2)]],[],[(6,.v (.s 10))]⟩)
 .ret)
 .skip))
(.seq
(.seq
(.reg ⟨[.lt 11 [] (.bin .eql (.m 5 0) (.c (.int .i64 (1)))),.lt 12 [] (.ite (.s 11) (.bin .geq (.m 5 1) (.m 4 4)) (.c (.bool false))),.lt 13 [(12,true)] (.bin .eql (.fld (.idx (.m 4 12) (.s 2) 2) 0) (.c (.int .i64 (0)))),.lt 14 [(12,true),(13,false)] (.bin .gtr (.fld (.idx (.m 4 13) (.s 2) 2) 0) (.c (.int .i64 (0))))],[([(11,true)],(.bin .geq (.m 5 1) (.m 4 4))),([(12,true),(13,false),(14,true)],(.bin .eql (.bin .rem (.s 3) (.c (.int .i64 (2)))) (.c (.int .i64 (0))))),([(12,true),(13,false)],(.ite (.s 14) (.bin .eql (.bin .rem (.s 3) (.c (.int .i64 (2)))) (.c (.int .i64 (0)))) (.c (.bool false)))),([(12,true)],(.ite (.s 13) (.c (.bool true)) (.ite (.s 14) (.bin .eql (.bin .rem (.s 3) (.c (.int .i64 (2)))) (.c (.int .i64 (0)))) (.c (.bool false)))))],[(9,.v (.ite (.s 12) (.ite (.s 13) (.c (.bool true)) (.ite (.s 14) (.bin .eql (.bin .rem (.s 3) (.c (.int .i64 (2)))) (.c (.int .i64 (0)))) (.c (.bool false)))) (.c (.bool false))))]⟩)
(.cond (.s 9)
 (.seq
 (.reg ⟨[.call 15 [] (.id 87) false false [(.mm 4 0 14),(.flds (.idx (.m 4 13) (.s 2) 2) 0 2)]],[],[(6,.v (.s 15))]⟩)
 .ret)
 .skip))
(.seq
(.reg ⟨[.call 16 [] (.id 87) false false [(.mm 4 0 14),(.flds (.idx (.m 4 12) (.s 2) 2) 0 2)]],[],[(6,.v (.s 16))]⟩)
.ret))))),
[(6,.v)]⟩
theorem c101:compFn Try.prog fresh sig [.fz,.fz,.fz,.fz] [] Try.f101=some p101:=by kernel_rfl
end Vm
end
section
namespace Vm
open Go Go.Proofs
set_option maxRecDepth 100000
structure Nd where
 ptrs:List Int
 data:List Int
 deriving DecidableEq,Inhabited
structure Gr where
 nodes:List Nd
 roots:List Int
 deriving DecidableEq,Inhabited
def ndV(n:Nd):V:= .agg [.sl (n.ptrs.map vi),.sl (n.data.map vu)]
def grV(g:Gr):V:= .agg [.sl (g.nodes.map ndV),.sl (g.roots.map vi)]
@[simp] theorem ndV_cells(n:Nd):(ndV n).cells= [.sl (n.ptrs.map vi),.sl (n.data.map vu)]:=rfl
@[simp] theorem sizeOk_ndV(l:List Nd):sizeOk 2 (l.map ndV)=true:=sizeOk_map fun _=>rfl
@[simp] theorem fldsV_ndV(n:Nd):fldsV (ndV n) 0 2=some (ndV n):=rfl
@[simp] theorem fldV_ndV0(n:Nd):fldV (ndV n) 0=some (.sl (n.ptrs.map vi)):=rfl
@[simp] theorem fldV_ndV1(n:Nd):fldV (ndV n) 1=some (.sl (n.data.map vu)):=rfl
@[simp] theorem szV_ndV(n:Nd):szV (ndV n) 2=some (ndV n):=rfl
@[simp] theorem fldsV_grV(g:Gr):fldsV (grV g) 0 2=some (grV g):=rfl
@[simp] theorem fldV_grV0(g:Gr):fldV (grV g) 0=some (.sl (g.nodes.map ndV)):=rfl
@[simp] theorem fldV_grV1(g:Gr):fldV (grV g) 1=some (.sl (g.roots.map vi)):=rfl
@[simp] theorem szV_grV(g:Gr):szV (grV g) 2=some (grV g):=rfl
@[simp] theorem grV_cells(g:Gr):(grV g).cells= [.sl (g.nodes.map ndV),.sl (g.roots.map vi)]:=rfl
@[simp] theorem slcV_zero{k:IntKind}{l:List V}(j n:Nat):slcV n (.sl l) (.int k 0) (.int k (j:Int))=if j≤l.length∧sizeOk n l=true then some (.sl (l.take j))else none:=by
 have:=slcV_nat (k:=k) (l:=l) 0 j n
 simpa using this
def rp(n:Nat)(p:Int):Int:=pick p (n+1) -1
def mkNd(n:Nat)(x:Nd):Nd:=⟨(x.ptrs.take 4).map (rp n),x.data.take 4⟩
def mkN(l:List Nd):Nat:=min l.length 10
def mkG(l:List Nd)(roots:List Int):Gr:=⟨(l.take (mkN l)).map (mkNd (mkN l)),if roots.take 5= []then [(mkN l:Int) -1]else(roots.take 5).map (rp (mkN l))⟩
theorem Graph_vc{l:List Nd}{roots:List Int}(hl: ∀x∈l,∀p∈x.ptrs,Fit p)(hr: ∀p∈roots,Fit p):VC Try.prog 84 false [.sl (l.map ndV),.sl (roots.map vi)] (grV (mkG l roots)):=by
 refine vc_of_wp Try.func84 follows (by kernel_rfl) c84 rfl ?_
 have hn10:mkN l≤10:=by unfold mkN;omega
 have hnl:mkN l≤l.length:=by unfold mkN;omega
 have hmin:(if(10:Int) < (l.length:Int)then(10:Int)else(l.length:Int))=(mkN l:Int):=by
  unfold mkN;split<;>omega
 simp[p84,hmin]
 generalize hn:mkN l=n at*
 have hwn:=wrap_i ((n:Int)+1) (by omega) (by omega)
 refine wpS_loop (fun t=> ∃i:Nat,i≤n∧t= [.v (.sl (l.map ndV)),.v (.sl (roots.map vi)),.m [.sl [],.sl []],.v (vi n),.m [.sl (((l.take i).map (mkNd n)).map ndV),.sl []],.v (vi i)]) (fun t=>match get t 5 with| .v (.int _ i)=>n-i.toNat|_=>0) ?_ ?_
 ·exact⟨0,by simp,by simp⟩
 ·rintro t ⟨i,hi,rfl⟩
  have hw:=wrap_i ((i:Int)+1) (by omega) (by omega)
  by_cases h:i<n
  ·have hil:i<l.length:=by omega
   have hx:l[i]? =some l[i]:=List.getElem?_eq_getElem hil
   simp[h]
   generalize hnd:l[i]=x at hx
   have hxp: ∀p∈x.ptrs,Fit p:=hl x (List.mem_of_getElem? hx)
   have hdm:(if(4:Int) < (x.data.length:Int)then(4:Int)else(x.data.length:Int))=((min x.data.length 4:Nat):Int):=by split<;>omega
   refine wpS_loop (fun t=> ∃k:Nat,k≤x.ptrs.length∧k≤4∧t= [.v (.sl (l.map ndV)),.v (.sl (roots.map vi)),.m [.sl [],.sl []],.v (vi n),.m [.sl (((l.take i).map (mkNd n)).map ndV),.sl []],.v (vi i),.v (.bool true),.m [.sl (((x.ptrs.take k).map (rp n)).map vi),.sl []],.v (vi k)]) (fun t=>match get t 8 with| .v (.int _ i)=>4-i.toNat|_=>0) ?_ ?_
   ·exact⟨0,by simp,by simp,by simp⟩
   ·rintro t ⟨k,hk,hk4,rfl⟩
    have hwk:=wrap_i ((k:Int)+1) (by omega) (by omega)
    by_cases h4:k<x.ptrs.length∧k<4
    ·obtain⟨ha,hb⟩:=h4
     have hp:x.ptrs[k]? =some x.ptrs[k]:=List.getElem?_eq_getElem ha
     have hkb:(k:Int) <4:=by omega
     simp[hil,hnd,ha,hkb,hwn]
     refine callW_of (pick08_vc (hxp _ (List.getElem_mem ha)) (by omega)) (by simp) ?_
     have hpl:=pick_lt (c:=x.ptrs[k]) (n:=(n:Int)+1) (by omega)
     have hwp:=wrap_i (pick x.ptrs[k] ((n:Int)+1) -1) (by omega) (by omega)
     simp[hwk,hwp]
     refine⟨by simp[lim];omega,⟨k+1,by omega,by omega,?_,by simp⟩,by omega⟩
     rw[List.take_add_one,List.getElem?_map,hp]
     rfl
    ·have hend:(x.ptrs.take k)=x.ptrs.take 4:=by
      by_cases ha:k<x.ptrs.length
      ·have:k=4:=by omega
       rw[this]
      ·rw[List.take_of_length_le (by omega),List.take_of_length_le (by omega)]
     have hfin:(l.take (i+1)).map (ndV∘mkNd n)=(l.take i).map (ndV∘mkNd n)++ [V.agg [.sl ((x.ptrs.take k).map (vi∘rp n)),.sl ((x.data.take (min x.data.length 4)).map vu)]]:=by
      rw[List.take_add_one,hx,List.map_append,hend]
      have hmd:x.data.take (min x.data.length 4)=x.data.take 4:=by
       by_cases hd:x.data.length≤4
       ·rw[List.take_of_length_le (by omega),List.take_of_length_le (by omega)]
       ·congr 1;omega
      rw[hmd]
      simp[ndV,mkNd]
     have hsz:sizeOk 1 ((x.data.take (min x.data.length 4)).map vu)=true:=sizeOk_vi _
     have hl1:min x.data.length 4≤lim:=by simp[lim];omega
     have hl2:min i l.length+1≤lim:=by simp[lim];omega
     have hl3:min x.data.length 4≤x.data.length:=by omega
     simp only[List.map_take]at hfin hsz
     have hkb:k<x.ptrs.length→ ¬(k:Int) <4:=by omega
     by_cases ha:k<x.ptrs.length
     all_goals (
      simp[hil,hnd,ha,hkb,hdm,hl1,hl2,hsz,hw,hl3]
      exact⟨⟨i+1,by omega,hfin.symm,by simp⟩,by omega⟩)
  ·have:i=n:=by omega
   subst this
   simp
   have hwn1:=wrap_i ((i:Int) -1) (by omega) (by omega)
   refine wpS_loop (fun t=> ∃k:Nat,k≤roots.length∧k≤5∧t= [.v (.sl (l.map ndV)),.v (.sl (roots.map vi)),.m [.sl [],.sl []],.v (vi i),.m [.sl ((l.take i).map (ndV∘mkNd i)),.sl ((roots.take k).map (vi∘rp i))],.v (vi i),.v (.bool false),.no,.no,.no,.v (vi k)]) (fun t=>match get t 10 with| .v (.int _ i)=>5-i.toNat|_=>0) ?_ ?_
   ·exact⟨0,by simp,by simp,by simp⟩
   ·rintro t ⟨k,hk,hk5,rfl⟩
    have hwk:=wrap_i ((k:Int)+1) (by omega) (by omega)
    by_cases h5:k<roots.length∧k<5
    ·obtain⟨ha,hb⟩:=h5
     have hp:roots[k]? =some roots[k]:=List.getElem?_eq_getElem ha
     have hkb:(k:Int) <5:=by omega
     simp[ha,hkb,hwn]
     refine callW_of (pick08_vc (hr _ (List.getElem_mem ha)) (by omega)) (by simp) ?_
     have hpl:=pick_lt (c:=roots[k]) (n:=(i:Int)+1) (by omega)
     have hwp:=wrap_i (pick roots[k] ((i:Int)+1) -1) (by omega) (by omega)
     simp[hwk,hwp]
     refine⟨by simp[lim];omega,⟨k+1,by omega,by omega,?_,by simp⟩,by omega⟩
     rw[List.take_add_one,List.getElem?_map,hp]
     rfl
    ·have hend:(roots.take k)=roots.take 5:=by
      by_cases ha:k<roots.length
      ·have:k=5:=by omega
       rw[this]
      ·rw[List.take_of_length_le (by omega),List.take_of_length_le (by omega)]
     have hkb:k<roots.length→ ¬(k:Int) <5:=by omega
     have hg:mkG l roots=⟨(l.take i).map (mkNd i),if roots.take 5= []then [(i:Int) -1]else(roots.take 5).map (rp i)⟩:=by
      unfold mkG;rw[hn]
     have hlen:(roots.take k).length=k:=by rw[List.length_take];omega
     by_cases hz:k=0
     ·subst hz
      have hnil:roots.take 5= []:=by rw[←hend];rfl
      rw[hg,if_pos hnil]
      have ha: ¬0<roots.length:=by omega
      have hl1:1≤lim:=by simp[lim]
      simp[ha,grV,hwn1,hl1]
     ·have hnil:roots.take 5≠ []:=by
       rw[←hend];intro h;rw[h]at hlen;simp at hlen;omega
      rw[hg,if_neg hnil,←hend]
      have hr0: ¬roots= []:=by intro h;rw[h]at hk;simp at hk;omega
      by_cases ha:k<roots.length
      all_goals simp[ha,hkb,grV,hz,hr0]
theorem rp_in{n:Nat}{p:Int}: -1≤rp n p∧rp n p<n:=by
 have:=pick_lt (c:=p) (n:=(n:Int)+1) (by omega)
 unfold rp;omega
theorem mkG_nodes(l:List Nd)(roots:List Int):(mkG l roots).nodes.length=mkN l:=by
 simp[mkG,mkN]
theorem mkG_bounds(l:List Nd)(roots:List Int):mkN l≤10∧(mkG l roots).roots.length≤5∧ ∀x∈(mkG l roots).nodes,x.ptrs.length≤4∧x.data.length≤4:=by
 refine⟨by unfold mkN;omega,?_,fun x hx=> ?_⟩
 ·simp only[mkG];split
  ·simp
  ·simp;omega
 ·simp only[mkG,List.mem_map]at hx
  obtain⟨y,_,rfl⟩:=hx
  simp only[mkNd,List.length_map,List.length_take];omega
end Vm
end
section
namespace Vm
open Go
open Go.Proofs
set_option maxRecDepth 100000
def p16:Fn:=⟨5,[0,1,2,3,10],
(.seq
(.reg ⟨[],[],[(1,.m [(.fld (.sz (.s 0) 7) 0),(.fld (.sz (.s 0) 7) 1),(.fld (.sz (.s 0) 7) 2),(.fld (.sz (.s 0) 7) 3),(.fld (.sz (.s 0) 7) 4),(.fld (.sz (.s 0) 7) 5),(.fld (.sz (.s 0) 7) 6)]),(2,.m [(.c (.int .u64 (0))),(.c (.int .i64 (0))),(.c (.int .i64 (0))),(.c (.bool false)),(.c (.int .i64 (0))),(.c (.sl [])),(.c (.sl [])),(.c (.sl [])),(.c (.sl [])),(.c (.sl []))])]⟩)
(.seq
(.reg ⟨[.call 5 [] (.id 51) false false [(.mm 1 0 7),(.c (.bool true))]],[],[(3,.m [(.fld (.sz (.s 5) 14) 0),(.fld (.sz (.s 5) 14) 1),(.fld (.sz (.s 5) 14) 2),(.fld (.sz (.s 5) 14) 3),(.fld (.sz (.s 5) 14) 4),(.fld (.sz (.s 5) 14) 5),(.fld (.sz (.s 5) 14) 6),(.fld (.sz (.s 5) 14) 7),(.fld (.sz (.s 5) 14) 8),(.fld (.sz (.s 5) 14) 9),(.fld (.sz (.s 5) 14) 10),(.fld (.sz (.s 5) 14) 11),(.fld (.sz (.s 5) 14) 12),(.fld (.sz (.s 5) 14) 13)])]⟩)
(.seq
(.seq
(.reg ⟨[],[],[(4,.v (.bin .eql (.len (.m 3 5)) (.c (.int .i64 (0)))))]⟩)
(.cond (.s 4)
 (.seq
 (.reg ⟨[.call 6 [] (.id 45) false false [(.mm 1 0 7)]],[],[(2,.m [(.fld (.sz (.s 6) 10) 0),(.fld (.sz (.s 6) 10) 1),(.fld (.sz (.s 6) 10) 2),(.fld (.sz (.s 6) 10) 3),(.fld (.sz (.s 6) 10) 4),(.fld (.sz (.s 6) 10) 5),(.fld (.sz (.s 6) 10) 6),(.fld (.sz (.s 6) 10) 7),(.fld (.sz (.s 6) 10) 8),(.fld (.sz (.s 6) 10) 9)])]⟩)
 .ret)
 .skip))
(.seq
(.reg ⟨[.call 7 [] (.id 52) false false [(.mm 3 0 14),(.mm 1 0 7)]],[],[(2,.m [(.fld (.sz (.s 7) 10) 0),(.fld (.sz (.s 7) 10) 1),(.fld (.sz (.s 7) 10) 2),(.fld (.sz (.s 7) 10) 3),(.fld (.sz (.s 7) 10) 4),(.fld (.sz (.s 7) 10) 5),(.fld (.sz (.s 7) 10) 6),(.fld (.sz (.s 7) 10) 7),(.fld (.sz (.s 7) 10) 8),(.fld (.sz (.s 7) 10) 9)])]⟩)
.ret)))),
[(2,(.ag 10))]⟩
theorem c16:compFn Try.prog fresh sig [.fz] [] Try.f16=some p16:=by kernel_rfl
def p45:Fn:=⟨3,[0,1,2],
(.seq
(.reg ⟨[],[],[(1,.m [(.fld (.sz (.s 0) 7) 0),(.fld (.sz (.s 0) 7) 1),(.fld (.sz (.s 0) 7) 2),(.fld (.sz (.s 0) 7) 3),(.fld (.sz (.s 0) 7) 4),(.fld (.sz (.s 0) 7) 5),(.fld (.sz (.s 0) 7) 6)]),(2,.m [(.c (.int .u64 (0))),(.c (.int .i64 (0))),(.c (.int .i64 (0))),(.c (.bool false)),(.c (.int .i64 (0))),(.c (.sl [])),(.c (.sl [])),(.c (.sl [])),(.c (.sl [])),(.c (.sl []))])]⟩)
(.seq
(.reg ⟨[.call 3 [] (.id 51) false false [(.mm 1 0 7),(.c (.bool false))],.call 4 [] (.id 52) false false [(.s 3),(.mm 1 0 7)]],[],[(2,.m [(.fld (.sz (.s 4) 10) 0),(.fld (.sz (.s 4) 10) 1),(.fld (.sz (.s 4) 10) 2),(.fld (.sz (.s 4) 10) 3),(.fld (.sz (.s 4) 10) 4),(.fld (.sz (.s 4) 10) 5),(.fld (.sz (.s 4) 10) 6),(.fld (.sz (.s 4) 10) 7),(.fld (.sz (.s 4) 10) 8),(.fld (.sz (.s 4) 10) 9)])]⟩)
.ret)),
[(2,(.ag 10))]⟩
theorem c45:compFn Try.prog fresh sig [.fz] [] Try.f45=some p45:=by kernel_rfl
def p51:Fn:=⟨19,[0,1,2,4,5,6,7,8,26,9,10,11,12,13,57,81,14,82,165],
(.seq
(.reg ⟨[],[],[(2,.m [(.fld (.sz (.s 0) 7) 0),(.fld (.sz (.s 0) 7) 1),(.fld (.sz (.s 0) 7) 2),(.fld (.sz (.s 0) 7) 3),(.fld (.sz (.s 0) 7) 4),(.fld (.sz (.s 0) 7) 5),(.fld (.sz (.s 0) 7) 6)]),(3,.m [(.c (.int .u64 (0))),(.c (.int .i64 (0))),(.c (.int .i64 (0))),(.c (.bool false)),(.c (.int .i64 (0))),(.c (.sl [])),(.c (.sl [])),(.c (.sl [])),(.c (.sl [])),(.c (.sl [])),(.c (.sl [])),(.c (.sl [])),(.c (.sl [])),(.c (.sl []))])]⟩)
(.seq
(.reg ⟨[.call 19 [] (.id 84) false false [(.m 2 0),(.m 2 1)]],[([],(.ag [(.c (.int .u64 (0))),(.c (.int .i64 (0))),(.c (.int .i64 (0))),(.c (.bool false)),(.c (.int .i64 (0))),(.c (.sl [])),(.c (.sl [])),(.c (.sl [])),(.c (.sl [])),(.c (.sl [])),(.fld (.sz (.s 19) 2) 0),(.fld (.sz (.s 19) 2) 1),(.c (.sl [])),(.c (.sl []))]))],[(4,.m [(.c (.int .u64 (0))),(.c (.int .i64 (0))),(.c (.int .i64 (0))),(.c (.bool false)),(.c (.int .i64 (0))),(.c (.sl [])),(.c (.sl [])),(.c (.sl [])),(.c (.sl [])),(.c (.sl [])),(.fld (.sz (.s 19) 2) 0),(.fld (.sz (.s 19) 2) 1),(.c (.sl [])),(.c (.sl []))])]⟩)
(.seq
(.reg ⟨[],[],[(5,.m [(.c (.int .i64 (0))),(.c (.int .i64 (0))),(.c (.int .i64 (0))),(.c (.int .i64 (0))),(.c (.int .i64 (0)))])]⟩)
(.seq
(.reg ⟨[],[],[(6,.v (.c (.int .i64 (0))))]⟩)
(.seq
(.seq
(.reg ⟨[],[],[(7,.v (.c (.int .i64 (0))))]⟩)
(.block 0
 (.loop [0,1,2,3,4,5,6,7]
  (.seq
  (.seq
  (.reg ⟨[],[],[(8,.v (.bin .lss (.s 7) (.len (.m 4 10))))]⟩)
  (.cond (.s 8)
   .skip
   (.exit 0)))
  (.seq
  (.block 1
   (.seq
   (.reg ⟨[.call 20 [] (.id 85) false false [(.mm 2 0 7),(.s 7),(.s 1)]],[],[(9,.v (.ext (.s 20) 0)),(10,.v (.ext (.s 20) 1))]⟩)
   (.seq
   (.reg ⟨[],[],[(11,.v (.bin .add (.bin .add (.c (.int .i64 (1))) (.len (.fld (.idx (.m 4 10) (.s 7) 2) 0))) (.len (.fld (.idx (.m 4 10) (.s 7) 2) 1))))]⟩)
   (.seq
   (.reg ⟨[],[],[(12,.m [(.fld (.ag [(.c (.int .i64 (0))),(.c (.int .i64 (0)))]) 0),(.fld (.ag [(.c (.int .i64 (0))),(.c (.int .i64 (0)))]) 1)])]⟩)
   (.seq
   (.reg ⟨[],[],[(13,.m [(.fld (.ag [(.c (.int .i64 (0))),(.c (.int .i64 (0)))]) 0),(.fld (.ag [(.c (.int .i64 (0))),(.c (.int .i64 (0)))]) 1)])]⟩)
   (.seq
   (.seq
   (.reg ⟨[],[],[(14,.v (.bin .lss (.s 9) (.c (.int .i64 (2)))))]⟩)
   (.cond (.s 14)
    (.seq
    (.reg ⟨[],[([],(.ai (.c (.agg [(.bool true),(.bool true),(.bool true),(.bool true),(.bool true)])) (.bin .sub (.c (.int .i64 (2))) (.s 9)) 5 1 false))],[(12,.m [(.fld (.ag [(.bin .sub (.c (.int .i64 (2))) (.s 9)),(.one (.ai (.mm 5 0 5) (.bin .sub (.c (.int .i64 (2))) (.s 9)) 5 1 false))]) 0),(.fld (.ag [(.bin .sub (.c (.int .i64 (2))) (.s 9)),(.one (.ai (.mm 5 0 5) (.bin .sub (.c (.int .i64 (2))) (.s 9)) 5 1 false))]) 1)])]⟩)
    (.reg ⟨[],[([],(.ai (.c (.agg [(.bool true),(.bool true),(.bool true),(.bool true),(.bool true)])) (.bin .sub (.c (.int .i64 (2))) (.s 9)) 5 1 false))],[(5,.m [(.fld (.aput (.mm 5 0 5) (.bin .sub (.c (.int .i64 (2))) (.s 9)) 5 1 (.bin .add (.ai (.mm 5 0 5) (.bin .sub (.c (.int .i64 (2))) (.s 9)) 5 1 false) (.s 11))) 0),(.fld (.aput (.mm 5 0 5) (.bin .sub (.c (.int .i64 (2))) (.s 9)) 5 1 (.bin .add (.ai (.mm 5 0 5) (.bin .sub (.c (.int .i64 (2))) (.s 9)) 5 1 false) (.s 11))) 1),(.fld (.aput (.mm 5 0 5) (.bin .sub (.c (.int .i64 (2))) (.s 9)) 5 1 (.bin .add (.ai (.mm 5 0 5) (.bin .sub (.c (.int .i64 (2))) (.s 9)) 5 1 false) (.s 11))) 2),(.fld (.aput (.mm 5 0 5) (.bin .sub (.c (.int .i64 (2))) (.s 9)) 5 1 (.bin .add (.ai (.mm 5 0 5) (.bin .sub (.c (.int .i64 (2))) (.s 9)) 5 1 false) (.s 11))) 3),(.fld (.aput (.mm 5 0 5) (.bin .sub (.c (.int .i64 (2))) (.s 9)) 5 1 (.bin .add (.ai (.mm 5 0 5) (.bin .sub (.c (.int .i64 (2))) (.s 9)) 5 1 false) (.s 11))) 4)])]⟩))
    (.reg ⟨[],[],[(6,.v (.bin .add (.s 6) (.s 11)))]⟩)))
   (.seq
   (.seq
   (.reg ⟨[.lt 21 [] (.bin .gtr (.s 9) (.c (.int .i64 (0))))],[],[(15,.v (.ite (.s 21) (.s 1) (.c (.bool false))))]⟩)
   (.cond (.s 15)
    (.seq
    (.reg ⟨[],[],[(16,.v (.c (.int .i64 (3))))]⟩)
    (.seq
    (.seq
    (.reg ⟨[],[],[(17,.v (.s 10))]⟩)
    (.cond (.s 17)
     (.reg ⟨[],[],[(16,.v (.c (.int .i64 (4))))]⟩)
     .skip))
    (.seq
    (.reg ⟨[],[([],(.ai (.c (.agg [(.bool true),(.bool true),(.bool true),(.bool true),(.bool true)])) (.s 16) 5 1 false))],[(13,.m [(.fld (.ag [(.one (.s 16)),(.one (.ai (.mm 5 0 5) (.s 16) 5 1 false))]) 0),(.fld (.ag [(.one (.s 16)),(.one (.ai (.mm 5 0 5) (.s 16) 5 1 false))]) 1)])]⟩)
    (.reg ⟨[],[([],(.ai (.c (.agg [(.bool true),(.bool true),(.bool true),(.bool true),(.bool true)])) (.s 16) 5 1 false))],[(5,.m [(.fld (.aput (.mm 5 0 5) (.s 16) 5 1 (.bin .add (.ai (.mm 5 0 5) (.s 16) 5 1 false) (.s 11))) 0),(.fld (.aput (.mm 5 0 5) (.s 16) 5 1 (.bin .add (.ai (.mm 5 0 5) (.s 16) 5 1 false) (.s 11))) 1),(.fld (.aput (.mm 5 0 5) (.s 16) 5 1 (.bin .add (.ai (.mm 5 0 5) (.s 16) 5 1 false) (.s 11))) 2),(.fld (.aput (.mm 5 0 5) (.s 16) 5 1 (.bin .add (.ai (.mm 5 0 5) (.s 16) 5 1 false) (.s 11))) 3),(.fld (.aput (.mm 5 0 5) (.s 16) 5 1 (.bin .add (.ai (.mm 5 0 5) (.s 16) 5 1 false) (.s 11))) 4)])]⟩))))
    .skip))
   (.seq
   (.reg ⟨[],[],[(4,.m [(.m 4 0),(.m 4 1),(.m 4 2),(.m 4 3),(.m 4 4),(.m 4 5),(.m 4 6),(.m 4 7),(.m 4 8),(.m 4 9),(.m 4 10),(.m 4 11),(.app (.m 4 12) (.lit [(.mm 12 0 2)]) 2),(.m 4 13)])]⟩)
   (.reg ⟨[],[],[(4,.m [(.m 4 0),(.m 4 1),(.m 4 2),(.m 4 3),(.m 4 4),(.m 4 5),(.m 4 6),(.m 4 7),(.m 4 8),(.m 4 9),(.m 4 10),(.m 4 11),(.m 4 12),(.app (.m 4 13) (.lit [(.mm 13 0 2)]) 2)])]⟩)))))))))
  (.reg ⟨[],[],[(7,.v (.bin .add (.s 7) (.c (.int .i64 (1)))))]⟩))))))
(.seq
(.reg ⟨[.call 22 [] (.id 29) false false [(.m 2 6),(.c (.int .i64 (2)))]],[([],(.ai (.c (.agg [(.bool true),(.bool true),(.bool true),(.bool true),(.bool true)])) (.c (.int .i64 (1))) 5 1 false)),([],(.ai (.c (.agg [(.bool true),(.bool true),(.bool true),(.bool true),(.bool true)])) (.c (.int .i64 (2))) 5 1 false)),([],(.ai (.c (.agg [(.bool true),(.bool true),(.bool true),(.bool true),(.bool true)])) (.c (.int .i64 (3))) 5 1 false)),([],(.ai (.c (.agg [(.bool true),(.bool true),(.bool true),(.bool true),(.bool true)])) (.c (.int .i64 (4))) 5 1 false)),([],(.ag [(.c (.int .u64 (0))),(.c (.int .i64 (0))),(.one (.s 22)),(.one (.s 1)),(.c (.int .i64 (0))),(.mk (.int .u64 (0)) (.ai (.mm 5 0 5) (.c (.int .i64 (1))) 5 1 false)),(.mk (.int .u64 (0)) (.ai (.mm 5 0 5) (.c (.int .i64 (2))) 5 1 false)),(.mk (.int .u64 (0)) (.ai (.mm 5 0 5) (.c (.int .i64 (3))) 5 1 false)),(.mk (.int .u64 (0)) (.ai (.mm 5 0 5) (.c (.int .i64 (4))) 5 1 false)),(.c (.sl []))]))],[(4,.m [(.c (.int .u64 (0))),(.c (.int .i64 (0))),(.one (.s 22)),(.one (.s 1)),(.c (.int .i64 (0))),(.mk (.int .u64 (0)) (.ai (.mm 5 0 5) (.c (.int .i64 (1))) 5 1 false)),(.mk (.int .u64 (0)) (.ai (.mm 5 0 5) (.c (.int .i64 (2))) 5 1 false)),(.mk (.int .u64 (0)) (.ai (.mm 5 0 5) (.c (.int .i64 (3))) 5 1 false)),(.mk (.int .u64 (0)) (.ai (.mm 5 0 5) (.c (.int .i64 (4))) 5 1 false)),(.c (.sl [])),(.m 4 10),(.m 4 11),(.m 4 12),(.m 4 13)])]⟩)
(.seq
(.reg ⟨[.call 23 [] (.id 29) false false [(.m 2 4),(.c (.int .i64 (12)))]],[([],(.ai (.c (.agg [(.bool true),(.bool true),(.bool true),(.bool true),(.bool true)])) (.c (.int .i64 (1))) 5 1 false)),([],(.ai (.c (.agg [(.bool true),(.bool true),(.bool true),(.bool true),(.bool true)])) (.c (.int .i64 (2))) 5 1 false)),([],(.ai (.c (.agg [(.bool true),(.bool true),(.bool true),(.bool true),(.bool true)])) (.c (.int .i64 (3))) 5 1 false)),([],(.ai (.c (.agg [(.bool true),(.bool true),(.bool true),(.bool true),(.bool true)])) (.c (.int .i64 (4))) 5 1 false))],[(4,.m [(.m 4 0),(.bin .add (.mx (.bin .add (.bin .add (.ai (.mm 5 0 5) (.c (.int .i64 (1))) 5 1 false) (.ai (.mm 5 0 5) (.c (.int .i64 (2))) 5 1 false)) (.s 6)) (.bin .add (.ai (.mm 5 0 5) (.c (.int .i64 (3))) 5 1 false) (.ai (.mm 5 0 5) (.c (.int .i64 (4))) 5 1 false))) (.s 23)),(.m 4 2),(.m 4 3),(.m 4 4),(.m 4 5),(.m 4 6),(.m 4 7),(.m 4 8),(.m 4 9),(.m 4 10),(.m 4 11),(.m 4 12),(.m 4 13)])]⟩)
(.seq
(.reg ⟨[],[],[(4,.m [(.bin .add (.c (.int .u64 (1))) (.bin .rem (.m 2 3) (.bin .sub (.c (.int .u64 (9223372036854775808))) (.bin .mul (.c (.int .u64 (2))) (.conv .u64 (.m 4 1)))))),(.m 4 1),(.m 4 2),(.m 4 3),(.m 4 4),(.m 4 5),(.m 4 6),(.m 4 7),(.m 4 8),(.m 4 9),(.m 4 10),(.m 4 11),(.m 4 12),(.m 4 13)])]⟩)
(.seq
(.reg ⟨[],[([],(.ai (.c (.agg [(.bool true),(.bool true),(.bool true),(.bool true),(.bool true)])) (.c (.int .i64 (1))) 5 1 false))],[(4,.m [(.m 4 0),(.m 4 1),(.m 4 2),(.m 4 3),(.one (.ai (.mm 5 0 5) (.c (.int .i64 (1))) 5 1 false)),(.m 4 5),(.m 4 6),(.m 4 7),(.m 4 8),(.m 4 9),(.m 4 10),(.m 4 11),(.m 4 12),(.m 4 13)])]⟩)
(.seq
(.seq
(.reg ⟨[.lt 24 [] (.s 1)],[([(24,true)],(.ai (.c (.agg [(.bool true),(.bool true),(.bool true),(.bool true),(.bool true)])) (.c (.int .i64 (1))) 5 1 false)),([(24,true)],(.bin .gtr (.ai (.mm 5 0 5) (.c (.int .i64 (1))) 5 1 false) (.c (.int .i64 (0)))))],[(18,.v (.ite (.s 24) (.bin .gtr (.ai (.mm 5 0 5) (.c (.int .i64 (1))) 5 1 false) (.c (.int .i64 (0)))) (.c (.bool false))))]⟩)
(.cond (.s 18)
 (.reg ⟨[.call 25 [] (.id 29) false false [(.m 2 5),(.ai (.mm 5 0 5) (.c (.int .i64 (1))) 5 1 false)]],[([],(.ai (.c (.agg [(.bool true),(.bool true),(.bool true),(.bool true),(.bool true)])) (.c (.int .i64 (1))) 5 1 false))],[(4,.m [(.m 4 0),(.m 4 1),(.m 4 2),(.m 4 3),(.one (.s 25)),(.m 4 5),(.m 4 6),(.m 4 7),(.m 4 8),(.m 4 9),(.m 4 10),(.m 4 11),(.m 4 12),(.m 4 13)])]⟩)
 .skip))
(.seq
(.reg ⟨[],[],[(3,.m [(.fld (.mm 4 0 14) 0),(.fld (.mm 4 0 14) 1),(.fld (.mm 4 0 14) 2),(.fld (.mm 4 0 14) 3),(.fld (.mm 4 0 14) 4),(.fld (.mm 4 0 14) 5),(.fld (.mm 4 0 14) 6),(.fld (.mm 4 0 14) 7),(.fld (.mm 4 0 14) 8),(.fld (.mm 4 0 14) 9),(.fld (.mm 4 0 14) 10),(.fld (.mm 4 0 14) 11),(.fld (.mm 4 0 14) 12),(.fld (.mm 4 0 14) 13)])]⟩)
.ret))))))))))),
[(3,(.ag 14))]⟩
theorem c51:compFn Try.prog fresh sig [.fz,.fz] [] Try.f51=some p51:=by kernel_rfl
def p52:Fn:=⟨17,[0,1,2,3,4,5,16,6,31,59,83,7,8,9,125,10,134],
(.seq
(.reg ⟨[],[],[(2,.m [(.fld (.sz (.s 0) 14) 0),(.fld (.sz (.s 0) 14) 1),(.fld (.sz (.s 0) 14) 2),(.fld (.sz (.s 0) 14) 3),(.fld (.sz (.s 0) 14) 4),(.fld (.sz (.s 0) 14) 5),(.fld (.sz (.s 0) 14) 6),(.fld (.sz (.s 0) 14) 7),(.fld (.sz (.s 0) 14) 8),(.fld (.sz (.s 0) 14) 9),(.fld (.sz (.s 0) 14) 10),(.fld (.sz (.s 0) 14) 11),(.fld (.sz (.s 0) 14) 12),(.fld (.sz (.s 0) 14) 13)]),(3,.m [(.fld (.sz (.s 1) 7) 0),(.fld (.sz (.s 1) 7) 1),(.fld (.sz (.s 1) 7) 2),(.fld (.sz (.s 1) 7) 3),(.fld (.sz (.s 1) 7) 4),(.fld (.sz (.s 1) 7) 5),(.fld (.sz (.s 1) 7) 6)]),(4,.m [(.c (.int .u64 (0))),(.c (.int .i64 (0))),(.c (.int .i64 (0))),(.c (.bool false)),(.c (.int .i64 (0))),(.c (.sl [])),(.c (.sl [])),(.c (.sl [])),(.c (.sl [])),(.c (.sl []))])]⟩)
(.seq
(.seq
(.reg ⟨[],[],[(5,.v (.c (.int .i64 (0))))]⟩)
(.block 0
 (.loop [0,1,2,3,4,5]
  (.seq
  (.seq
  (.reg ⟨[],[],[(6,.v (.bin .lss (.s 5) (.len (.m 2 10))))]⟩)
  (.cond (.s 6)
   .skip
   (.exit 0)))
  (.seq
  (.block 1
   (.seq
   (.reg ⟨[],[],[(7,.m [(.fld (.flds (.idx (.m 2 10) (.s 5) 2) 0 2) 0),(.fld (.flds (.idx (.m 2 10) (.s 5) 2) 0 2) 1)])]⟩)
   (.seq
   (.seq
   (.reg ⟨[],[],[(8,.v (.bin .gtr (.fld (.idx (.m 2 12) (.s 5) 2) 0) (.c (.int .i64 (0)))))]⟩)
   (.cond (.s 8)
    (.reg ⟨[.call 17 [] (.id 86) false false [(.mm 2 0 14),(.flds (.idx (.m 2 12) (.s 5) 2) 0 2),(.mm 7 0 2),(.bin .add (.m 3 4) (.s 5))]],[],[(2,.m [(.fld (.sz (.s 17) 14) 0),(.fld (.sz (.s 17) 14) 1),(.fld (.sz (.s 17) 14) 2),(.fld (.sz (.s 17) 14) 3),(.fld (.sz (.s 17) 14) 4),(.fld (.sz (.s 17) 14) 5),(.fld (.sz (.s 17) 14) 6),(.fld (.sz (.s 17) 14) 7),(.fld (.sz (.s 17) 14) 8),(.fld (.sz (.s 17) 14) 9),(.fld (.sz (.s 17) 14) 10),(.fld (.sz (.s 17) 14) 11),(.fld (.sz (.s 17) 14) 12),(.fld (.sz (.s 17) 14) 13)])]⟩)
    .skip))
   (.seq
   (.seq
   (.reg ⟨[.lt 18 [] (.bin .gtr (.fld (.idx (.m 2 13) (.s 5) 2) 0) (.c (.int .i64 (0))))],[([(18,true)],(.bin .eql (.fld (.idx (.m 2 12) (.s 5) 2) 0) (.c (.int .i64 (0)))))],[(9,.v (.ite (.s 18) (.bin .eql (.fld (.idx (.m 2 12) (.s 5) 2) 0) (.c (.int .i64 (0)))) (.c (.bool false))))]⟩)
   (.cond (.s 9)
    (.reg ⟨[.call 19 [] (.id 86) false false [(.mm 2 0 14),(.flds (.idx (.m 2 13) (.s 5) 2) 0 2),(.mm 7 0 2),(.c (.int .i64 (0)))]],[],[(2,.m [(.fld (.sz (.s 19) 14) 0),(.fld (.sz (.s 19) 14) 1),(.fld (.sz (.s 19) 14) 2),(.fld (.sz (.s 19) 14) 3),(.fld (.sz (.s 19) 14) 4),(.fld (.sz (.s 19) 14) 5),(.fld (.sz (.s 19) 14) 6),(.fld (.sz (.s 19) 14) 7),(.fld (.sz (.s 19) 14) 8),(.fld (.sz (.s 19) 14) 9),(.fld (.sz (.s 19) 14) 10),(.fld (.sz (.s 19) 14) 11),(.fld (.sz (.s 19) 14) 12),(.fld (.sz (.s 19) 14) 13)])]⟩)
    .skip))
   (.seq
   (.reg ⟨[.lt 20 [] (.bin .gtr (.fld (.idx (.m 2 13) (.s 5) 2) 0) (.c (.int .i64 (0))))],[([(20,true)],(.bin .gtr (.fld (.idx (.m 2 12) (.s 5) 2) 0) (.c (.int .i64 (0)))))],[(10,.v (.ite (.s 20) (.bin .gtr (.fld (.idx (.m 2 12) (.s 5) 2) 0) (.c (.int .i64 (0)))) (.c (.bool false))))]⟩)
   (.cond (.s 10)
    (.seq
    (.reg ⟨[.call 21 [] (.id 28) false false [(.mm 2 0 10),(.fld (.idx (.m 2 13) (.s 5) 2) 0)]],[],[(11,.v (.app (.c (.sl [])) (.s 21) 1))]⟩)
    (.seq
    (.reg ⟨[.call 22 [] (.id 87) false false [(.mm 2 0 14),(.flds (.idx (.m 2 12) (.s 5) 2) 0 2)]],[([],(.idx (.s 11) (.fld (.idx (.m 2 13) (.s 5) 2) 1) 1))],[(11,.v (.upd (.s 11) (.fld (.idx (.m 2 13) (.s 5) 2) 1) 0 (.one (.s 22))))]⟩)
    (.reg ⟨[.call 23 [] (.id 27) false false [(.mm 2 0 10),(.fld (.idx (.m 2 13) (.s 5) 2) 0),(.s 11)]],[],[(2,.m [(.fld (.sz (.s 23) 10) 0),(.fld (.sz (.s 23) 10) 1),(.fld (.sz (.s 23) 10) 2),(.fld (.sz (.s 23) 10) 3),(.fld (.sz (.s 23) 10) 4),(.fld (.sz (.s 23) 10) 5),(.fld (.sz (.s 23) 10) 6),(.fld (.sz (.s 23) 10) 7),(.fld (.sz (.s 23) 10) 8),(.fld (.sz (.s 23) 10) 9),(.m 2 10),(.m 2 11),(.m 2 12),(.m 2 13)])]⟩)))
    .skip))))))
  (.reg ⟨[],[],[(5,.v (.bin .add (.s 5) (.c (.int .i64 (1)))))]⟩))))))
(.seq
(.reg ⟨[],[],[(12,.v (.c (.sl [])))]⟩)
(.seq
(.seq
(.reg ⟨[],[],[(13,.v (.c (.int .i64 (0))))]⟩)
(.block 2
 (.loop [0,1,2,3,4,5,6,12,13]
  (.seq
  (.seq
  (.reg ⟨[],[],[(14,.v (.bin .lss (.s 13) (.len (.m 2 11))))]⟩)
  (.cond (.s 14)
   .skip
   (.exit 2)))
  (.seq
  (.block 3
   (.seq
   (.reg ⟨[],[],[(15,.v (.c (.int .u64 (0))))]⟩)
   (.seq
   (.seq
   (.reg ⟨[],[],[(16,.v (.bin .geq (.fld (.idx (.m 2 11) (.s 13) 1) 0) (.c (.int .i64 (0)))))]⟩)
   (.cond (.s 16)
    (.reg ⟨[.call 24 [] (.id 87) false false [(.mm 2 0 14),(.flds (.idx (.m 2 12) (.fld (.idx (.m 2 11) (.s 13) 1) 0) 2) 0 2)]],[],[(15,.v (.s 24))]⟩)
    .skip))
   (.reg ⟨[],[],[(12,.v (.app (.s 12) (.lit [(.one (.s 15))]) 1))]⟩))))
  (.reg ⟨[],[],[(13,.v (.bin .add (.s 13) (.c (.int .i64 (1)))))]⟩))))))
(.seq
(.reg ⟨[],[],[(2,.m [(.m 2 0),(.m 2 1),(.m 2 2),(.m 2 3),(.m 2 4),(.m 2 5),(.m 2 6),(.m 2 7),(.m 2 8),(.one (.s 12)),(.m 2 10),(.m 2 11),(.m 2 12),(.m 2 13)])]⟩)
(.seq
(.reg ⟨[],[],[(4,.m [(.fld (.mm 2 0 10) 0),(.fld (.mm 2 0 10) 1),(.fld (.mm 2 0 10) 2),(.fld (.mm 2 0 10) 3),(.fld (.mm 2 0 10) 4),(.fld (.mm 2 0 10) 5),(.fld (.mm 2 0 10) 6),(.fld (.mm 2 0 10) 7),(.fld (.mm 2 0 10) 8),(.fld (.mm 2 0 10) 9)])]⟩)
.ret)))))),
[(4,(.ag 10))]⟩
theorem c52:compFn Try.prog fresh sig [.fz,.fz] [] Try.f52=some p52:=by kernel_rfl
end Vm
end
section
namespace Vm
open Go Go.Proofs
set_option maxRecDepth 100000
set_option maxHeartbeats 1000000
structure Pl where
 part:Int
 at_:Int
 deriving DecidableEq,Inhabited
def plV(p:Pl):V:= .agg [vi p.part,vi p.at_]
@[simp] theorem plV_cells(p:Pl):(plV p).cells= [vi p.part,vi p.at_]:=rfl
@[simp] theorem fldsV_plV(p:Pl):fldsV (plV p) 0 2=some (plV p):=rfl
@[simp] theorem fldV_plV0(p:Pl):fldV (plV p) 0=some (vi p.part):=rfl
@[simp] theorem fldV_plV1(p:Pl):fldV (plV p) 1=some (vi p.at_):=rfl
@[simp] theorem szV_plV(p:Pl):szV (plV p) 2=some (plV p):=rfl
@[simp] theorem sizeOk_plV(l:List Pl):sizeOk 2 (l.map plV)=true:=sizeOk_map fun _=>rfl
structure Rw where
 nodes:List Nd
 roots:List Int
 cls:List Int
 base:Int
 slack:Int
 scan:Int
 to:Int
 deriving Inhabited
def rwV(x:Rw):V:= .agg [.sl (x.nodes.map ndV),.sl (x.roots.map vi),.sl (x.cls.map vi),vu x.base,vi x.slack,vi x.scan,vi x.to]
@[simp] theorem szV_rwV(x:Rw):szV (rwV x) 7=some (rwV x):=rfl
@[simp] theorem rwV_cells(x:Rw):(rwV x).cells= [.sl (x.nodes.map ndV),.sl (x.roots.map vi),.sl (x.cls.map vi),vu x.base,vi x.slack,vi x.scan,vi x.to]:=rfl
@[simp] theorem fldV_rwV0(x:Rw):fldV (rwV x) 0=some (.sl (x.nodes.map ndV)):=rfl
@[simp] theorem fldV_rwV1(x:Rw):fldV (rwV x) 1=some (.sl (x.roots.map vi)):=rfl
@[simp] theorem fldV_rwV2(x:Rw):fldV (rwV x) 2=some (.sl (x.cls.map vi)):=rfl
@[simp] theorem fldV_rwV3(x:Rw):fldV (rwV x) 3=some (vu x.base):=rfl
@[simp] theorem fldV_rwV4(x:Rw):fldV (rwV x) 4=some (vi x.slack):=rfl
@[simp] theorem fldV_rwV5(x:Rw):fldV (rwV x) 5=some (vi x.scan):=rfl
@[simp] theorem fldV_rwV6(x:Rw):fldV (rwV x) 6=some (vi x.to):=rfl
structure Rw.ok (x:Rw):Prop where
 ptrs: ∀n∈x.nodes,∀p∈n.ptrs,Fit p
 data: ∀n∈x.nodes,∀p∈n.data,U64 p
 roots: ∀p∈x.roots,Fit p
 cls: ∀p∈x.cls,Fit p
 base:U64 x.base
 slack:Fit x.slack
 scan:Fit x.scan
 to:Fit x.to
def rawC(x:Rw)(i:Nat):Int:=if x.cls.length=0 then i else(x.cls[i%x.cls.length]?).getD 0
def clsK(x:Rw)(i:Nat)(cycle:Bool):Int:=if pick (rawC x i) 3=2∧cycle=false then 1 else pick (rawC x i) 3
def clsF(x:Rw)(i:Nat):Bool:=decide (pick ((rawC x i).tdiv 3) 2=1)
theorem clsK_range(x:Rw)(i:Nat)(cycle:Bool):clsK x i cycle=0∨clsK x i cycle=1∨(clsK x i cycle=2∧cycle=true):=by
 have:=pick_lt (c:=rawC x i) (n:=3) (by omega)
 unfold clsK
 split
 ·exact .inr (.inl rfl)
 ·rename_i h
  cases cycle
  ·simp at h;omega
  ·simp;omega
theorem class_vc{x:Rw}(hx:x.ok){i:Nat}(hi:i≤1000){cycle:Bool}:VC Try.prog 85 false [rwV x,vi i,.bool cycle] (.tup [vi (clsK x i cycle),.bool (clsF x i)]):=by
 refine vc_of_wp Try.func85 follows (by kernel_rfl) c85 rfl ?_
 have hc:Fit (rawC x i):=by
  unfold rawC
  split
  ·exact⟨by omega,by omega⟩
  ·rename_i h
   have:i%x.cls.length<x.cls.length:=Nat.mod_lt _ (by omega)
   rw[List.getElem?_eq_getElem this]
   exact hx.cls _ (List.getElem_mem this)
 have hp3:=pick11_vc (c:=rawC x i) (n:=3) hc (by omega)
 have hd:Fit ((rawC x i).tdiv 3):=by
  obtain⟨h1,h2⟩:=hc
  unfold Fit
  rw[Int.tdiv_eq_ediv]
  have:Int.sign 3=1:=rfl
  split<;>omega
 have hwd:=wrap_i _ hd.1 hd.2
 have hp2:=pick11_vc (c:=(rawC x i).tdiv 3) (n:=2) hd (by omega)
 have fin: ∀(b:Bool),(decide (pick ((rawC x i).tdiv 3) 2=1)=b)→clsF x i=b:=fun b h=>h
 by_cases hl:x.cls.length=0
 ·have hr:rawC x i=i:=by simp[rawC,hl]
  rw[hr]at hp3 hp2 hwd
  rw[Int.tdiv_eq_ediv_of_nonneg (by omega)]at hp2 hwd
  simp[p85,hl]
  refine callW_of hp3 (by simp) ?_
  by_cases h2:pick (i:Int) 3=2
  ·cases cycle
   ·simp[h2,hwd]
    refine callW_of hp2 (by simp) ?_
    simp[clsK,clsF,hr,h2]
   ·simp[h2,hwd]
    refine callW_of hp2 (by simp) ?_
    simp[clsK,clsF,hr,h2]
  ·simp[h2,hwd]
   refine callW_of hp2 (by simp) ?_
   simp[clsK,clsF,hr,h2]
 ·have hlt:i%x.cls.length<x.cls.length:=Nat.mod_lt _ (by omega)
  have hg:x.cls[i%x.cls.length]? =some x.cls[i%x.cls.length]:=List.getElem?_eq_getElem hlt
  have hr:rawC x i=x.cls[i%x.cls.length]:=by simp[rawC,hl,hg]
  have hm:(i:Int).tmod (x.cls.length:Int)=((i%x.cls.length:Nat):Int):=by
   rw[Int.tmod_eq_emod_of_nonneg (by omega)];rfl
  rw[hr]at hp3 hp2 hwd
  have h0:0<x.cls.length:=by omega
  have hne:x.cls≠ []:=fun e=>by rw[e]at h0;simp at h0
  have hm':((i:Int) % (x.cls.length:Int))=((i%x.cls.length:Nat):Int):=rfl
  generalize hcc:x.cls[i%x.cls.length]=c at*
  generalize hii:i%x.cls.length=j at*
  simp[p85,h0,hne,hm,hlt,hcc]
  refine callW_of hp3 (by simp) ?_
  by_cases h2:pick c 3=2
  ·cases cycle
   ·simp[h2,hwd]
    refine callW_of hp2 (by simp) ?_
    simp[clsK,clsF,hr,h2]
   ·simp[h2,hwd]
    refine callW_of hp2 (by simp) ?_
    simp[clsK,clsF,hr,h2]
  ·simp[h2,hwd]
   refine callW_of hp2 (by simp) ?_
   simp[clsK,clsF,hr,h2]
def sizN(n:Nd):Nat:=1+n.ptrs.length+n.data.length
structure St8 where
 n1:Nat
 n2:Nat
 n3:Nat
 n4:Nat
 wt:Nat
 here:List Pl
 old:List Pl
def stStep(x:Rw)(cycle:Bool)(sz:Nat)(i:Nat)(s:St8):St8:=
 let k:=clsK x i cycle
 let far:=clsF x i
 let o:Bool:=decide (0<k)&&cycle
 {n1:=if k=1 then s.n1+sz else s.n1
  n2:=if k=0 then s.n2+sz else s.n2
  n3:=if o&& !far then s.n3+sz else s.n3
  n4:=if o&&far then s.n4+sz else s.n4
  wt:=if k=2 then s.wt+sz else s.wt
  here:=s.here++ [if k=0 then⟨2,s.n2⟩else if k=1 then⟨1,s.n1⟩else⟨0,0⟩]
  old:=s.old++ [if o then(if far then⟨4,s.n4⟩else⟨3,s.n3⟩)else⟨0,0⟩]}
def stN(x:Rw)(cycle:Bool)(g:Gr):Nat→St8
 |0=>⟨0,0,0,0,0,[],[]⟩
 |i+1=>stStep x cycle (sizN ((g.nodes[i]?).getD default)) i (stN x cycle g i)
theorem stStep_bound{x:Rw}{cycle:Bool}{sz i:Nat}(hs:sz≤9)(s:St8)(h1:s.n1+s.n2+s.wt≤9*i)(h2:s.n3+s.n4≤9*i)(h3:s.here.length=i)(h4:s.old.length=i):
  (stStep x cycle sz i s).n1+(stStep x cycle sz i s).n2+(stStep x cycle sz i s).wt≤9*(i+1)∧(stStep x cycle sz i s).n3+(stStep x cycle sz i s).n4≤9*(i+1)∧(stStep x cycle sz i s).here.length=i+1∧(stStep x cycle sz i s).old.length=i+1:=by
 rcases clsK_range x i cycle with hk|hk| ⟨hk,rfl⟩
 ·simp[stStep,hk,h3,h4];omega
 ·cases cycle<;>cases hf:clsF x i<;>simp[stStep,hk,hf,h3,h4]<;>omega
 ·cases hf:clsF x i<;>simp[stStep,hk,hf,h3,h4]<;>omega
theorem stN_bound{x:Rw}{cycle:Bool}{g:Gr}(hg: ∀n∈g.nodes,sizN n≤9): ∀i,i≤g.nodes.length→(stN x cycle g i).n1+(stN x cycle g i).n2+(stN x cycle g i).wt≤9*i∧(stN x cycle g i).n3+(stN x cycle g i).n4≤9*i∧(stN x cycle g i).here.length=i∧(stN x cycle g i).old.length=i
 |0,_=>by simp[stN]
 |i+1,hi=>by
  obtain⟨h1,h2,h3,h4⟩:=stN_bound (x:=x) (cycle:=cycle) hg i (by omega)
  have hn:=hg _ (List.getElem_mem (show i<g.nodes.length by omega))
  simp only[stN,List.getElem?_eq_getElem (show i<g.nodes.length by omega),Option.getD_some]
  exact stStep_bound hn _ h1 h2 h3 h4
structure Bt where
 h:Hp
 g:Gr
 here:List Pl
 old:List Pl
def btC(b:Bt):List V:= [vu b.h.base,vi b.h.cap,vi b.h.to,.bool b.h.cycle,vi b.h.scan,.sl (b.h.low.map vu),.sl (b.h.high.map vu),.sl (b.h.old.map vu),.sl (b.h.far.map vu),.sl (b.h.roots.map vu),.sl (b.g.nodes.map ndV),.sl (b.g.roots.map vi),.sl (b.here.map plV),.sl (b.old.map plV)]
def btV(b:Bt):V:= .agg [vu b.h.base,vi b.h.cap,vi b.h.to,.bool b.h.cycle,vi b.h.scan,.sl (b.h.low.map vu),.sl (b.h.high.map vu),.sl (b.h.old.map vu),.sl (b.h.far.map vu),.sl (b.h.roots.map vu),.sl (b.g.nodes.map ndV),.sl (b.g.roots.map vi),.sl (b.here.map plV),.sl (b.old.map plV)]
def standB(x:Rw)(cycle:Bool):Bt:=
 let g:=mkG x.nodes x.roots
 let s:=stN x cycle g g.nodes.length
 let cap:Int:=max ((s.n1:Int)+s.n2+s.wt) ((s.n3:Int)+s.n4)+pick x.slack 12
 ⟨⟨1+x.base% (9223372036854775808-2*cap),cap,pick x.to 2,cycle,if cycle=true∧0<s.n1 then pick x.scan s.n1 else s.n1,List.replicate s.n1 0,List.replicate s.n2 0,List.replicate s.n3 0,List.replicate s.n4 0,[]⟩,g,s.here,s.old⟩
theorem stand_vc{x:Rw}(hx:x.ok){cycle:Bool}:VC Try.prog 51 false [rwV x,.bool cycle] (btV (standB x cycle)):=by
 refine vc_of_wp Try.func51 follows (by kernel_rfl) c51 rfl ?_
 simp[p51]
 refine callW_of (Graph_vc hx.ptrs hx.roots) (by simp) ?_
 obtain⟨hb1,hb2,hb3⟩:=mkG_bounds x.nodes x.roots
 have hb5:=mkG_nodes x.nodes x.roots
 unfold standB
 generalize mkG x.nodes x.roots=g at*
 have hsz: ∀n∈g.nodes,sizN n≤9:=fun n hn=>by have:=hb3 n hn;unfold sizN;omega
 simp
 refine wpS_for 7 g.nodes.length (fun i=> [(4,.m [.int .u64 0,.int .i64 0,.int .i64 0,.bool false,.int .i64 0,.sl [],.sl [],.sl [],.sl [],.sl [],.sl (g.nodes.map ndV),.sl (g.roots.map vi),.sl ((stN x cycle g i).here.map plV),.sl ((stN x cycle g i).old.map plV)]),
  (5,.m [vi 0,vi (stN x cycle g i).n1,vi (stN x cycle g i).n2,vi (stN x cycle g i).n3,vi (stN x cycle g i).n4]),(6,.v (vi (stN x cycle g i).wt)),(7,.v (vi i))]) (fun _=>True) (by simp[stN]) (fun i=>by simp) trivial ?_
 rintro i hi-
 have hw:=wrap_i ((i:Int)+1) (by omega) (by omega)
 obtain⟨s1,s2,s3,s4⟩:=stN_bound (x:=x) (cycle:=cycle) hsz i hi
 by_cases h:i<g.nodes.length
 ·have hn:g.nodes[i]? =some g.nodes[i]:=List.getElem?_eq_getElem h
  have hz:=hsz _ (List.getElem_mem h)
  simp only[stN,hn,Option.getD_some]
  generalize stN x cycle g i=s at*
  generalize g.nodes[i]=n at*
  have hc:=class_vc hx (i:=i) (by omega) (cycle:=cycle)
  have hkr:=clsK_range x i cycle
  have w1:=wrap_i (1+(n.ptrs.length:Int)) (by unfold sizN at hz;omega) (by unfold sizN at hz;omega)
  have w2:=wrap_i (1+(n.ptrs.length:Int)+n.data.length) (by unfold sizN at hz;omega) (by unfold sizN at hz;omega)
  have e2:(1+(n.ptrs.length:Int)+n.data.length)=(sizN n:Nat):=by unfold sizN;omega
  rw[e2]at w2
  simp[h]
  refine callW_of hc (by simp) ?_
  generalize hsz':sizN n=sz at*
  unfold stStep
  generalize clsF x i=fr at*
  generalize clsK x i cycle=k at*
  have u1:=wrap_i ((s.n1:Int)+sz) (by omega) (by omega)
  have u2:=wrap_i ((s.n2:Int)+sz) (by omega) (by omega)
  have u3:=wrap_i ((s.n3:Int)+sz) (by omega) (by omega)
  have u4:=wrap_i ((s.n4:Int)+sz) (by omega) (by omega)
  have u5:=wrap_i ((s.wt:Int)+sz) (by omega) (by omega)
  have l1:s.here.length+1≤lim:=by simp[lim];omega
  have l2:s.old.length+1≤lim:=by simp[lim];omega
  rcases hkr with rfl|rfl| ⟨rfl,rfl⟩
  ·cases cycle<;>simp[hn,at_of hn,w1,e2,w2,aiV,aputV,setCells,wrap_i,u1,u2,u3,u4,u5,l1,l2,plV,hw]
  ·cases cycle
   ·simp[hn,at_of hn,w1,e2,w2,aiV,aputV,setCells,wrap_i,u1,u2,u3,u4,u5,l1,l2,plV,hw]
   ·cases fr<;>simp[hn,at_of hn,w1,e2,w2,aiV,aputV,setCells,wrap_i,u1,u2,u3,u4,u5,l1,l2,plV,hw]
  ·cases fr<;>simp[hn,at_of hn,w1,e2,w2,aiV,aputV,setCells,wrap_i,u1,u2,u3,u4,u5,l1,l2,plV,hw]
 ·have:i=g.nodes.length:=by omega
  subst this
  generalize hs8:stN x cycle g g.nodes.length=s at*
  have hpt:=pick11_vc (c:=x.to) (n:=2) hx.to (by omega)
  have hps:=pick11_vc (c:=x.slack) (n:=12) hx.slack (by omega)
  have hsl:=pick_lt (c:=x.slack) (n:=12) (by omega)
  simp
  refine callW_of hpt (by simp) ?_
  have q1:s.n1≤lim:=by simp[lim];omega
  have q2:s.n2≤lim:=by simp[lim];omega
  have q3:s.n3≤lim:=by simp[lim];omega
  have q4:s.n4≤lim:=by simp[lim];omega
  simp[aiV,q1,q2,q3,q4]
  refine callW_of hps (by simp) ?_
  have w1:=wrap_i ((s.n1:Int)+s.n2) (by omega) (by omega)
  have w2:=wrap_i ((s.n1:Int)+s.n2+s.wt) (by omega) (by omega)
  have w3:=wrap_i ((s.n3:Int)+s.n4) (by omega) (by omega)
  have hmax:(if(s.n1:Int)+s.n2+s.wt< (s.n3:Int)+s.n4 then(s.n3:Int)+s.n4 else(s.n1:Int)+s.n2+s.wt)=max ((s.n1:Int)+s.n2+s.wt) ((s.n3:Int)+s.n4):=by split<;>omega
  obtain⟨cap,hcap⟩: ∃cap:Int,max ((s.n1:Int)+s.n2+s.wt) ((s.n3:Int)+s.n4)+pick x.slack 12=cap:=⟨_,rfl⟩
  have hc0:0≤cap∧cap≤200:=by omega
  have w4:=wrap_i cap (by omega) (by omega)
  have w5:=wrap_u cap (by omega) (by omega)
  have w6:=wrap_u (2*cap) (by omega) (by omega)
  have w7:=wrap_u (9223372036854775808-2*cap) (by omega) (by omega)
  obtain⟨b1,b2⟩:=hx.base
  have w8:x.base.tmod (9223372036854775808-2*cap)=x.base% (9223372036854775808-2*cap):=Int.tmod_eq_emod_of_nonneg b1
  have h1:=Int.emod_nonneg x.base (show(9223372036854775808-2*cap)≠0 by omega)
  have h2:=Int.emod_lt_of_pos x.base (show 0< (9223372036854775808-2*cap)by omega)
  have w9:=wrap_u (1+x.base% (9223372036854775808-2*cap)) (by omega) (by omega)
  have hne: ¬((9223372036854775808-2*cap)=0):=by omega
  simp[aiV,w1,w2,w3,hmax,hcap,w4,w5,w6,w7,w8,w9,hne]
  cases cycle
  ·simp[btV,hcap]
  ·by_cases h0:0<s.n1
   ·have hp:=pick11_vc (c:=x.scan) (n:=(s.n1:Int)) hx.scan (by omega)
    simp[h0]
    refine callW_of hp (by simp) ?_
    simp[btV,hcap,h0,aiV]
   ·simp[btV,hcap,h0]
end Vm
namespace Vm
open Go Go.Proofs
set_option maxRecDepth 100000
set_option maxHeartbeats 1000000
@[simp] theorem szV_btV(b:Bt):szV (btV b) 14=some (btV b):=rfl
@[simp] theorem btV_cells(b:Bt):(btV b).cells=btC b:=rfl
@[simp] theorem fldV_btV(b:Bt)(i:Nat):fldV (btV b) i=(btC b)[i]?.bind oneV:=rfl
theorem packW_range(s p:Int):0≤(packW s p).1∧(packW s p).1<100000000:=by
 unfold packW
 split
 ·rename_i h
  obtain⟨h1,h2,h3,h4⟩:=shapeOk_iff.1 h
  simp only;omega
 ·simp
theorem addrL_range(l:Ly)(hl:l.fits)(p a:Int):0≤(addrL l p a).1∧(addrL l p a).1≤9223372036854775807:=by
 unfold addrL
 split
 ·simp
 ·rename_i hr
  have hr':rightL l=true:=by simpa using hr
  split
  ·simp
  ·split
   ·simp
   ·have:=fstL_range hr' p
    simp only;omega
theorem ptrTo_range{a:Int}:0≤(ptrTo a).1∧(ptrTo a).1<18446744073709551616:=by
 unfold ptrTo
 split
 ·simp
 ·simp only;omega
def refB(h:Hp)(p:Pl):Int:=if p.part=0 then 0 else(ptrTo (addrL (layH h) p.part p.at_).1).1
theorem refB_range(h:Hp)(p:Pl):U64 (refB h p):=by
 unfold refB
 split
 ·exact⟨by omega,by omega⟩
 ·exact ptrTo_range
theorem refB_vc{b:Bt}(hb:(layH b.h).fits){p:Pl}:VC Try.prog 87 false [btV b,plV p] (vu (refB b.h p)):=by
 refine vc_of_wp Try.func87 follows (by kernel_rfl) c87 rfl ?_
 by_cases h0:p.part=0
 ·simp[p87,btC,refB,h0]
 ·have hr:=addrL_range (layH b.h) hb p.part p.at_
  simp[p87,btC,h0]
  refine callW_of (refLayout_vc (h:=b.h)) (by simp[hpV]) ?_
  simp
  refine callW_of (refAddrL_vc hb (part:=p.part) (at_:=p.at_)) (by simp) ?_
  simp
  refine callW_of (refPtrTo_vc (a:=(addrL (layH b.h) p.part p.at_).1) ⟨hr.1,by omega⟩) (by simp) ?_
  simp[refB,h0]
def slotB(b:Bt)(p:Pl)(to tw:Int):Int:=
 if to<0 then 0 else if 2<p.part then refB b.h ((b.old[to.toNat]?).getD ⟨0,0⟩)
 else if p.part=1∧b.h.scan≤p.at_∧(((b.here[to.toNat]?).getD ⟨0,0⟩).part=0∨0< ((b.old[to.toNat]?).getD ⟨0,0⟩).part∧tw%2=0)then refB b.h ((b.old[to.toNat]?).getD ⟨0,0⟩)
 else refB b.h ((b.here[to.toNat]?).getD ⟨0,0⟩)
theorem slotB_range(b:Bt)(p:Pl)(to tw:Int):U64 (slotB b p to tw):=by
 unfold slotB
 split
 ·exact⟨by omega,by omega⟩
 split
 ·exact refB_range _ _
 split<;>exact refB_range _ _
theorem tmod2(t:Int):t.tmod 2=0↔t%2=0:=by
 rw[Int.tmod_eq_emod]
 split<;>omega
theorem slotB_vc{b:Bt}(hb:(layH b.h).fits){p:Pl}{to tw:Int}(h1:to<b.here.length)(h2:to<b.old.length):VC Try.prog 101 false [btV b,plV p,vi to,vi tw] (vu (slotB b p to tw)):=by
 refine vc_of_wp Try.func101 follows (by kernel_rfl) c101 rfl ?_
 by_cases h0:to<0
 ·simp[p101,btC,slotB,h0]
 obtain⟨t,rfl⟩:=Int.eq_ofNat_of_zero_le (show 0≤to by omega)
 have g1:b.here[t]? =some (b.here[t]'(by omega)):=List.getElem?_eq_getElem (by omega)
 have g2:b.old[t]? =some (b.old[t]'(by omega)):=List.getElem?_eq_getElem (by omega)
 generalize b.here[t]'(by omega)=x at*
 generalize b.old[t]'(by omega)=y at*
 unfold slotB
 simp only[Int.toNat_natCast,g1,g2,Option.getD_some,if_neg h0]
 by_cases q1:2<p.part
 ·simp[p101,btC,q1,g2]
  refine callW_of (refB_vc hb (p:=y)) (by simp[btV]) ?_
  simp
 have k1:=refB_vc hb (p:=x)
 have k2:=refB_vc hb (p:=y)
 by_cases q2:p.part=1
 ·by_cases q3:b.h.scan≤p.at_
  ·by_cases q4:x.part=0
   ·simp[p101,btC,q1,q2,q3,q4,g1,g2]
    refine callW_of k2 (by simp[btV]) ?_
    simp
   ·by_cases q5:0<y.part
    ·by_cases q6:tw%2=0
     ·have q6':=(tmod2 tw).2 q6
      simp[p101,btC,q1,q2,q3,q4,q5,q6,q6',g1,g2]
      refine callW_of k2 (by simp[btV]) ?_
      simp
     ·have q6':=mt (tmod2 tw).1 q6
      simp[p101,btC,q1,q2,q3,q4,q5,q6,q6',g1,g2]
      refine callW_of k1 (by simp[btV]) ?_
      simp
    ·simp[p101,btC,q1,q2,q3,q4,q5,g1,g2]
     refine callW_of k1 (by simp[btV]) ?_
     simp
  ·simp[p101,btC,q1,q2,q3,g1,g2]
   refine callW_of k1 (by simp[btV]) ?_
   simp
 ·simp[p101,btC,q1,q2,g1,g2]
  refine callW_of k1 (by simp[btV]) ?_
  simp
@[simp] theorem put_vu(x y:Int):V.put (vu x) 0 [vu y]=vu y:=rfl
theorem set_step{l pre:List Int}{m:Nat}(h:pre.length=m)(hm:m<l.length)(z:Int):(pre++l.drop m).set m z=pre++ [z]++l.drop (m+1):=by
 subst h
 rw[List.set_append_right _ _ (Nat.le_refl _),Nat.sub_self,List.drop_eq_getElem_cons hm,List.set_cons_zero,List.append_assoc]
 rfl
def slotsB(b:Bt)(p:Pl)(a:Nat)(ps:List Int)(tw:Int):List Int:=(List.range ps.length).map fun i=>slotB b ⟨p.part,((a+1+i:Nat):Int)⟩ ((ps[i]?).getD 0) (IntKind.i64.wrap (tw+i))
def layL(b:Bt)(p:Pl)(a:Nat)(n:Nd)(tw:Int):List Int:=
 let l:=partH b.h p.part
 l.take a++ [(packW ((n.ptrs.length:Int)+n.data.length) n.ptrs.length).1]++slotsB b p a n.ptrs tw++n.data++l.drop (a+sizN n)
def layB(b:Bt)(p:Pl)(n:Nd)(tw:Int):Bt:= {b with h:=withH b.h p.part (layL b p p.at_.toNat n tw)}
theorem lay_vc{b:Bt}(hb:(layH b.h).fits){p:Pl}{n:Nd}{tw:Int}{a:Nat}(ha:p.at_=a)(hlen:(partH b.h p.part).length≤1000000)(hfit:a+sizN n≤(partH b.h p.part).length)
  (h1: ∀q∈n.ptrs,q<b.here.length∧q<b.old.length):VC Try.prog 86 false [btV b,plV p,ndV n,vi tw] (btV (layB b p n tw)):=by
 refine vc_of_wp Try.func86 follows (by kernel_rfl) c86 rfl ?_
 have hlim:(partH b.h p.part).length≤lim:=by simp[lim];omega
 have w1:=wrap_i ((n.ptrs.length:Int)+n.data.length) (by unfold sizN at hfit;omega) (by unfold sizN at hfit;omega)
 unfold layB
 rw[show p.at_.toNat=a by omega]
 simp[p86,btC]
 refine callW_of (Part_vc (h:=b.h) (n:=p.part)) (by simp[hpV]) ?_
 simp[hlim,w1]
 refine callW_of (refPack_vc (s:=(n.ptrs.length:Int)+n.data.length) (p:=n.ptrs.length)) (by simp) ?_
 have hpl:a< (partH b.h p.part).length:=by unfold sizN at hfit;omega
 simp[ha,hpl]
 generalize hl0:partH b.h p.part=l at*
 generalize hhd:(packW ((n.ptrs.length:Int)+n.data.length) n.ptrs.length).1=hd at*
 have hset0:(l.map vu).set a (vu hd)=((l.take a++ [hd])++l.drop (a+1)).map vu:=by
  rw[←List.map_set]
  congr 1
  have:=set_step (l:=l) (pre:=l.take a) (m:=a) (by simp;omega) hpl hd
  rw[List.take_append_drop]at this
  exact this
 simp only[put_vu,hset0]
 have hw1:=wrap_i ((a:Int)+1) (by omega) (by omega)
 have hnp:n.ptrs.length≤l.length:=by unfold sizN at hfit;omega
 have hsl:(slotsB b p a n.ptrs tw).length=n.ptrs.length:=by simp[slotsB]
 refine wpS_for 11 n.ptrs.length (fun k=> [(8,.v (.sl (((l.take a++ [hd]++(slotsB b p a n.ptrs tw).take k)++l.drop (a+1+k)).map vu))),(11,.v (vi k))]) (fun _=>True) (by simp) (fun i=>by simp) trivial ?_
 rintro k hk-
 have hwk:=wrap_i ((k:Int)+1) (by omega) (by omega)
 have hw2:=wrap_i ((a:Int)+1+k) (by omega) (by omega)
 by_cases hkl:k<n.ptrs.length
 ·have hq:n.ptrs[k]? =some n.ptrs[k]:=List.getElem?_eq_getElem hkl
  obtain⟨q1,q2⟩:=h1 _ (List.getElem_mem hkl)
  have hslot:=slotB_vc hb (p:=⟨p.part,((a+1+k:Nat):Int)⟩) (to:=n.ptrs[k]) (tw:=IntKind.i64.wrap (tw+k)) q1 q2
  have hsk:(slotsB b p a n.ptrs tw)[k]? =some (slotB b ⟨p.part,((a+1+k:Nat):Int)⟩ n.ptrs[k] (IntKind.i64.wrap (tw+k))):=by
   simp[slotsB,hkl]
  generalize n.ptrs[k]=q at*
  generalize slotB b ⟨p.part,((a+1+k:Nat):Int)⟩ q (IntKind.i64.wrap (tw+k))=z at*
  have htk:(slotsB b p a n.ptrs tw).take (k+1)=(slotsB b p a n.ptrs tw).take k++ [z]:=by rw[List.take_add_one,hsk];rfl
  have hpre:(l.take a++ [hd]++(slotsB b p a n.ptrs tw).take k).length=a+1+k:=by simp[hsl];omega
  have hm:a+1+k<l.length:=by unfold sizN at hfit;omega
  have hst:=set_step (l:=l) hpre hm z
  generalize hpp:l.take a++ [hd]++(slotsB b p a n.ptrs tw).take k=pre at*
  have hall: ∃x,((pre++l.drop (a+1+k)).map vu)[a+1+k]? =some (vu x):=by
   refine⟨l[a+1+k],?_⟩
   rw[List.getElem?_map,List.getElem?_append_right (by omega),hpre,Nat.sub_self,List.drop_eq_getElem_cons hm]
   rfl
  have hset:((pre++l.drop (a+1+k)).map vu).set (a+1+k) (vu z)=(pre++ [z]++l.drop (a+1+(k+1))).map vu:=by
   rw[←List.map_set,hst];rfl
  obtain⟨m,hmn⟩: ∃m:Nat,a+1+k=m:=⟨_,rfl⟩
  have hmi:(a:Int)+1+k=m:=by omega
  have hwm:=wrap_i (m:Int) (by omega) (by omega)
  rw[show a+1+(k+1)=a+1+k+1 by omega]at hset⊢
  rw[hmn]at hall hset hslot⊢
  generalize hLL:(pre++l.drop m).map vu=LL at hall hset⊢
  rw[htk]
  obtain⟨y,hy⟩:=hall
  simp[hkl,hq,at_of hq,hw1,hw2,hmi,hwm]
  refine callW_of hslot (by simp[btV]) ?_
  simp[hy,hset,hwk,hkl,hw1,hmi,hwm]
  rw[←hpp]
  simp
 ·have:k=n.ptrs.length:=by omega
  subst this
  rw[show(slotsB b p a n.ptrs tw).take n.ptrs.length=slotsB b p a n.ptrs tw from List.take_of_length_le (by omega)]
  have hw3:=wrap_i ((a:Int)+1+n.ptrs.length) (by omega) (by omega)
  have hw4: ∀j:Nat,j≤1000+n.data.length→IntKind.i64.wrap ((a:Int)+1+n.ptrs.length+j)=(a:Int)+1+n.ptrs.length+j:=fun j hj=>wrap_i _ (by omega) (by unfold sizN at hfit;omega)
  generalize hsp:l.take a++ [hd]++slotsB b p a n.ptrs tw=sp at*
  have hspl:sp.length=a+1+n.ptrs.length:=by rw[←hsp];simp[hsl];omega
  simp
  refine wpS_for 13 n.data.length (fun k=> [(8,.v (.sl (((sp++n.data.take k)++l.drop (a+1+n.ptrs.length+k)).map vu))),(13,.v (vi k))]) (fun _=>True) (by simp) (fun i=>by simp) trivial ?_
  rintro k hk-
  have hwk:=wrap_i ((k:Int)+1) (by omega) (by unfold sizN at hfit;omega)
  by_cases hkl:k<n.data.length
  ·have hq:n.data[k]? =some n.data[k]:=List.getElem?_eq_getElem hkl
   generalize n.data[k]=z at*
   have htk:n.data.take (k+1)=n.data.take k++ [z]:=by rw[List.take_add_one,hq];rfl
   have hpre:(sp++n.data.take k).length=a+1+n.ptrs.length+k:=by simp[hspl];omega
   have hm:a+1+n.ptrs.length+k<l.length:=by unfold sizN at hfit;omega
   have hst:=set_step (l:=l) hpre hm z
   generalize hpp:sp++n.data.take k=pre at*
   have hall: ∃x,((pre++l.drop (a+1+n.ptrs.length+k)).map vu)[a+1+n.ptrs.length+k]? =some (vu x):=by
    refine⟨l[a+1+n.ptrs.length+k],?_⟩
    rw[List.getElem?_map,List.getElem?_append_right (by omega),hpre,Nat.sub_self,List.drop_eq_getElem_cons hm]
    rfl
   have hset:((pre++l.drop (a+1+n.ptrs.length+k)).map vu).set (a+1+n.ptrs.length+k) (vu z)=(pre++ [z]++l.drop (a+1+n.ptrs.length+k+1)).map vu:=by
    rw[←List.map_set,hst]
   rw[show a+1+n.ptrs.length+(k+1)=a+1+n.ptrs.length+k+1 by omega]
   have hw5:=hw4 k (by omega)
   obtain⟨m,hmn⟩: ∃m:Nat,a+1+n.ptrs.length+k=m:=⟨_,rfl⟩
   have hmi:(a:Int)+1+n.ptrs.length+k=m:=by omega
   have hwm:=wrap_i (m:Int) (by omega) (by omega)
   rw[hmn]at hall hset⊢
   generalize hLL:(pre++l.drop m).map vu=LL at hall hset⊢
   rw[htk]
   obtain⟨y,hy⟩:=hall
   simp[hkl,hq,at_of hq,hw1,hw3,hw5,hmi,hwm,hy,hset,hwk]
   rw[←hpp]
   simp
  ·have:k=n.data.length:=by omega
   subst this
   rw[show n.data.take n.data.length=n.data from List.take_length]
   have hwith:=With_vc (h:=b.h) (n:=p.part) (l:=sp++n.data++l.drop (a+1+n.ptrs.length+n.data.length))
   have hlay:layL b p a n tw=sp++n.data++l.drop (a+1+n.ptrs.length+n.data.length):=by
    unfold layL
    rw[hl0,hhd]
    dsimp only
    rw[hsp,show a+sizN n=a+1+n.ptrs.length+n.data.length by unfold sizN;omega]
   rw[hlay]
   generalize sp++n.data++l.drop (a+1+n.ptrs.length+n.data.length)=fin at*
   simp
   refine callW_of hwith (by simp[hpV]) ?_
   simp[btV]
end Vm
namespace Vm
open Go Go.Proofs
set_option maxRecDepth 100000
set_option maxHeartbeats 1000000
def wOk(h:Hp):Prop:=(∀k,∀w∈partH h k,U64 w)∧ ∀w∈h.roots,U64 w
structure BOk (b:Bt):Prop where
 lay:(layH b.h).fits
 hl:b.here.length=b.g.nodes.length
 ol:b.old.length=b.g.nodes.length
 nn:b.g.nodes.length≤10
 ptr: ∀n∈b.g.nodes,∀q∈n.ptrs,q< (b.g.nodes.length:Int)
 dat: ∀n∈b.g.nodes,∀q∈n.data,U64 q
 rts: ∀q∈b.g.roots,q< (b.g.nodes.length:Int)
 rl:b.g.roots.length≤5
 here: ∀(i:Nat) (p:Pl) (n:Nd),b.here[i]? =some p→b.g.nodes[i]? =some n→p=⟨0,0⟩∨ ∃a:Nat,p.at_=a∧(p.part=1∨p.part=2)∧a+sizN n≤(partH b.h p.part).length
 old: ∀(i:Nat) (p:Pl) (n:Nd),b.old[i]? =some p→b.g.nodes[i]? =some n→p=⟨0,0⟩∨ ∃a:Nat,p.at_=a∧(p.part=3∨p.part=4)∧a+sizN n≤(partH b.h p.part).length
 len: ∀k,(partH b.h k).length≤1000
 words:wOk b.h
theorem partH_len{h h':Hp}(hl:layH h'=layH h)(k:Int):(partH h' k).length=(partH h k).length:=by
 simp only[layH,Ly.mk.injEq]at hl
 unfold partH
 split
 ·omega
 split
 ·omega
 split<;>omega
theorem BOk.keep{b:Bt}(hb:BOk b){h':Hp}(hl:layH h'=layH b.h)(hw:wOk h'):BOk {b with h:=h'} where
 lay:=by show(layH h').fits;rw[hl];exact hb.lay
 hl:=hb.hl
 ol:=hb.ol
 nn:=hb.nn
 ptr:=hb.ptr
 dat:=hb.dat
 rts:=hb.rts
 rl:=hb.rl
 here:=fun i p n hp hn=>by
  rcases hb.here i p n hp hn with h| ⟨a,h1,h2,h3⟩
  ·exact .inl h
  ·exact .inr ⟨a,h1,h2,by show _≤(partH h' p.part).length;rw[partH_len hl];exact h3⟩
 old:=fun i p n hp hn=>by
  rcases hb.old i p n hp hn with h| ⟨a,h1,h2,h3⟩
  ·exact .inl h
  ·exact .inr ⟨a,h1,h2,by show _≤(partH h' p.part).length;rw[partH_len hl];exact h3⟩
 len:=fun k=>by show(partH h' k).length≤1000;rw[partH_len hl];exact hb.len k
 words:=hw
theorem withH_lay{h:Hp}{p:Int}{l:List Int}(hl:l.length=(partH h p).length):layH (withH h p l)=layH h:=by
 unfold withH partH at*
 split
 ·rename_i e;rw[if_pos e]at hl;simp[layH,hl]
 rename_i e1
 rw[if_neg e1]at hl
 split
 ·rename_i e;rw[if_pos e]at hl;simp[layH,hl]
 rename_i e2
 rw[if_neg e2]at hl
 split
 ·rename_i e;rw[if_pos e]at hl;simp[layH,hl]
 ·rename_i e3;rw[if_neg e3]at hl;simp[layH,hl]
theorem withH_words{h:Hp}{p:Int}{l:List Int}(hh:wOk h)(hl: ∀w∈l,U64 w):wOk (withH h p l):=by
 have h1:=hh.1 1
 have h2:=hh.1 2
 have h3:=hh.1 3
 have h4:=hh.1 4
 simp only[partH1,partH2,partH3,partH4]at h1 h2 h3 h4
 have key: ∀h':Hp,(∀w∈h'.low,U64 w)→(∀w∈h'.high,U64 w)→(∀w∈h'.old,U64 w)→(∀w∈h'.far,U64 w)→(∀w∈h'.roots,U64 w)→wOk h':=fun h' k1 k2 k3 k4 k5=>by
  refine⟨fun k=> ?_,k5⟩
  unfold partH
  split
  ·exact k1
  split
  ·exact k2
  split
  ·exact k3
  ·exact k4
 unfold withH
 split
 ·exact key _ hl h2 h3 h4 hh.2
 split
 ·exact key _ h1 hl h3 h4 hh.2
 split
 ·exact key _ h1 h2 hl h4 hh.2
 ·exact key _ h1 h2 h3 hl hh.2
theorem layL_length{b:Bt}{p:Pl}{a:Nat}{n:Nd}{tw:Int}(hf:a+sizN n≤(partH b.h p.part).length):(layL b p a n tw).length=(partH b.h p.part).length:=by
 unfold layL
 unfold sizN at*
 simp[slotsB]
 omega
theorem layL_words{b:Bt}{p:Pl}{a:Nat}{n:Nd}{tw:Int}(hw:wOk b.h)(hn: ∀q∈n.data,U64 q): ∀w∈layL b p a n tw,U64 w:=by
 intro w hm
 unfold layL at hm
 simp only[List.mem_append,List.mem_singleton]at hm
 rcases hm with (((hm|hm) |hm) |hm) |hm
 ·exact hw.1 _ w (List.mem_of_mem_take hm)
 ·subst hm
  have:=packW_range ((n.ptrs.length:Int)+n.data.length) n.ptrs.length
  exact⟨this.1,by omega⟩
 ·simp only[slotsB,List.mem_map]at hm
  obtain⟨i,_,rfl⟩:=hm
  exact slotB_range _ _ _ _
 ·exact hn w hm
 ·exact hw.1 _ w (List.mem_of_mem_drop hm)
def fillA(x:Rw)(b:Bt)(i:Nat)(n:Nd)(p:Pl):Bt:=if 0<p.part then layB b p n (IntKind.i64.wrap (x.slack+i))else b
def fillO(b:Bt)(n:Nd)(p o:Pl):Bt:=if 0<o.part∧p.part=0 then layB b o n 0 else b
def fillG(b:Bt)(p o:Pl):Bt:=if 0<o.part∧0<p.part then {b with h:=withH b.h o.part ((partH b.h o.part).set o.at_.toNat (refB b.h p))}else b
def fillS(x:Rw)(b:Bt)(i:Nat):Bt:=
 let n:=(b.g.nodes[i]?).getD default
 let p:=(b.here[i]?).getD ⟨0,0⟩
 let o:=(b.old[i]?).getD ⟨0,0⟩
 fillG (fillO (fillA x b i n p) n p o) p o
structure Like (b b':Bt):Prop where
 g:b'.g=b.g
 here:b'.here=b.here
 old:b'.old=b.old
 lay:layH b'.h=layH b.h
 words:wOk b'.h
 scan:b'.h.scan=b.h.scan
 cycle:b'.h.cycle=b.h.cycle
theorem Like.ok{b b':Bt}(hl:Like b b')(hb:BOk b):BOk b':=by
 obtain⟨h',g',here',old'⟩:=b'
 obtain⟨h1,h2,h3,h4,h5,_⟩:=hl
 simp only at h1 h2 h3 h4 h5
 subst h1 h2 h3
 exact hb.keep h4 h5
theorem Like.trans{a b c:Bt}(h:Like a b)(k:Like b c):Like a c:=⟨k.g.trans h.g,k.here.trans h.here,k.old.trans h.old,k.lay.trans h.lay,k.words,k.scan.trans h.scan,k.cycle.trans h.cycle⟩
theorem withH_scan(h:Hp)(p:Int)(l:List Int):(withH h p l).scan=h.scan∧(withH h p l).cycle=h.cycle:=by
 unfold withH
 split
 ·exact⟨rfl,rfl⟩
 split
 ·exact⟨rfl,rfl⟩
 split<;>exact⟨rfl,rfl⟩
theorem like_with{b:Bt}(hb:BOk b){p:Int}{l:List Int}(hl:l.length=(partH b.h p).length)(hw: ∀w∈l,U64 w):Like b {b with h:=withH b.h p l}:=
 ⟨rfl,rfl,rfl,withH_lay hl,withH_words hb.words hw,(withH_scan _ _ _).1,(withH_scan _ _ _).2⟩
theorem like_refl{b:Bt}(hb:BOk b):Like b b:=⟨rfl,rfl,rfl,rfl,hb.words,rfl,rfl⟩
theorem like_lay{b:Bt}(hb:BOk b){p:Pl}{n:Nd}{tw:Int}{a:Nat}(ha:p.at_=a)(hf:a+sizN n≤(partH b.h p.part).length)(hn: ∀q∈n.data,U64 q):Like b (layB b p n tw):=by
 unfold layB
 rw[ha,Int.toNat_natCast]
 exact like_with hb (layL_length hf) (layL_words hb.words hn)
theorem like_A{x:Rw}{b:Bt}(hb:BOk b){i:Nat}{n:Nd}{p:Pl}(hn:b.g.nodes[i]? =some n)(hp:b.here[i]? =some p):Like b (fillA x b i n p):=by
 unfold fillA
 split
 ·rename_i h0
  rcases hb.here i p n hp hn with rfl| ⟨a,h1,h2,h3⟩
  ·simp at h0
  ·exact like_lay hb h1 h3 (hb.dat n (List.mem_of_getElem? hn))
 ·exact like_refl hb
theorem like_O{b:Bt}(hb:BOk b){i:Nat}{n:Nd}{p o:Pl}(hn:b.g.nodes[i]? =some n)(ho:b.old[i]? =some o):Like b (fillO b n p o):=by
 unfold fillO
 split
 ·rename_i h0
  rcases hb.old i o n ho hn with rfl| ⟨a,h1,h2,h3⟩
  ·simp at h0
  ·exact like_lay hb h1 h3 (hb.dat n (List.mem_of_getElem? hn))
 ·exact like_refl hb
theorem like_G{b:Bt}(hb:BOk b){p o:Pl}:Like b (fillG b p o):=by
 unfold fillG
 split
 ·refine like_with hb (by simp) fun w hw=> ?_
  rcases List.mem_or_eq_of_mem_set hw with h|rfl
  ·exact hb.words.1 _ w h
  ·exact refB_range _ _
 ·exact like_refl hb
theorem like_S{x:Rw}{b:Bt}(hb:BOk b){i:Nat}(hi:i<b.g.nodes.length):Like b (fillS x b i):=by
 have hn:b.g.nodes[i]? =some b.g.nodes[i]:=List.getElem?_eq_getElem hi
 have hp:b.here[i]? =some (b.here[i]'(by rw[hb.hl];exact hi)):=List.getElem?_eq_getElem _
 have ho:b.old[i]? =some (b.old[i]'(by rw[hb.ol];exact hi)):=List.getElem?_eq_getElem _
 unfold fillS
 simp only[hn,hp,ho,Option.getD_some]
 have h1:=like_A (x:=x) hb hn hp
 have h2:=like_O (p:=b.here[i]'(by rw[hb.hl];exact hi)) (h1.ok hb) (by rw[h1.g];exact hn) (by rw[h1.old];exact ho)
 exact(h1.trans h2).trans (like_G (h2.ok (h1.ok hb)))
def fillN(x:Rw)(b:Bt):Nat→Bt
 |0=>b
 |i+1=>fillS x (fillN x b i) i
theorem like_N{x:Rw}{b:Bt}(hb:BOk b): ∀i,i≤b.g.nodes.length→Like b (fillN x b i)
 |0,_=>like_refl hb
 |i+1,hi=>by
  have h:=like_N (x:=x) hb i (by omega)
  exact h.trans (like_S (h.ok hb) (by rw[h.g];omega))
def fillH(x:Rw)(b:Bt):Hp:=
 let b':=fillN x b b.g.nodes.length
 {b'.h with roots:=b.g.roots.map fun r=>if 0≤r then refB b'.h ((b.here[r.toNat]?).getD ⟨0,0⟩)else 0}
theorem fill_vc{x:Rw}(hx:x.ok){b:Bt}(hb:BOk b):VC Try.prog 52 false [btV b,rwV x] (hpV (fillH x b)):=by
 refine vc_of_wp Try.func52 follows (by kernel_rfl) c52 rfl ?_
 simp[p52,btC]
 refine wpS_for 5 b.g.nodes.length (fun i=> [(2,.m (btC (fillN x b i))),(5,.v (vi i))]) (fun _=>True) (by simp[fillN,btC]) (fun i=>by simp) trivial ?_
 rintro i hi-
 have hlk:=like_N (x:=x) hb i hi
 have hw:=wrap_i ((i:Int)+1) (by have:=hb.nn;omega) (by have:=hb.nn;omega)
 by_cases h:i<b.g.nodes.length
 ·have hb':=hlk.ok hb
  simp only[fillN]
  have hi':i< (fillN x b i).g.nodes.length:=by rw[hlk.g];exact h
  generalize hbb:fillN x b i=c at*
  have hn:c.g.nodes[i]? =some c.g.nodes[i]:=List.getElem?_eq_getElem hi'
  have hp:c.here[i]? =some (c.here[i]'(by rw[hb'.hl];exact hi')):=List.getElem?_eq_getElem _
  have ho:c.old[i]? =some (c.old[i]'(by rw[hb'.ol];exact hi')):=List.getElem?_eq_getElem _
  unfold fillS
  simp only[hn,hp,ho,Option.getD_some]
  generalize c.g.nodes[i]=n at*
  generalize c.here[i]'(by rw[hb'.hl];exact hi')=p at*
  generalize c.old[i]'(by rw[hb'.ol];exact hi')=o at*
  have hpn: ∀q∈n.ptrs,q< (c.here.length:Int)∧q< (c.old.length:Int):=fun q hq=>by
   have:=hb'.ptr n (List.mem_of_getElem? hn) q hq
   rw[hb'.hl,hb'.ol];exact⟨this,this⟩
  have kA:=like_A (x:=x) hb' hn hp
  have bA:=kA.ok hb'
  have kO:=like_O (p:=p) bA (by rw[kA.g];exact hn) (by rw[kA.old];exact ho)
  have bO:=kO.ok bA
  have hgl:c.g.nodes.length=b.g.nodes.length:=by rw[hlk.g]
  have hge:c.g=b.g:=hlk.g
  have hlay:0<p.part→VC Try.prog 86 false [btV c,plV p,ndV n,vi (IntKind.i64.wrap (x.slack+i))] (btV (layB c p n (IntKind.i64.wrap (x.slack+i)))):=fun h0=>by
   rcases hb'.here i p n hp hn with rfl| ⟨a,h1,h2,h3⟩
   ·simp at h0
   ·exact lay_vc hb'.lay h1 (by have:=hb'.len p.part;omega) h3 hpn
  have hlayO:0<o.part→VC Try.prog 86 false [btV c,plV o,ndV n,vi 0] (btV (layB c o n 0)):=fun h0=>by
   rcases hb'.old i o n ho hn with rfl| ⟨a,h1,h2,h3⟩
   ·simp at h0
   ·exact lay_vc hb'.lay h1 (by have:=hb'.len o.part;omega) h3 hpn
  have hpp:p.part=0∨0<p.part:=by
   rcases hb'.here i p n hp hn with rfl| ⟨a,h1,h2,h3⟩
   ·exact .inl rfl
   ·exact .inr (by omega)
  have hoo:o.part=0∨0<o.part:=by
   rcases hb'.old i o n ho hn with rfl| ⟨a,h1,h2,h3⟩
   ·exact .inl rfl
   ·exact .inr (by omega)
  rcases hpp with hp0|hp0
  ·rcases hoo with ho0|ho0
   ·simp[btC,h,hi',hgl,hn,hp,ho,at_of hn,at_of hp,at_of ho,fillA,fillO,fillG,hp0,ho0,hw]
   ·have hne: ¬0<p.part:=by omega
    have hlk2:Like c (layB c o n 0):=by
     have:=like_O (p:=p) hb' hn ho
     unfold fillO at this
     rwa[if_pos ⟨ho0,hp0⟩]at this
    have hlO:=hlayO ho0
    simp[btC,h,hi',hgl,hn,hp,ho,at_of hn,at_of hp,at_of ho,fillA,fillO,fillG,hp0,ho0,hw]
    generalize layB c o n 0=d at*
    obtain⟨d1,d2,d3,d4,d5,_,_⟩:=hlk2
    refine callW_of hlO (by simp[btV]) ?_
    simp[btC,d1,d2,d3,hn,hp,ho,at_of hn,at_of hp,at_of ho,hp0,ho0,hw,h]
  ·have hne0: ¬p.part=0:=by omega
   have hlk2:Like c (layB c p n (IntKind.i64.wrap (x.slack+i))):=by
    have:=like_A (x:=x) hb' hn hp
    unfold fillA at this
    rwa[if_pos hp0]at this
   have hlA:=hlay hp0
   have bd:=hlk2.ok hb'
   rcases hoo with ho0|ho0
   ·simp[btC,h,hi',hgl,hn,hp,ho,at_of hn,at_of hp,at_of ho,fillA,fillO,fillG,hp0,ho0,hne0,hw]
    generalize layB c p n (IntKind.i64.wrap (x.slack+i))=d at*
    obtain⟨d1,d2,d3,d4,d5,_,_⟩:=hlk2
    refine callW_of hlA (by simp[btV]) ?_
    simp[btC,d1,d2,d3,hn,hp,ho,at_of hn,at_of hp,at_of ho,hp0,ho0,hne0,hw,h]
   ·simp[btC,h,hi',hgl,hn,hp,ho,at_of hn,at_of hp,at_of ho,fillA,fillO,fillG,hp0,ho0,hne0,hw]
    generalize layB c p n (IntKind.i64.wrap (x.slack+i))=d at*
    obtain⟨d1,d2,d3,d4,d5,_,_⟩:=hlk2
    refine callW_of hlA (by simp[btV]) ?_
    simp[btC,d1,d2,d3,hn,hp,ho,at_of hn,at_of hp,at_of ho,hp0,ho0,hne0,hw,h]
    rcases hb'.old i o n ho hn with rfl| ⟨a,h1,h2,h3⟩
    ·simp at ho0
    have hdl:=bd.len o.part
    have hlim:(partH d.h o.part).length≤lim:=by simp[lim];omega
    have hal:a< (partH d.h o.part).length:=by
     have:=partH_len d4 o.part
     unfold sizN at h3
     omega
    refine callW_of (Part_vc (h:=d.h) (n:=o.part)) (by simp[hpV]) ?_
    simp[hlim,hp]
    refine callW_of (refB_vc (b:=⟨d.h,c.g,c.here,c.old⟩) bd.lay (p:=p)) (by simp) ?_
    simp[h1,hal,ho,at_of ho]
    have hwith:=With_vc (h:=d.h) (n:=o.part) (l:=(partH d.h o.part).set a (refB d.h p))
    rw[List.map_set]at hwith
    refine callW_of hwith (by simp[hpV]) ?_
    simp[hw,h,d1,d2,d3]
 ·have:i=b.g.nodes.length:=by omega
  subst this
  have bd:=hlk.ok hb
  unfold fillH
  generalize fillN x b b.g.nodes.length=d at*
  obtain⟨d1,d2,d3,d4,d5,_,_⟩:=hlk
  simp[btC,d1,d2,d3]
  refine wpS_for 13 b.g.roots.length (fun k=> [(12,.v (.sl ((b.g.roots.take k).map fun r=>vu (if 0≤r then refB d.h ((b.here[r.toNat]?).getD ⟨0,0⟩)else 0)))),(13,.v (vi k))]) (fun _=>True) (by simp) (fun i=>by simp) trivial ?_
  rintro k hk-
  have hrl:=hb.rl
  have hwk:=wrap_i ((k:Int)+1) (by omega) (by omega)
  by_cases hkl:k<b.g.roots.length
  ·have hr:b.g.roots[k]? =some b.g.roots[k]:=List.getElem?_eq_getElem hkl
   have hrn:=hb.rts _ (List.getElem_mem hkl)
   generalize b.g.roots[k]=r at*
   have htk:b.g.roots.take (k+1)=b.g.roots.take k++ [r]:=by rw[List.take_add_one,hr];rfl
   have hlim:min k b.g.roots.length+1≤lim:=by simp[lim];omega
   by_cases h0:0≤r
   ·obtain⟨q,rfl⟩:=Int.eq_ofNat_of_zero_le h0
    have hq:b.here[q]? =some (b.here[q]'(by rw[hb.hl];omega)):=List.getElem?_eq_getElem _
    generalize b.here[q]'(by rw[hb.hl];omega)=p at*
    simp[hkl,hr,at_of hr,hq,at_of hq]
    refine callW_of (refB_vc (b:=⟨d.h,b.g,b.here,b.old⟩) bd.lay (p:=p)) (by simp) ?_
    simp[hwk,hlim,hkl]
    rw[List.take_add_one,List.getElem?_map,hr]
    simp[hq]
   ·simp[hkl,hr,at_of hr,h0,hwk,hlim,htk,hkl]
  ·have:k=b.g.roots.length:=by omega
   subst this
   simp[hpV]
end Vm
namespace Vm
open Go Go.Proofs
set_option maxRecDepth 100000
set_option maxHeartbeats 1000000
def PIn(s:St8)(p:Pl)(sz:Nat):Prop:=p=⟨0,0⟩∨ ∃a:Nat,p.at_=a∧((p.part=1∧a+sz≤s.n1)∨(p.part=2∧a+sz≤s.n2))
def POl(s:St8)(p:Pl)(sz:Nat):Prop:=p=⟨0,0⟩∨ ∃a:Nat,p.at_=a∧((p.part=3∧a+sz≤s.n3)∨(p.part=4∧a+sz≤s.n4))
theorem stStep_le{x:Rw}{cycle:Bool}{sz i:Nat}{s:St8}:s.n1≤(stStep x cycle sz i s).n1∧s.n2≤(stStep x cycle sz i s).n2∧s.n3≤(stStep x cycle sz i s).n3∧s.n4≤(stStep x cycle sz i s).n4:=by
 unfold stStep
 refine⟨?_,?_,?_,?_⟩<;>dsimp only<;>split<;>omega
theorem PIn.mono{s t:St8}{p:Pl}{sz:Nat}(h:PIn s p sz)(h1:s.n1≤t.n1)(h2:s.n2≤t.n2):PIn t p sz:=by
 rcases h with h| ⟨a,ha,⟨hp,h⟩ | ⟨hp,h⟩⟩
 ·exact .inl h
 ·exact .inr ⟨a,ha,.inl ⟨hp,by omega⟩⟩
 ·exact .inr ⟨a,ha,.inr ⟨hp,by omega⟩⟩
theorem POl.mono{s t:St8}{p:Pl}{sz:Nat}(h:POl s p sz)(h1:s.n3≤t.n3)(h2:s.n4≤t.n4):POl t p sz:=by
 rcases h with h| ⟨a,ha,⟨hp,h⟩ | ⟨hp,h⟩⟩
 ·exact .inl h
 ·exact .inr ⟨a,ha,.inl ⟨hp,by omega⟩⟩
 ·exact .inr ⟨a,ha,.inr ⟨hp,by omega⟩⟩
theorem st_places{x:Rw}{cycle:Bool}{g:Gr}(hg: ∀n∈g.nodes,sizN n≤9): ∀i,i≤g.nodes.length→ ∀(j:Nat) (n:Nd),g.nodes[j]? =some n→
  (∀p,(stN x cycle g i).here[j]? =some p→PIn (stN x cycle g i) p (sizN n))∧(∀p,(stN x cycle g i).old[j]? =some p→POl (stN x cycle g i) p (sizN n))
 |0,_,j,n,hn=>⟨fun p hp=>by simp[stN]at hp,fun p hp=>by simp[stN]at hp⟩
 |i+1,hi,j,n,hn=>by
  obtain⟨h1,h2⟩:=st_places (x:=x) (cycle:=cycle) hg i (by omega) j n hn
  obtain⟨_,_,l1,l2⟩:=stN_bound (x:=x) (cycle:=cycle) hg i (by omega)
  have hgi:g.nodes[i]? =some g.nodes[i]:=List.getElem?_eq_getElem (by omega)
  simp only[stN,hgi,Option.getD_some]
  generalize stN x cycle g i=s at*
  obtain⟨q1,q2,q3,q4⟩:=stStep_le (x:=x) (cycle:=cycle) (sz:=sizN g.nodes[i]) (i:=i) (s:=s)
  have hjl:j<g.nodes.length:=(List.getElem?_eq_some_iff.1 hn).1
  constructor
  ·intro p hp
   by_cases hj:j<i
   ·have:s.here[j]? =some p:=by
     simp only[stStep]at hp
     rwa[List.getElem?_append_left (by omega)]at hp
    exact(h1 p this).mono q1 q2
   ·by_cases hji:j=i
    ·subst hji
     rw[hgi]at hn
     cases hn
     simp only[stStep]at hp
     rw[List.getElem?_append_right (by omega),l1,Nat.sub_self]at hp
     simp only[List.getElem?_cons_zero,Option.some.injEq]at hp
     subst hp
     unfold PIn
     rcases clsK_range x j cycle with hk|hk| ⟨hk,rfl⟩
     ·refine .inr ⟨s.n2,by simp[hk],.inr ⟨by simp[hk],by simp[stStep,hk]⟩⟩
     ·refine .inr ⟨s.n1,by simp[hk],.inl ⟨by simp[hk],by simp[stStep,hk]⟩⟩
     ·exact .inl (by simp[hk])
    ·simp only[stStep]at hp
     have:=(List.getElem?_eq_some_iff.1 hp).1
     simp at this
     omega
  ·intro p hp
   by_cases hj:j<i
   ·have:s.old[j]? =some p:=by
     simp only[stStep]at hp
     rwa[List.getElem?_append_left (by omega)]at hp
    exact(h2 p this).mono q3 q4
   ·by_cases hji:j=i
    ·subst hji
     rw[hgi]at hn
     cases hn
     simp only[stStep]at hp
     rw[List.getElem?_append_right (by omega),l2,Nat.sub_self]at hp
     simp only[List.getElem?_cons_zero,Option.some.injEq]at hp
     subst hp
     unfold POl
     by_cases ho:(decide (0<clsK x j cycle)&&cycle)=true
     ·cases hf:clsF x j
      ·refine .inr ⟨s.n3,by simp[ho],.inl ⟨by simp[ho],by simp[stStep,ho,hf]⟩⟩
      ·refine .inr ⟨s.n4,by simp[ho],.inr ⟨by simp[ho],by simp[stStep,ho,hf]⟩⟩
     ·exact .inl (by simp only[ho];rfl)
    ·simp only[stStep]at hp
     have:=(List.getElem?_eq_some_iff.1 hp).1
     simp at this
     omega
theorem mkG_ptr(l:List Nd)(roots:List Int): ∀n∈(mkG l roots).nodes,∀q∈n.ptrs,-1≤q∧q< ((mkG l roots).nodes.length:Int):=by
 intro n hn q hq
 rw[mkG_nodes]
 simp only[mkG,List.mem_map]at hn
 obtain⟨y,_,rfl⟩:=hn
 simp only[mkNd,List.mem_map]at hq
 obtain⟨p,_,rfl⟩:=hq
 exact rp_in
theorem mkG_rts(l:List Nd)(roots:List Int): ∀q∈(mkG l roots).roots,-1≤q∧q< ((mkG l roots).nodes.length:Int):=by
 intro q hq
 rw[mkG_nodes]
 simp only[mkG]at hq
 split at hq
 ·simp at hq
  omega
 ·simp only[List.mem_map]at hq
  obtain⟨p,_,rfl⟩:=hq
  exact rp_in
theorem mkG_dat(l:List Nd)(roots:List Int)(hl: ∀n∈l,∀q∈n.data,U64 q): ∀n∈(mkG l roots).nodes,∀q∈n.data,U64 q:=by
 intro n hn q hq
 simp only[mkG,List.mem_map]at hn
 obtain⟨y,hy,rfl⟩:=hn
 simp only[mkNd]at hq
 exact hl y (List.mem_of_mem_take hy) q (List.mem_of_mem_take hq)
theorem stand_ok{x:Rw}(hx:x.ok)(cycle:Bool):BOk (standB x cycle)∧Fit (standB x cycle).h.scan∧rightL (layH (standB x cycle).h)=true:=by
 obtain⟨hb1,hb2,hb3⟩:=mkG_bounds x.nodes x.roots
 have hb5:=mkG_nodes x.nodes x.roots
 have hp:=mkG_ptr x.nodes x.roots
 have hr:=mkG_rts x.nodes x.roots
 have hd:=mkG_dat x.nodes x.roots hx.data
 unfold standB
 generalize mkG x.nodes x.roots=g at*
 have hsz: ∀n∈g.nodes,sizN n≤9:=fun n hn=>by have:=hb3 n hn;unfold sizN;omega
 obtain⟨s1,s2,s3,s4⟩:=stN_bound (x:=x) (cycle:=cycle) hsz g.nodes.length (Nat.le_refl _)
 have hpl:=st_places (x:=x) (cycle:=cycle) hsz g.nodes.length (Nat.le_refl _)
 dsimp only
 generalize stN x cycle g g.nodes.length=s at*
 have hsl:=pick_lt (c:=x.slack) (n:=12) (by omega)
 have hto:=pick_lt (c:=x.to) (n:=2) (by omega)
 obtain⟨cap,hcap⟩: ∃cap:Int,max ((s.n1:Int)+s.n2+s.wt) ((s.n3:Int)+s.n4)+pick x.slack 12=cap:=⟨_,rfl⟩
 rw[hcap]
 have hc0:0≤cap∧cap≤200:=by omega
 have h1:=Int.emod_nonneg x.base (show(9223372036854775808-2*cap)≠0 by omega)
 have h2:=Int.emod_lt_of_pos x.base (show 0< (9223372036854775808-2*cap)by omega)
 generalize x.base% (9223372036854775808-2*cap)=base at*
 have hscan:Fit (if cycle=true∧0<s.n1 then pick x.scan s.n1 else s.n1):=by
  split
  ·rename_i h
   have:=pick_lt (c:=x.scan) (n:=s.n1) (by omega)
   exact⟨by omega,by omega⟩
  ·exact⟨by omega,by omega⟩
 refine⟨⟨?_,?_,?_,?_,?_,?_,?_,?_,?_,?_,?_,?_⟩,hscan,?_⟩
 ·refine⟨⟨?_,?_⟩,⟨?_,?_⟩,⟨?_,?_⟩,⟨?_,?_⟩,⟨?_,?_⟩,⟨?_,?_⟩,⟨?_,?_⟩⟩<;>simp[layH]<;>omega
 ·exact s3
 ·exact s4
 ·show g.nodes.length≤10
  omega
 ·exact fun n hn q hq=>(hp n hn q hq).2
 ·exact hd
 ·exact fun q hq=>(hr q hq).2
 ·exact hb2
 ·intro i p n hpi hni
  rcases(hpl i n hni).1 p hpi with h| ⟨a,ha,⟨hpp,h⟩ | ⟨hpp,h⟩⟩
  ·exact .inl h
  ·exact .inr ⟨a,ha,.inl hpp,by rw[hpp];simpa using h⟩
  ·exact .inr ⟨a,ha,.inr hpp,by rw[hpp];simpa using h⟩
 ·intro i p n hpi hni
  rcases(hpl i n hni).2 p hpi with h| ⟨a,ha,⟨hpp,h⟩ | ⟨hpp,h⟩⟩
  ·exact .inl h
  ·exact .inr ⟨a,ha,.inl hpp,by rw[hpp];simpa using h⟩
  ·exact .inr ⟨a,ha,.inr hpp,by rw[hpp];simpa using h⟩
 ·intro k
  unfold partH
  split
  ·simp;omega
  split
  ·simp;omega
  split<;>simp<;>omega
 ·refine⟨fun k=> ?_,by simp⟩
  have hrep: ∀m:Nat,∀w∈List.replicate m (0:Int),U64 w:=fun m w hw=>by
   have:=(List.mem_replicate.1 hw).2
   subst this
   exact⟨by omega,by omega⟩
  unfold partH
  split
  ·exact hrep _
  split
  ·exact hrep _
  split<;>exact hrep _
 ·refine rightL_iff.2 ?_
  simp only[layH,List.length_replicate]
  omega
def stillX(x:Rw):Hp:=fillH x (standB x false)
def heapX(x:Rw):Hp:=if(standB x true).h.low.length=0 then stillX x else fillH x (standB x true)
theorem Still_vc{x:Rw}(hx:x.ok):VC Try.prog 45 false [rwV x] (hpV (stillX x)):=by
 refine vc_of_wp Try.func45 follows (by kernel_rfl) c45 rfl ?_
 simp[p45]
 refine callW_of (stand_vc hx (cycle:=false)) (by simp[rwV]) ?_
 simp
 refine callW_of (fill_vc hx (stand_ok hx false).1) (by simp) ?_
 simp
 rfl
theorem Heap_vc{x:Rw}(hx:x.ok):VC Try.prog 16 false [rwV x] (hpV (heapX x)):=by
 refine vc_of_wp Try.func16 follows (by kernel_rfl) c16 rfl ?_
 simp[p16]
 refine callW_of (stand_vc hx (cycle:=true)) (by simp[rwV]) ?_
 unfold heapX
 by_cases h0:(standB x true).h.low.length=0
 ·simp[btC,h0]
  refine callW_of (Still_vc hx) (by simp) ?_
  simp
  rfl
 ·simp[btC,h0]
  refine callW_of (fill_vc hx (stand_ok hx true).1) (by simp) ?_
  simp
  rfl
theorem fillH_ok{x:Rw}{b:Bt}(hb:BOk b)(hs:Fit b.h.scan):(fillH x b).ok∧layH (fillH x b)=layH b.h∧(fillH x b).scan=b.h.scan∧(fillH x b).cycle=b.h.cycle:=by
 have hl:=like_N (x:=x) hb b.g.nodes.length (Nat.le_refl _)
 have bd:=hl.ok hb
 unfold fillH
 generalize fillN x b b.g.nodes.length=d at*
 obtain⟨h1,h2,h3,h4,h5,h6,h7,h8,h9,h10,h11,h12⟩:=bd
 have l1:=h11 1
 have l2:=h11 2
 have l3:=h11 3
 have l4:=h11 4
 have w1:=h12.1 1
 have w2:=h12.1 2
 have w3:=h12.1 3
 have w4:=h12.1 4
 simp only[partH1,partH2,partH3,partH4]at l1 l2 l3 l4 w1 w2 w3 w4
 have hrl:=hb.rl
 refine⟨⟨h1.1,h1.2.1,h1.2.2.1,by rw[hl.scan];exact hs,?_,?_,?_,?_,?_,w1,w2,w3,w4,?_⟩,hl.lay,hl.scan,hl.cycle⟩
 ·show d.h.low.length≤_;omega
 ·show d.h.high.length≤_;omega
 ·show d.h.old.length≤_;omega
 ·show d.h.far.length≤_;omega
 ·simp;omega
 ·intro w hw
  simp only[List.mem_map]at hw
  obtain⟨r,_,rfl⟩:=hw
  split
  ·exact refB_range _ _
  ·exact⟨by omega,by omega⟩
end Vm
end
section
namespace Vm
open Go
open Go.Proofs
set_option maxRecDepth 100000
end Vm
end
section
namespace Vm
open Go Go.Proofs
set_option maxRecDepth 100000
set_option maxHeartbeats 1000000
structure Ob where
 at_:Int
 size:Int
 ptrs:Int
 gone:Bool
 target:Int
 deriving DecidableEq,Inhabited
def obV(o:Ob):V:= .agg [vi o.at_,vi o.size,vi o.ptrs,.bool o.gone,vu o.target]
@[simp] theorem szV_obV(o:Ob):szV (obV o) 5=some (obV o):=rfl
@[simp] theorem fldsV_obV(o:Ob):fldsV (obV o) 0 5=some (obV o):=rfl
@[simp] theorem obV_cells(o:Ob):(obV o).cells= [vi o.at_,vi o.size,vi o.ptrs,.bool o.gone,vu o.target]:=rfl
@[simp] theorem fldV_obV0(o:Ob):fldV (obV o) 0=some (vi o.at_):=rfl
@[simp] theorem fldV_obV1(o:Ob):fldV (obV o) 1=some (vi o.size):=rfl
@[simp] theorem fldV_obV2(o:Ob):fldV (obV o) 2=some (vi o.ptrs):=rfl
@[simp] theorem fldV_obV3(o:Ob):fldV (obV o) 3=some (.bool o.gone):=rfl
@[simp] theorem fldV_obV4(o:Ob):fldV (obV o) 4=some (vu o.target):=rfl
@[simp] theorem fldsV_obV12(o:Ob):fldsV (obV o) 1 2=some (shV o.size o.ptrs):=rfl
@[simp] theorem sizeOk_obV(l:List Ob):sizeOk 5 (l.map obV)=true:=sizeOk_map fun _=>rfl
def shP(s:Int×Int):V:=shV s.1 s.2
@[simp] theorem shP_cells(s:Int×Int):(shP s).cells= [vi s.1,vi s.2]:=rfl
@[simp] theorem szV_shP(s:Int×Int):szV (shP s) 2=some (shP s):=rfl
@[simp] theorem fldsV_shP(s:Int×Int):fldsV (shP s) 0 2=some (shP s):=rfl
@[simp] theorem fldV_shP0(s:Int×Int):fldV (shP s) 0=some (vi s.1):=rfl
@[simp] theorem fldV_shP1(s:Int×Int):fldV (shP s) 1=some (vi s.2):=rfl
@[simp] theorem sizeOk_shP(l:List (Int×Int)):sizeOk 2 (l.map shP)=true:=sizeOk_map fun _=>rfl
def isPtr(w:Int):Bool:=decide (w=0)||decide ((adr w).2=0)
def slotsOk(l:List Int)(gone:Bool)(ptrs:Int)(i:Nat):Bool:=
 match l with
 | []=>true
 |w::l=>(!gone||decide (w=0))&&(!decide ((i:Int) <ptrs)||isPtr w)&&slotsOk l gone ptrs (i+1)
theorem slotsOk_drop{l:List Int}{gone:Bool}{ptrs:Int}{i:Nat}{w:Int}(h:l[i]? =some w):slotsOk (l.drop i) gone ptrs i=((!gone||decide (w=0))&&(!decide ((i:Int) <ptrs)||isPtr w)&&slotsOk (l.drop (i+1)) gone ptrs (i+1)):=by
 obtain⟨h1,h2⟩:=List.getElem?_eq_some_iff.1 h
 rw[List.drop_eq_getElem_cons h1,h2]
 rfl
def objR(shs:List (Int×Int))(old:Bool)(at_ tk:Nat)(w:Int):Option (Ob×Nat):=
 if old=true∧(adr w).2=0 then
  match shs[tk]? with
  |none=>none
  |some s=>if shapeOk s.1 s.2 then some (⟨at_,s.1,s.2,true,(adr w).1⟩,tk+1)else none
 else if(unpk w).2.2=0 then some (⟨at_,(unpk w).1,(unpk w).2.1,false,0⟩,tk)else none
theorem unpk_ok{w:Int}(h:(unpk w).2.2=0):shapeOk (unpk w).1 (unpk w).2.1=true:=by
 unfold unpk at*
 split
 ·rename_i h1;exact h1.2
 ·rename_i h1;rw[if_neg h1]at h;simp at h
theorem objR_shape{shs:List (Int×Int)}{old:Bool}{at_ tk:Nat}{w:Int}{o:Ob}{t:Nat}(h:objR shs old at_ tk w=some (o,t)):shapeOk o.size o.ptrs=true∧o.at_=at_:=by
 unfold objR at h
 split at h
 ·split at h
  ·cases h
  ·split at h
   ·rename_i s _ hs
    cases h
    exact⟨hs,rfl⟩
   ·cases h
 ·split at h
  ·rename_i h1
   cases h
   exact⟨unpk_ok h1,rfl⟩
  ·cases h
def walkR(ws:List Int)(shs:List (Int×Int))(old:Bool):Nat→Nat→Nat→List Ob→List Ob×Int
 |0,_,_,_=>([],3)
 |f+1,at_,tk,acc=>
  match ws[at_]? with
  |none=>if tk<shs.length then([],3)else(acc,0)
  |some w=>match objR shs old at_ tk w with
   |none=>([],3)
   |some (o,t)=>
    if(ws.length:Int) <at_+1+o.size then([],2)
    else if slotsOk ((ws.drop (at_+1)).take o.size.toNat) o.gone o.ptrs 0=false then([],3)
    else walkR ws shs old f (at_+1+o.size.toNat) t (acc++ [o])
def walkW(ws:List Int)(shs:List (Int×Int))(old:Bool):List Ob×Int:=walkR ws shs old (ws.length+1) 0 0 []
def ObIn(n:Nat)(o:Ob):Prop:=(∃a:Nat,o.at_=a∧(a:Int)+1+o.size≤n)∧shapeOk o.size o.ptrs=true
theorem objR_target{shs:List (Int×Int)}{old:Bool}{at_ tk:Nat}{w:Int}{o:Ob}{t:Nat}(hw:U64 w)(h:objR shs old at_ tk w=some (o,t)):U64 o.target:=by
 unfold objR at h
 split at h
 ·split at h
  ·cases h
  ·split at h
   ·cases h
    obtain⟨h1,h2⟩:=hw
    show 0≤(adr w).1∧(adr w).1<18446744073709551616
    unfold adr
    split
    ·simp
    split
    ·simp
    ·simp only;omega
   ·cases h
 ·split at h
  ·cases h
   show(0:Int)≤0∧(0:Int) <18446744073709551616
   omega
  ·cases h
theorem walkR_in{ws:List Int}{shs:List (Int×Int)}{old:Bool}(hw: ∀w∈ws,U64 w): ∀(f at_ tk:Nat) (acc:List Ob),(∀o∈acc,ObIn ws.length o∧U64 o.target)→ ∀o∈(walkR ws shs old f at_ tk acc).1,ObIn ws.length o∧U64 o.target
 |0,_,_,_,_=>by simp[walkR]
 |f+1,at_,tk,acc,hacc=>by
  simp only[walkR]
  split
  ·split
   ·simp
   ·exact hacc
  ·rename_i w hx
   split
   ·simp
   ·rename_i o t ho
    split
    ·simp
    ·rename_i hb
     split
     ·simp
     ·refine walkR_in hw f _ _ _ fun o' ho'=> ?_
      rcases List.mem_append.1 ho' with h|h
      ·exact hacc o' h
      ·simp only[List.mem_singleton]at h
       subst h
       obtain⟨h1,h2⟩:=objR_shape ho
       exact⟨⟨⟨at_,h2,by omega⟩,h1⟩,objR_target (hw w (List.mem_of_getElem? hx)) ho⟩
theorem walkW_in{ws:List Int}{shs:List (Int×Int)}{old:Bool}(hw: ∀w∈ws,U64 w): ∀o∈(walkW ws shs old).1,ObIn ws.length o∧U64 o.target:=walkR_in hw _ _ _ _ (by simp)
theorem walkR_len{ws:List Int}{shs:List (Int×Int)}{old:Bool}: ∀(f at_ tk:Nat) (acc:List Ob),at_≤ws.length→acc.length≤at_→(walkR ws shs old f at_ tk acc).1.length≤ws.length
 |0,_,_,_,_,_=>by simp[walkR]
 |f+1,at_,tk,acc,ha,hacc=>by
  simp only[walkR]
  split
  ·split
   ·simp
   ·simp only;omega
  ·split
   ·simp
   ·rename_i o t ho
    split
    ·simp
    ·rename_i hb
     split
     ·simp
     ·have hsh:=shapeOk_iff.1 (objR_shape ho).1
      refine walkR_len f _ _ _ (by omega) (by simp;omega)
theorem walkW_len{ws:List Int}{shs:List (Int×Int)}{old:Bool}:(walkW ws shs old).1.length≤ws.length:=walkR_len _ _ _ _ (by omega) (by simp)
end Vm
end
section
namespace Vm
open Go
open Go.Proofs
set_option maxRecDepth 100000
end Vm
end
section
namespace Vm
open Go Go.Proofs
set_option maxRecDepth 100000
set_option maxHeartbeats 1000000
def startR(h:Hp)(part at_:Int):Int:=(addrL (layH h) part at_).1
def atR(h:Hp)(part:Int)(l:List Ob)(a:Int):Option Ob:=l.find? fun o=>startR h part o.at_==a
theorem atR_in{h:Hp}{part a:Int}{l:List Ob}{o:Ob}(ho:atR h part l a=some o):o∈l:=List.mem_of_find?_eq_some ho
def shapesR(h:Hp)(ws:List Int)(low:List Ob):Nat→Nat→List (Int×Int)→Option (List (Int×Int))
 |0,_,_=>none
 |f+1,i,acc=>
  match ws[i]? with
  |none=>some acc
  |some w=>if(adr w).2=0 then(match atR h 1 low (adr w).1 with|none=>none|some o=>shapesR h ws low f (i+1+o.size.toNat) (acc++ [(o.size,o.ptrs)]))
   else if(unpk w).2.2=0 then shapesR h ws low f (i+1+(unpk w).1.toNat) acc else none
def shapesW(h:Hp)(ws:List Int)(low:List Ob):Option (List (Int×Int)):=shapesR h ws low (ws.length+1) 0 []
end Vm
end
section
namespace Vm
open Go Go.Proofs
set_option maxRecDepth 100000
set_option maxHeartbeats 1000000
structure Pts where
 low:List Ob
 high:List Ob
 old:List Ob
 far:List Ob
 deriving Inhabited
def Pts.at(p:Pts)(k:Int):List Ob:=if k=1 then p.low else if k=2 then p.high else if k=3 then p.old else p.far
@[simp] theorem Pts.at1(p:Pts):p.at 1=p.low:=rfl
@[simp] theorem Pts.at2(p:Pts):p.at 2=p.high:=rfl
@[simp] theorem Pts.at3(p:Pts):p.at 3=p.old:=rfl
@[simp] theorem Pts.at4(p:Pts):p.at 4=p.far:=rfl
structure Pts.ok (p:Pts) (h:Hp):Prop where
 ob: ∀k,∀o∈p.at k,ObIn (partH h k).length o∧U64 o.target
 len: ∀k,(p.at k).length≤1000000
def partsR(h:Hp):Option Pts:=
 let low:=walkW h.low [] false
 let high:=walkW h.high [] false
 if low.2≠0∨high.2≠0 then none else
 let p:=shapesW h h.old low.1
 let q:=shapesW h h.far low.1
 let old:=walkW h.old (p.getD []) true
 let far:=walkW h.far (q.getD []) true
 if p=none∨q=none∨old.2≠0∨far.2≠0 then none else some ⟨low.1,high.1,old.1,far.1⟩
theorem parts_ok{h:Hp}(hh:h.ok){p:Pts}(hp:partsR h=some p):p.ok h:=by
 unfold partsR at hp
 dsimp only at hp
 split at hp
 ·cases hp
 split at hp
 ·cases hp
 ·cases hp
  refine⟨fun k o ho=> ?_,fun k=> ?_⟩
  ·unfold Pts.at at ho
   unfold partH
   split at ho
   ·rename_i e;rw[if_pos e];exact walkW_in hh.lowW o ho
   rename_i e1
   rw[if_neg e1]
   split at ho
   ·rename_i e;rw[if_pos e];exact walkW_in hh.highW o ho
   rename_i e2
   rw[if_neg e2]
   split at ho
   ·rename_i e;rw[if_pos e];exact walkW_in hh.oldW o ho
   ·rename_i e;rw[if_neg e];exact walkW_in hh.farW o ho
  ·unfold Pts.at
   split
   ·exact Nat.le_trans walkW_len hh.low
   split
   ·exact Nat.le_trans walkW_len hh.high
   split
   ·exact Nat.le_trans walkW_len hh.old
   ·exact Nat.le_trans walkW_len hh.far
def goesR(h:Hp)(p:Pts)(w one two:Int):Bool:=decide (w=0)||(decide ((adr w).2=0)&&((atR h one (p.at one) (adr w).1).isSome||(atR h two (p.at two) (adr w).1).isSome))
def wtO(o:Ob):Nat:=if o.gone then 0 else 1+o.size.toNat
def wtL(l:List Ob):Nat:=(l.map wtO).sum
theorem wtL_succ{l:List Ob}{i:Nat}{o:Ob}(h:l[i]? =some o):wtL (l.take (i+1))=wtL (l.take i)+wtO o:=by
 unfold wtL
 rw[List.take_add_one,h,List.map_append,List.sum_append];simp
theorem wtL_le{l:List Ob}(h: ∀o∈l,shapeOk o.size o.ptrs=true):wtL l≤256*l.length:=by
 induction l with
 |nil=>simp[wtL]
 |cons o l ih=>
  have h1:=ih fun x hx=>h x (by simp[hx])
  have h2:=shapeOk_iff.1 (h o (by simp))
  have h3:wtO o≤256:=by unfold wtO;split<;>omega
  have h4:wtL (o::l)=wtO o+wtL l:=by simp[wtL]
  simp only[List.length_cons]
  omega
def waitR(p:Pts):Nat:=wtL p.old+wtL p.far
def tgL(l:List Ob)(a:Int):Nat:=(l.filter fun o=>o.gone&&decide (o.target=a)).length
def targR(p:Pts)(a:Int):Nat:=tgL p.old a+tgL p.far a
end Vm
end
section
namespace Vm
open Go Go.Proofs
set_option maxRecDepth 100000
set_option maxHeartbeats 1000000
def numR(h:Hp):Bool:=
 rightL (layH h)&&decide (h.roots.length≤16)&&decide (0≤h.scan)&&decide (h.scan≤h.low.length)&&
  (if h.cycle then decide (h.scan<h.low.length)else decide (h.scan=h.low.length)&&decide (h.old.length=0)&&decide (h.far.length=0))
def ptrOk(h:Hp)(p:Pts)(part:Int)(k:Nat):Bool:=
 let w:=((partH h part)[k]?).getD 0
 let to:=goesR h p w 1 2
 let from_:=goesR h p w 3 4
 if 2<part then from_ else if part=1∧h.scan≤k then to||from_ else to
def obPtrs(h:Hp)(p:Pts)(part:Int)(o:Ob):Bool:=(List.range o.ptrs.toNat).all fun j=>ptrOk h p part (o.at_.toNat+1+j)
def ptrsR(h:Hp)(p:Pts)(part:Int):Bool:=(p.at part).all (obPtrs h p part)
theorem all_take{α:Type}{q:α→Bool}{l:List α}{i:Nat}{x:α}(h:l[i]? =some x):(l.take (i+1)).all q=((l.take i).all q&&q x):=by
 rw[List.take_add_one,h,List.all_append];simp
theorem all_no{α:Type}{q:α→Bool}{l:List α}{i:Nat}{x:α}(h:l[i]? =some x)(hq:q x=false):l.all q=false:=by
 rw[List.all_eq_false]
 exact⟨x,List.mem_of_getElem? h,by simp[hq]⟩
def tgOk(h:Hp)(p:Pts)(o:Ob):Bool:=decide (targR p (startR h 1 o.at_)=1)
def rightP(h:Hp)(p:Pts):Bool:=
 (!h.cycle||p.low.all (tgOk h p))&&h.roots.all (fun w=>goesR h p w 1 2)&&ptrsR h p 1&&ptrsR h p 2&&ptrsR h p 3&&ptrsR h p 4&&decide ((h.low.length:Int)+h.high.length+waitR p≤h.cap)
def rightR(h:Hp):Bool:=numR h&&match partsR h with
 |none=>false
 |some p=>rightP h p
theorem partH_ok{h:Hp}(hh:h.ok)(k:Int):(∀w∈partH h k,U64 w)∧(partH h k).length≤1000000:=by
 unfold partH
 split
 ·exact⟨hh.lowW,hh.low⟩
 split
 ·exact⟨hh.highW,hh.high⟩
 split
 ·exact⟨hh.oldW,hh.old⟩
 ·exact⟨hh.farW,hh.far⟩
theorem right_parts{h:Hp}(hr:rightR h=true): ∃p,partsR h=some p∧rightP h p=true∧numR h=true:=by
 unfold rightR at hr
 simp only[Bool.and_eq_true]at hr
 cases hp:partsR h with
 |none=>rw[hp]at hr;simp at hr
 |some p=>rw[hp]at hr;exact⟨p,rfl,hr.2,hr.1⟩
def objsR(h:Hp)(part:Int):List Ob×Int:=if rightR h=true∧1≤part∧part≤4 then(((partsR h).getD default).at part,0)else([],1)
theorem objsR_len{h:Hp}(hh:h.ok)(part:Int):(objsR h part).1.length≤1000000:=by
 unfold objsR
 split
 ·rename_i hr
  obtain⟨p,hp,_,_⟩:=right_parts hr.1
  rw[hp]
  exact(parts_ok hh hp).len part
 ·simp
end Vm
end
section
namespace Vm
open Go
open Go.Proofs
set_option maxRecDepth 100000
end Vm
end
section
namespace Vm
open Go Go.Proofs
set_option maxRecDepth 100000
set_option maxHeartbeats 1000000
theorem adr_u{w:Int}(hw:U64 w):U64 (adr w).1:=by
 unfold U64 adr at*
 split
 ·simp
 split
 ·simp
 ·simp only;omega
theorem sizL_layH{h:Hp}{k:Int}(hk:1≤k∧k≤4):sizL (layH h) k=(partH h k).length:=by
 have:k=1∨k=2∨k=3∨k=4:=by omega
 rcases this with rfl|rfl|rfl|rfl<;>rfl
def Hp.zero:Hp:=⟨0,0,0,false,0,[],[],[],[],[]⟩
def zr(ws:List Int)(a:Nat):Nat→List Int
 |0=>ws
 |i+1=>(zr ws a i).set (a+i) 0
@[simp] theorem zr_len(ws:List Int)(a n:Nat):(zr ws a n).length=ws.length:=by
 induction n with
 |zero=>rfl
 |succ n ih=>simp[zr,ih]
theorem addr_u{l:Ly}{k a:Int}:U64 (addrL l k a).1:=by
 unfold addrL
 cases hr:rightL l
 ·simp[U64]
 simp only[Bool.true_eq_false,if_false]
 split
 ·simp[U64]
 split
 ·simp[U64]
 ·have:=fstL_range hr k
  simp only[U64]
  omega
theorem addr_63{l:Ly}{k a:Int}:0≤(addrL l k a).1∧(addrL l k a).1<9223372036854775808:=by
 unfold addrL
 cases hr:rightL l
 ·simp
 simp only[Bool.true_eq_false,if_false]
 split
 ·simp
 split
 ·simp
 ·have:=fstL_range hr k
  simp only
  omega
end Vm
namespace Vm
open Go Go.Proofs
set_option maxRecDepth 100000
set_option maxHeartbeats 1000000
@[simp] theorem ai6_0(k:IntKind)(a b c d e f:Int):aiV (.agg [.int k a,.int k b,.int k c,.int k d,.int k e,.int k f]) (.int .i64 0) 6 1 false=some (.int k a):=rfl
@[simp] theorem ai6b_0(a b c d e f:Bool):aiV (.agg [.bool a,.bool b,.bool c,.bool d,.bool e,.bool f]) (.int .i64 0) 6 1 false=some (.bool a):=rfl
@[simp] theorem ai6_1(k:IntKind)(a b c d e f:Int):aiV (.agg [.int k a,.int k b,.int k c,.int k d,.int k e,.int k f]) (.int .i64 1) 6 1 false=some (.int k b):=rfl
@[simp] theorem ai6b_1(a b c d e f:Bool):aiV (.agg [.bool a,.bool b,.bool c,.bool d,.bool e,.bool f]) (.int .i64 1) 6 1 false=some (.bool b):=rfl
@[simp] theorem ai6_2(k:IntKind)(a b c d e f:Int):aiV (.agg [.int k a,.int k b,.int k c,.int k d,.int k e,.int k f]) (.int .i64 2) 6 1 false=some (.int k c):=rfl
@[simp] theorem ai6b_2(a b c d e f:Bool):aiV (.agg [.bool a,.bool b,.bool c,.bool d,.bool e,.bool f]) (.int .i64 2) 6 1 false=some (.bool c):=rfl
@[simp] theorem ai6_3(k:IntKind)(a b c d e f:Int):aiV (.agg [.int k a,.int k b,.int k c,.int k d,.int k e,.int k f]) (.int .i64 3) 6 1 false=some (.int k d):=rfl
@[simp] theorem ai6b_3(a b c d e f:Bool):aiV (.agg [.bool a,.bool b,.bool c,.bool d,.bool e,.bool f]) (.int .i64 3) 6 1 false=some (.bool d):=rfl
@[simp] theorem ai6_4(k:IntKind)(a b c d e f:Int):aiV (.agg [.int k a,.int k b,.int k c,.int k d,.int k e,.int k f]) (.int .i64 4) 6 1 false=some (.int k e):=rfl
@[simp] theorem ai6b_4(a b c d e f:Bool):aiV (.agg [.bool a,.bool b,.bool c,.bool d,.bool e,.bool f]) (.int .i64 4) 6 1 false=some (.bool e):=rfl
@[simp] theorem ai6_5(k:IntKind)(a b c d e f:Int):aiV (.agg [.int k a,.int k b,.int k c,.int k d,.int k e,.int k f]) (.int .i64 5) 6 1 false=some (.int k f):=rfl
@[simp] theorem ai6b_5(a b c d e f:Bool):aiV (.agg [.bool a,.bool b,.bool c,.bool d,.bool e,.bool f]) (.int .i64 5) 6 1 false=some (.bool f):=rfl
end Vm
namespace Vm
open Go Go.Proofs
set_option maxRecDepth 100000
set_option maxHeartbeats 1000000
end Vm
end
section
namespace Vm
open Go Go.Proofs
set_option maxRecDepth 100000
theorem ty_vi{n:Nat}{x:V}(h:tyV Try.prog (n+1) 3 x): ∃m,x=vi m∧Fit m:=by
 obtain⟨m,rfl,h1,h2⟩:=ty_int Try.underlying3 h
 exact⟨m,rfl,h1,h2⟩
theorem ty_vu{n:Nat}{x:V}(h:tyV Try.prog (n+1) 24 x): ∃m,x=vu m∧U64 m:=by
 obtain⟨m,rfl,h1,h2⟩:=ty_int Try.underlying24 h
 exact⟨m,rfl,h1,Int.lt_of_le_of_lt h2 (by decide)⟩
theorem ty_vis{n:Nat}{x:V}(h:tyV Try.prog (n+2) 23 x): ∃l:List Int,x= .sl (l.map vi)∧l.length≤maxLen∧ ∀p∈l,Fit p:=
 ty_slice Try.underlying23 h fun y hy=>ty_vi hy
theorem ty_vus{n:Nat}{x:V}(h:tyV Try.prog (n+2) 28 x): ∃l:List Int,x= .sl (l.map vu)∧l.length≤maxLen∧ ∀p∈l,U64 p:=
 ty_slice Try.underlying28 h fun y hy=>ty_vu hy
def Nd.fits(x:Nd):Prop:=(x.ptrs.length≤maxLen∧ ∀p∈x.ptrs,Fit p)∧x.data.length≤maxLen∧ ∀p∈x.data,U64 p
theorem ty_raw{n:Nat}{x:V}(h:tyV Try.prog (n+3) 161 x): ∃a:Nd,x=ndV a∧a.fits:=by
 obtain⟨ys,rfl,hl,hf⟩:=ty_struct Try.underlying161 h
 match ys,hl with
 | [a,b],_=>
   obtain⟨ps,rfl,h1,h2⟩:=ty_vis (hf 0 _ a rfl rfl)
   obtain⟨ds,rfl,h3,h4⟩:=ty_vus (hf 1 _ b rfl rfl)
   exact⟨⟨ps,ds⟩,rfl,⟨h1,h2⟩,h3,h4⟩
theorem ty_raws{n:Nat}{x:V}(h:tyV Try.prog (n+4) 22 x): ∃l:List Nd,x= .sl (l.map ndV)∧l.length≤maxLen∧ ∀a∈l,a.fits:=
 ty_slice Try.underlying22 h fun y hy=>ty_raw hy
theorem ty_rw{n:Nat}{x:V}(h:tyV Try.prog (n+5) 26 x): ∃r:Rw,x=rwV r∧r.ok:=by
 obtain⟨ys,rfl,hl,hf⟩:=ty_struct Try.underlying26 h
 match ys,hl with
 | [a,b,c,d,e,f,g],_=>
   obtain⟨ns,rfl,_,h0⟩:=ty_raws (hf 0 _ a rfl rfl)
   obtain⟨rs,rfl,_,h1⟩:=ty_vis (hf 1 _ b rfl rfl)
   obtain⟨cs,rfl,_,h2⟩:=ty_vis (hf 2 _ c rfl rfl)
   obtain⟨d,rfl,h3⟩:=ty_vu (hf 3 _ d rfl rfl)
   obtain⟨e,rfl,h4⟩:=ty_vi (hf 4 _ e rfl rfl)
   obtain⟨f,rfl,h5⟩:=ty_vi (hf 5 _ f rfl rfl)
   obtain⟨g,rfl,h6⟩:=ty_vi (hf 6 _ g rfl rfl)
   exact⟨⟨ns,rs,cs,d,e,f,g⟩,rfl,fun n hn p hp=>(h0 n hn).1.2 p hp,fun n hn p hp=>(h0 n hn).2.2 p hp,h1,h2,h3,h4,h5,h6⟩
theorem own:ownKnob Try.prog.godebug=none:=by kernel_rfl
theorem laidOut:laidOutB Try.prog=true:=by kernel_rfl
end Vm
end
section
namespace Vm
open Go
open Go.Proofs
set_option maxRecDepth 100000
def p3:Fn:=⟨31,[0,1,2,3,4,5,6,7,8,10,16,17,18,45,44,46,20,43,21,76,75,77,23,74,25,24,26,28,27,29,116],
(.seq
(.reg ⟨[],[],[(8,.m [(.fld (.sz (.s 0) 7) 0),(.fld (.sz (.s 0) 7) 1),(.fld (.sz (.s 0) 7) 2),(.fld (.sz (.s 0) 7) 3),(.fld (.sz (.s 0) 7) 4),(.fld (.sz (.s 0) 7) 5),(.fld (.sz (.s 0) 7) 6)]),(9,.m [(.fld (.sz (.s 2) 6) 0),(.fld (.sz (.s 2) 6) 1),(.fld (.sz (.s 2) 6) 2),(.fld (.sz (.s 2) 6) 3),(.fld (.sz (.s 2) 6) 4),(.fld (.sz (.s 2) 6) 5)]),(10,.v (.c (.bool false)))]⟩)
(.seq
(.reg ⟨[.call 31 [] (.id 15) false false []],[],[(11,.v (.s 31))]⟩)
(.seq
(.reg ⟨[.call 32 [] (.id 16) false false [(.mm 8 0 7)]],[],[(12,.m [(.fld (.sz (.s 32) 10) 0),(.fld (.sz (.s 32) 10) 1),(.fld (.sz (.s 32) 10) 2),(.fld (.sz (.s 32) 10) 3),(.fld (.sz (.s 32) 10) 4),(.fld (.sz (.s 32) 10) 5),(.fld (.sz (.s 32) 10) 6),(.fld (.sz (.s 32) 10) 7),(.fld (.sz (.s 32) 10) 8),(.fld (.sz (.s 32) 10) 9)])]⟩)
(.seq
(.seq
(.reg ⟨[.call 33 [] (.id 17) false false [(.s 1),(.mm 9 0 6),(.s 3)],.call 34 [] (.id 18) false false [(.mm 12 0 10),(.s 4),(.s 5),(.s 6)]],[],[(13,.v (.c (.int .i64 (0)))),(14,.v (.len (.lit [(.mm 12 0 10),(.sz (.s 33) 10),(.sz (.s 34) 10)]))),(17,.v (.lit [(.mm 12 0 10),(.sz (.s 33) 10),(.sz (.s 34) 10)]))]⟩)
(.block 0
 (.loop [0,1,2,3,4,5,6,7,8,9,10,11,12,13,14,17]
  (.seq
  (.reg ⟨[],[],[(15,.v (.bin .lss (.s 13) (.s 14)))]⟩)
  (.seq
  (.cond (.s 15)
   .skip
   (.exit 0))
  (.seq
  (.block 1
   (.seq
   (.reg ⟨[],[],[(16,.m [(.fld (.flds (.idx (.s 17) (.s 13) 10) 0 10) 0),(.fld (.flds (.idx (.s 17) (.s 13) 10) 0 10) 1),(.fld (.flds (.idx (.s 17) (.s 13) 10) 0 10) 2),(.fld (.flds (.idx (.s 17) (.s 13) 10) 0 10) 3),(.fld (.flds (.idx (.s 17) (.s 13) 10) 0 10) 4),(.fld (.flds (.idx (.s 17) (.s 13) 10) 0 10) 5),(.fld (.flds (.idx (.s 17) (.s 13) 10) 0 10) 6),(.fld (.flds (.idx (.s 17) (.s 13) 10) 0 10) 7),(.fld (.flds (.idx (.s 17) (.s 13) 10) 0 10) 8),(.fld (.flds (.idx (.s 17) (.s 13) 10) 0 10) 9)])]⟩)
   (.seq
   (.reg ⟨[],[],[(18,.v (.bin .add (.m 16 0) (.bin .rem (.s 7) (.bin .add (.bin .mul (.c (.int .u64 (2))) (.conv .u64 (.mn (.mx (.m 16 1) (.c (.int .i64 (0)))) (.c (.int .i64 (5000)))))) (.c (.int .u64 (2)))))))]⟩)
   (.seq
   (.reg ⟨[.call 35 [] (.id 19) false false [(.mm 12 0 10),(.c (.int .i64 (3))),(.s 5)],.call 36 [] (.id 19) false false [(.mm 12 0 10),(.c (.int .i64 (4))),(.s 5)],.call 37 [] (.id 19) false false [(.mm 12 0 10),(.c (.int .i64 (1))),(.s 5)]],[],[(19,.v (.c (.int .i64 (0)))),(20,.v (.len (.lit [(.one (.s 6)),(.bin .add (.bin .mul (.c (.int .u64 (2))) (.s 18)) (.c (.int .u64 (1)))),(.one (.s 35)),(.one (.s 36)),(.one (.s 37)),(.c (.int .u64 (0)))]))),(23,.v (.lit [(.one (.s 6)),(.bin .add (.bin .mul (.c (.int .u64 (2))) (.s 18)) (.c (.int .u64 (1)))),(.one (.s 35)),(.one (.s 36)),(.one (.s 37)),(.c (.int .u64 (0)))]))]⟩)
   (.block 2
    (.loop [0,1,2,3,4,5,6,7,8,9,10,11,12,13,14,15,16,17,18,19,20,23]
     (.seq
     (.reg ⟨[],[],[(21,.v (.bin .lss (.s 19) (.s 20)))]⟩)
     (.seq
     (.cond (.s 21)
      .skip
      (.exit 2))
     (.seq
     (.block 3
      (.seq
      (.reg ⟨[],[],[(22,.v (.fld (.idx (.s 23) (.s 19) 1) 0))]⟩)
      (.seq
      (.reg ⟨[.call 38 [] (.id 20) false false [(.mm 16 0 10),(.s 22)]],[],[(24,.m [(.fld (.sz (.ext (.s 38) 1) 10) 0),(.fld (.sz (.ext (.s 38) 1) 10) 1),(.fld (.sz (.ext (.s 38) 1) 10) 2),(.fld (.sz (.ext (.s 38) 1) 10) 3),(.fld (.sz (.ext (.s 38) 1) 10) 4),(.fld (.sz (.ext (.s 38) 1) 10) 5),(.fld (.sz (.ext (.s 38) 1) 10) 6),(.fld (.sz (.ext (.s 38) 1) 10) 7),(.fld (.sz (.ext (.s 38) 1) 10) 8),(.fld (.sz (.ext (.s 38) 1) 10) 9)]),(25,.v (.ext (.s 38) 0)),(26,.v (.ext (.s 38) 2))]⟩)
      (.seq
      (.reg ⟨[.call 39 [] (.id 21) false false [(.mm 16 0 10),(.s 22)]],[],[(27,.m [(.fld (.sz (.ext (.s 39) 1) 10) 0),(.fld (.sz (.ext (.s 39) 1) 10) 1),(.fld (.sz (.ext (.s 39) 1) 10) 2),(.fld (.sz (.ext (.s 39) 1) 10) 3),(.fld (.sz (.ext (.s 39) 1) 10) 4),(.fld (.sz (.ext (.s 39) 1) 10) 5),(.fld (.sz (.ext (.s 39) 1) 10) 6),(.fld (.sz (.ext (.s 39) 1) 10) 7),(.fld (.sz (.ext (.s 39) 1) 10) 8),(.fld (.sz (.ext (.s 39) 1) 10) 9)]),(28,.v (.ext (.s 39) 0)),(29,.v (.ext (.s 39) 2))]⟩)
      (.seq
      (.reg ⟨[.lt 40 [] (.bin .neq (.s 25) (.s 28)),.lt 41 [] (.ite (.s 40) (.c (.bool true)) (.bin .neq (.s 26) (.s 29))),.call 42 [(41,false)] (.id 22) false false [(.mm 24 0 10),(.mm 27 0 10)],.lt 43 [] (.ite (.s 41) (.c (.bool true)) (.un .not (.s 42))),.call 44 [(43,false)] (.id 23) false false [(.mm 16 0 10),(.s 22)],.call 45 [(43,false)] (.id 24) false false [(.mm 16 0 10),(.s 22)]],[([(40,false)],(.bin .neq (.s 26) (.s 29))),([(41,false)],(.un .not (.s 42))),([(43,false)],(.eqv true (.s 44) (.s 45)))],[(30,.v (.ite (.s 43) (.c (.bool true)) (.eqv true (.s 44) (.s 45))))]⟩)
      (.cond (.s 30)
       (.seq
       (.reg ⟨[],[],[(10,.v (.c (.bool false)))]⟩)
       .ret)
       .skip))))))
     (.reg ⟨[],[],[(19,.v (.bin .add (.s 19) (.c (.int .i64 (1)))))]⟩))))))))))
  (.reg ⟨[],[],[(13,.v (.bin .add (.s 13) (.c (.int .i64 (1)))))]⟩)))))))
(.seq
(.reg ⟨[],[],[(10,.v (.s 11))]⟩)
.ret))))),
[(10,.v)]⟩
theorem c3:compFn Try.prog fresh sig [.fz,.fz,.fz,.fz,.fz,.fz,.fz,.fz] [] Try.f3=some p3:=by kernel_rfl
def p4:Fn:=⟨30,[0,1,2,3,4,8,9,10,11,12,14,13,15,17,16,18,20,19,21,99,23,22,24,26,25,27,29,28,30,139],
(.seq
(.reg ⟨[],[],[(4,.m [(.fld (.sz (.s 0) 7) 0),(.fld (.sz (.s 0) 7) 1),(.fld (.sz (.s 0) 7) 2),(.fld (.sz (.s 0) 7) 3),(.fld (.sz (.s 0) 7) 4),(.fld (.sz (.s 0) 7) 5),(.fld (.sz (.s 0) 7) 6)]),(5,.v (.c (.bool false)))]⟩)
(.seq
(.reg ⟨[.call 30 [] (.id 15) false false []],[],[(6,.v (.s 30))]⟩)
(.seq
(.reg ⟨[.call 31 [] (.id 16) false false [(.mm 4 0 7)]],[],[(7,.m [(.fld (.sz (.s 31) 10) 0),(.fld (.sz (.s 31) 10) 1),(.fld (.sz (.s 31) 10) 2),(.fld (.sz (.s 31) 10) 3),(.fld (.sz (.s 31) 10) 4),(.fld (.sz (.s 31) 10) 5),(.fld (.sz (.s 31) 10) 6),(.fld (.sz (.s 31) 10) 7),(.fld (.sz (.s 31) 10) 8),(.fld (.sz (.s 31) 10) 9)])]⟩)
(.seq
(.reg ⟨[.call 32 [] (.id 25) false false [(.s 1),(.c (.int .i64 (4)))],.call 33 [] (.id 19) false false [(.mm 7 0 10),(.bin .add (.c (.int .i64 (1))) (.s 32)),(.s 2)]],[],[(8,.v (.s 33))]⟩)
(.seq
(.reg ⟨[.call 34 [] (.id 25) false false [(.bin .quo (.s 1) (.c (.int .i64 (4)))),(.c (.int .i64 (4)))],.call 35 [] (.id 19) false false [(.mm 7 0 10),(.bin .add (.c (.int .i64 (1))) (.s 34)),(.s 3)]],[],[(9,.v (.s 35))]⟩)
(.seq
(.reg ⟨[.call 36 [] (.id 20) false false [(.mm 7 0 10),(.s 8)]],[],[(10,.m [(.fld (.sz (.ext (.s 36) 1) 10) 0),(.fld (.sz (.ext (.s 36) 1) 10) 1),(.fld (.sz (.ext (.s 36) 1) 10) 2),(.fld (.sz (.ext (.s 36) 1) 10) 3),(.fld (.sz (.ext (.s 36) 1) 10) 4),(.fld (.sz (.ext (.s 36) 1) 10) 5),(.fld (.sz (.ext (.s 36) 1) 10) 6),(.fld (.sz (.ext (.s 36) 1) 10) 7),(.fld (.sz (.ext (.s 36) 1) 10) 8),(.fld (.sz (.ext (.s 36) 1) 10) 9)]),(11,.v (.ext (.s 36) 0)),(12,.v (.ext (.s 36) 2))]⟩)
(.seq
(.reg ⟨[.call 37 [] (.id 20) false false [(.mm 10 0 10),(.s 8)]],[],[(13,.m [(.fld (.sz (.ext (.s 37) 1) 10) 0),(.fld (.sz (.ext (.s 37) 1) 10) 1),(.fld (.sz (.ext (.s 37) 1) 10) 2),(.fld (.sz (.ext (.s 37) 1) 10) 3),(.fld (.sz (.ext (.s 37) 1) 10) 4),(.fld (.sz (.ext (.s 37) 1) 10) 5),(.fld (.sz (.ext (.s 37) 1) 10) 6),(.fld (.sz (.ext (.s 37) 1) 10) 7),(.fld (.sz (.ext (.s 37) 1) 10) 8),(.fld (.sz (.ext (.s 37) 1) 10) 9)]),(14,.v (.ext (.s 37) 0)),(15,.v (.ext (.s 37) 2))]⟩)
(.seq
(.reg ⟨[.call 38 [] (.id 20) false false [(.mm 10 0 10),(.s 11)]],[],[(16,.m [(.fld (.sz (.ext (.s 38) 1) 10) 0),(.fld (.sz (.ext (.s 38) 1) 10) 1),(.fld (.sz (.ext (.s 38) 1) 10) 2),(.fld (.sz (.ext (.s 38) 1) 10) 3),(.fld (.sz (.ext (.s 38) 1) 10) 4),(.fld (.sz (.ext (.s 38) 1) 10) 5),(.fld (.sz (.ext (.s 38) 1) 10) 6),(.fld (.sz (.ext (.s 38) 1) 10) 7),(.fld (.sz (.ext (.s 38) 1) 10) 8),(.fld (.sz (.ext (.s 38) 1) 10) 9)]),(17,.v (.ext (.s 38) 0)),(18,.v (.ext (.s 38) 2))]⟩)
(.seq
(.seq
(.reg ⟨[.lt 39 [] (.bin .neq (.s 12) (.c (.int .i64 (0)))),.lt 40 [] (.ite (.s 39) (.c (.bool true)) (.bin .neq (.s 15) (.c (.int .i64 (0))))),.lt 41 [] (.ite (.s 40) (.c (.bool true)) (.bin .neq (.s 18) (.c (.int .i64 (0))))),.lt 42 [] (.ite (.s 41) (.c (.bool true)) (.bin .neq (.s 11) (.s 14))),.lt 43 [] (.ite (.s 42) (.c (.bool true)) (.bin .neq (.s 11) (.s 17))),.call 44 [(43,false)] (.id 22) false false [(.mm 10 0 10),(.mm 13 0 10)],.lt 45 [] (.ite (.s 43) (.c (.bool true)) (.un .not (.s 44))),.call 46 [(45,false)] (.id 22) false false [(.mm 10 0 10),(.mm 16 0 10)]],[([(39,false)],(.bin .neq (.s 15) (.c (.int .i64 (0))))),([(40,false)],(.bin .neq (.s 18) (.c (.int .i64 (0))))),([(41,false)],(.bin .neq (.s 11) (.s 14))),([(42,false)],(.bin .neq (.s 11) (.s 17))),([(43,false)],(.un .not (.s 44))),([(45,false)],(.un .not (.s 46)))],[(19,.v (.ite (.s 45) (.c (.bool true)) (.un .not (.s 46))))]⟩)
(.cond (.s 19)
 (.seq
 (.reg ⟨[],[],[(5,.v (.c (.bool false)))]⟩)
 .ret)
 .skip))
(.seq
(.reg ⟨[.call 47 [] (.id 20) false false [(.mm 10 0 10),(.s 9)]],[],[(20,.m [(.fld (.sz (.ext (.s 47) 1) 10) 0),(.fld (.sz (.ext (.s 47) 1) 10) 1),(.fld (.sz (.ext (.s 47) 1) 10) 2),(.fld (.sz (.ext (.s 47) 1) 10) 3),(.fld (.sz (.ext (.s 47) 1) 10) 4),(.fld (.sz (.ext (.s 47) 1) 10) 5),(.fld (.sz (.ext (.s 47) 1) 10) 6),(.fld (.sz (.ext (.s 47) 1) 10) 7),(.fld (.sz (.ext (.s 47) 1) 10) 8),(.fld (.sz (.ext (.s 47) 1) 10) 9)]),(21,.v (.ext (.s 47) 0)),(22,.v (.ext (.s 47) 2))]⟩)
(.seq
(.reg ⟨[.call 48 [] (.id 20) false false [(.mm 7 0 10),(.s 9)]],[],[(23,.m [(.fld (.sz (.ext (.s 48) 1) 10) 0),(.fld (.sz (.ext (.s 48) 1) 10) 1),(.fld (.sz (.ext (.s 48) 1) 10) 2),(.fld (.sz (.ext (.s 48) 1) 10) 3),(.fld (.sz (.ext (.s 48) 1) 10) 4),(.fld (.sz (.ext (.s 48) 1) 10) 5),(.fld (.sz (.ext (.s 48) 1) 10) 6),(.fld (.sz (.ext (.s 48) 1) 10) 7),(.fld (.sz (.ext (.s 48) 1) 10) 8),(.fld (.sz (.ext (.s 48) 1) 10) 9)]),(24,.v (.ext (.s 48) 0)),(25,.v (.ext (.s 48) 2))]⟩)
(.seq
(.reg ⟨[.call 49 [] (.id 20) false false [(.mm 23 0 10),(.s 8)]],[],[(26,.m [(.fld (.sz (.ext (.s 49) 1) 10) 0),(.fld (.sz (.ext (.s 49) 1) 10) 1),(.fld (.sz (.ext (.s 49) 1) 10) 2),(.fld (.sz (.ext (.s 49) 1) 10) 3),(.fld (.sz (.ext (.s 49) 1) 10) 4),(.fld (.sz (.ext (.s 49) 1) 10) 5),(.fld (.sz (.ext (.s 49) 1) 10) 6),(.fld (.sz (.ext (.s 49) 1) 10) 7),(.fld (.sz (.ext (.s 49) 1) 10) 8),(.fld (.sz (.ext (.s 49) 1) 10) 9)]),(27,.v (.ext (.s 49) 0)),(28,.v (.ext (.s 49) 2))]⟩)
(.seq
(.seq
(.reg ⟨[.lt 50 [] (.bin .neq (.s 22) (.c (.int .i64 (0)))),.lt 51 [] (.ite (.s 50) (.c (.bool true)) (.bin .neq (.s 25) (.c (.int .i64 (0))))),.lt 52 [] (.ite (.s 51) (.c (.bool true)) (.bin .neq (.s 28) (.c (.int .i64 (0)))))],[([(50,false)],(.bin .neq (.s 25) (.c (.int .i64 (0))))),([(51,false)],(.bin .neq (.s 28) (.c (.int .i64 (0))))),([(52,false)],(.bin .lss (.len (.m 20 5)) (.len (.m 23 5))))],[(29,.v (.ite (.s 52) (.c (.bool true)) (.bin .lss (.len (.m 20 5)) (.len (.m 23 5)))))]⟩)
(.cond (.s 29)
 (.seq
 (.reg ⟨[],[],[(5,.v (.c (.bool false)))]⟩)
 .ret)
 .skip))
(.seq
(.reg ⟨[.lt 53 [] (.s 6)],[([(53,true)],(.eqv false (.bin .eql (.s 21) (.s 11)) (.bin .eql (.s 27) (.s 24))))],[(5,.v (.ite (.s 53) (.eqv false (.bin .eql (.s 21) (.s 11)) (.bin .eql (.s 27) (.s 24))) (.c (.bool false))))]⟩)
.ret)))))))))))))),
[(5,.v)]⟩
theorem c4:compFn Try.prog fresh sig [.fz,.fz,.fz,.fz] [] Try.f4=some p4:=by kernel_rfl
end Vm
end
section
namespace Vm
open Go Go.Proofs
set_option maxRecDepth 100000
set_option maxHeartbeats 1000000
theorem heapX_ok{x:Rw}(hx:x.ok):(heapX x).ok∧rightL (layH (heapX x))=true∧(heapX x).roots.length≤5:=by
 have key: ∀c,(fillH x (standB x c)).ok∧rightL (layH (fillH x (standB x c)))=true∧(fillH x (standB x c)).roots.length≤5:=fun c=>by
  obtain⟨h1,h2,h3⟩:=stand_ok hx c
  obtain⟨k1,k2,_,_⟩:=fillH_ok (x:=x) h1 h2
  refine⟨k1,by rw[k2];exact h3,?_⟩
  simp only[fillH,List.length_map]
  exact h1.rl
 unfold heapX stillX
 split
 ·exact key false
 ·exact key true
@[simp] theorem fldsV_hpV(h:Hp):fldsV (hpV h) 0 10=some (hpV h):=rfl
@[simp] theorem sizeOk_hpV(l:List Hp):sizeOk 10 (l.map hpV)=true:=sizeOk_map fun _=>rfl
end Vm
end
section
namespace Vm
open Go Go.Proofs
set_option maxRecDepth 100000
structure Stands (ws:List Int) (old:Bool) (o:Ob):Prop where
 nat:0≤o.at_
 shape:shapeOk o.size o.ptrs=true
 fits:o.at_+1+o.size≤ws.length
 slots:slotsOk ((ws.drop (o.at_.toNat+1)).take o.size.toNat) o.gone o.ptrs 0=true
 word: ∃w,ws[o.at_.toNat]? =some w∧(if o.gone then old=true∧(adr w).2=0∧o.target=(adr w).1 else(old=true→ ¬(adr w).2=0)∧unpk w=(o.size,o.ptrs,0)∧o.target=0)
def Tiles(ws:List Int)(old:Bool):Nat→List Ob→Prop
 |a,[]=>ws.length≤a
 |a,o::l=>o.at_=a∧Stands ws old o∧Tiles ws old (a+1+o.size.toNat) l
theorem objR_stands{ws:List Int}{shs:List (Int×Int)}{old:Bool}{a tk t:Nat}{w:Int}{o:Ob}(hw:ws[a]? =some w)(ho:objR shs old a tk w=some (o,t))(hl: ¬(ws.length:Int) <a+1+o.size)
  (hs: ¬slotsOk ((ws.drop (a+1)).take o.size.toNat) o.gone o.ptrs 0=false):o.at_=a∧Stands ws old o:=by
 have h2:=objR_shape ho
 refine⟨h2.2,?_,h2.1,?_,?_,w,?_,?_⟩
 ·rw[h2.2];omega
 ·rw[h2.2];omega
 ·rw[h2.2];simpa using hs
 ·rw[h2.2];simpa using hw
 ·unfold objR at ho
  split at ho
  ·rename_i hc
   split at ho
   ·cases ho
   ·split at ho
    ·cases ho;simpa using hc
    ·cases ho
  ·rename_i hc
   split at ho
   ·rename_i hu
    cases ho
    simp only[Bool.false_eq_true,if_false]
    refine⟨fun h1 h3=>hc ⟨h1,h3⟩,?_,trivial⟩
    rw[←hu]
   ·cases ho
theorem walkR_tiles{ws:List Int}{shs:List (Int×Int)}{old:Bool}: ∀(f a tk:Nat) (acc l:List Ob),walkR ws shs old f a tk acc=(l,0)→ ∃r,l=acc++r∧Tiles ws old a r
 |0,_,_,_,_,h=>by simp[walkR]at h
 |f+1,a,tk,acc,l,h=>by
  unfold walkR at h
  split at h
  ·rename_i hn
   split at h
   ·simp at h
   ·simp only[Prod.mk.injEq,and_true]at h
    subst h
    exact⟨[],by simp,List.getElem?_eq_none_iff.1 hn⟩
  ·rename_i w hw
   split at h
   ·simp at h
   ·rename_i o t ho
    split at h
    ·simp at h
    rename_i h1
    split at h
    ·simp at h
    rename_i h2
    obtain⟨r,rfl,hr⟩:=walkR_tiles f _ _ _ _ h
    have hs:=objR_stands hw ho h1 h2
    exact⟨o::r,by simp,hs.1,hs.2,hr⟩
theorem walkW_tiles{ws:List Int}{shs:List (Int×Int)}{old:Bool}{l:List Ob}(h:walkW ws shs old=(l,0)):Tiles ws old 0 l:=by
 obtain⟨r,h1,h2⟩:=walkR_tiles _ _ _ _ _ h
 simp at h1
 subst h1
 exact h2
theorem Tiles.stands{ws:List Int}{old:Bool}: ∀ {a:Nat} {l:List Ob},Tiles ws old a l→ ∀o∈l,Stands ws old o∧(a:Int)≤o.at_
 |_,[],_,_,h=>by simp at h
 |a,o::l,h,x,hx=>by
  have hs:=shapeOk_iff.1 h.2.1.shape
  rcases List.mem_cons.1 hx with rfl|hx
  ·exact⟨h.2.1,by rw[h.1];omega⟩
  ·have:=Tiles.stands h.2.2 x hx
   exact⟨this.1,by have:=this.2;omega⟩
theorem Tiles.apart{ws:List Int}{old:Bool}: ∀ {a:Nat} {l:List Ob},Tiles ws old a l→ ∀o∈l,∀q∈l,o=q∨o.at_+1+o.size≤q.at_∨q.at_+1+q.size≤o.at_
 |_,[],_,_,h,_,_=>by simp at h
 |a,x::l,h,o,ho,q,hq=>by
  have hs:=shapeOk_iff.1 h.2.1.shape
  have e:=h.1
  rcases List.mem_cons.1 ho with rfl|ho
  ·rcases List.mem_cons.1 hq with rfl|hq
   ·exact .inl rfl
   ·have:=(Tiles.stands h.2.2 q hq).2
    exact .inr (.inl (by omega))
  ·rcases List.mem_cons.1 hq with hq|hq
   ·have:=(Tiles.stands h.2.2 o ho).2
    rw[hq]
    exact .inr (.inr (by omega))
   ·exact Tiles.apart h.2.2 o ho q hq
structure RightH (h:Hp) (p:Pts):Prop where
 parts:partsR h=some p
 num:numR h=true
 ok:rightP h p=true
 low:Tiles h.low false 0 p.low
 high:Tiles h.high false 0 p.high
 old:Tiles h.old true 0 p.old
 far:Tiles h.far true 0 p.far
theorem rightH_of{h:Hp}(hr:rightR h=true): ∃p,RightH h p:=by
 obtain⟨p,h1,h2,h3⟩:=right_parts hr
 refine⟨p,h1,h3,h2,?_,?_,?_,?_⟩
 all_goals
  clear h3
  unfold partsR at h1
  dsimp only at h1
  split at h1
  ·cases h1
  rename_i c1
  split at h1
  ·cases h1
  rename_i c2
  cases h1
  have c3:(walkW h.low [] false).2=0∧(walkW h.high [] false).2=0:=by
   refine⟨Decidable.byContradiction fun hc=>c1 (.inl hc),Decidable.byContradiction fun hc=>c1 (.inr hc)⟩
  have c4: ∀x:Int,¬x≠0→x=0:=fun x hx=>Decidable.byContradiction hx
  have e3:=c4 _ (fun hx=>c2 (.inr (.inr (.inl hx))))
  have e4:=c4 _ (fun hx=>c2 (.inr (.inr (.inr hx))))
  first|exact walkW_tiles (Prod.ext rfl c3.1) |exact walkW_tiles (Prod.ext rfl c3.2) |exact walkW_tiles (Prod.ext rfl e3) |exact walkW_tiles (Prod.ext rfl e4)
theorem RightH.tiles{h:Hp}{p:Pts}(r:RightH h p){k:Int}(hk:1≤k∧k≤4):Tiles (partH h k) (decide (2<k)) 0 (p.at k):=by
 have:k=1∨k=2∨k=3∨k=4:=by omega
 rcases this with rfl|rfl|rfl|rfl
 ·exact r.low
 ·exact r.high
 ·exact r.old
 ·exact r.far
theorem RightH.lay{h:Hp}{p:Pts}(r:RightH h p):rightL (layH h)=true:=by
 have:=r.num
 unfold numR at this
 simp only[Bool.and_eq_true]at this
 exact this.1.1.1.1
def refR(l:Ly)(k a:Int):Int:=2*(fstL l k+a)+1
theorem adr_ref{l:Ly}(hr:rightL l=true){k a:Int}(ha:0≤a):adr (refR l k a)=(fstL l k+a,0):=by
 have:=fstL_range hr k
 unfold adr refR
 rw[if_neg (by omega),if_neg (by omega)]
 simp only[Prod.mk.injEq,and_true]
 omega
theorem addr_in{l:Ly}(hr:rightL l=true){k a:Int}(hk:1≤k∧k≤4)(ha:0≤a∧a<sizL l k):addrL l k a=(fstL l k+a,0):=by
 unfold addrL
 rw[if_neg (by simp[hr]),if_neg (by omega),if_neg (by omega)]
theorem find_in{l:Ly}(hr:rightL l=true){k a:Int}(hk:1≤k∧k≤4)(ha:0≤a∧a<sizL l k):findL l (fstL l k+a)=(k,a,0):=by
 have h:=rightL_iff.1 hr
 have ht:=toCap hr
 unfold findL inL
 rw[if_neg (by simp[hr])]
 simp only[Bool.and_eq_true,decide_eq_true_eq]
 have hk4:k=1∨k=2∨k=3∨k=4:=by omega
 rcases hk4 with rfl|rfl|rfl|rfl
 ·rw[if_pos (by omega)];simp;omega
 ·simp only[fstL,sizL]at ha⊢
  simp only[show ¬(2:Int)=1 by omega,if_false,if_true]at ha⊢
  rw[if_neg (by omega),if_pos (by omega)];simp;omega
 ·simp only[fstL,sizL]at ha⊢
  simp only[show ¬(3:Int)=1 by omega,show ¬(3:Int)=2 by omega,show ¬(2:Int)=1 by omega,if_false,if_true]at ha⊢
  rw[if_neg (by omega),if_neg (by omega),if_pos (by omega)];simp;omega
 ·simp only[fstL,sizL]at ha⊢
  simp only[show ¬(4:Int)=1 by omega,show ¬(4:Int)=2 by omega,show ¬(4:Int)=3 by omega,show ¬(3:Int)=1 by omega,show ¬(3:Int)=2 by omega,show ¬(2:Int)=1 by omega,if_false,if_true]at ha⊢
  rw[if_neg (by omega),if_neg (by omega),if_neg (by omega),if_pos (by omega)];simp;omega
end Vm
namespace Vm
open Go Go.Proofs
set_option maxRecDepth 100000
end Vm
namespace Vm
open Go Go.Proofs
set_option maxRecDepth 100000
theorem shapesR_pre{h:Hp}{ws:List Int}{low:List Ob}: ∀(f i:Nat) (acc l:List (Int×Int)),shapesR h ws low f i acc=some l→ ∃r,l=acc++r
 |0,_,_,_,he=>by simp[shapesR]at he
 |f+1,i,acc,l,he=>by
  unfold shapesR at he
  split at he
  ·cases he;exact⟨[],by simp⟩
  ·split at he
   ·split at he
    ·cases he
    ·obtain⟨r,hr⟩:=shapesR_pre f _ _ _ he
     exact⟨_,by rw[hr,List.append_assoc]⟩
   ·split at he
    ·exact shapesR_pre f _ _ _ he
    ·cases he
theorem shapes_walk{h:Hp}{ws:List Int}{low:List Ob}: ∀(f i:Nat) (acc shs:List (Int×Int)),shapesR h ws low f i acc=some shs→ ∀(f':Nat) (acc' l:List Ob),walkR ws shs true f' i acc.length acc'=(l,0)→
  ∃r,l=acc'++r∧ ∀o∈r,o.gone=true→ ∃q,atR h 1 low o.target=some q∧q.size=o.size∧q.ptrs=o.ptrs
 |0,_,_,_,he=>by simp[shapesR]at he
 |f+1,i,acc,shs,he=>by
  intro f' acc' l hw
  cases f' with
  |zero=>simp[walkR]at hw
  |succ f'=>
   unfold shapesR at he
   unfold walkR at hw
   cases hwi:ws[i]? with
   |none=>
    simp only[hwi]at hw
    split at hw
    ·simp at hw
    ·simp only[Prod.mk.injEq,and_true]at hw
     exact⟨[],by simp[hw],by simp⟩
   |some w=>
    simp only[hwi]at he hw
    by_cases ha:(adr w).2=0
    ·simp only[ha,if_true]at he
     cases hq:atR h 1 low (adr w).1 with
     |none=>simp only[hq]at he;cases he
     |some q=>
      simp only[hq]at he
      obtain⟨r,hr⟩:=shapesR_pre _ _ _ _ he
      have hs:shs[acc.length]? =some (q.size,q.ptrs):=by rw[hr];simp
      unfold objR at hw
      rw[if_pos ⟨rfl,ha⟩]at hw
      simp only[hs]at hw
      by_cases hsh:shapeOk q.size q.ptrs=true
      ·rw[if_pos hsh]at hw
       simp only at hw
       split at hw
       ·simp at hw
       split at hw
       ·simp at hw
       have hlen:acc.length+1=(acc++ [(q.size,q.ptrs)]).length:=by simp
       rw[hlen]at hw
       obtain⟨r',h1,h2⟩:=shapes_walk f _ _ _ he _ _ _ hw
       refine⟨_::r',by rw[h1,List.append_assoc];rfl,?_⟩
       intro o ho hg
       rcases List.mem_cons.1 ho with rfl|ho
       ·exact⟨q,hq,rfl,rfl⟩
       ·exact h2 o ho hg
      ·rw[if_neg hsh]at hw
       simp at hw
    ·simp only[ha,if_false]at he
     by_cases hu:(unpk w).2.2=0
     ·simp only[hu,if_true]at he
      unfold objR at hw
      rw[if_neg (fun hc=>ha hc.2),if_pos hu]at hw
      simp only at hw
      split at hw
      ·simp at hw
      split at hw
      ·simp at hw
      obtain⟨r',h1,h2⟩:=shapes_walk f _ _ _ he _ _ _ hw
      refine⟨_::r',by rw[h1,List.append_assoc];rfl,?_⟩
      intro o ho hg
      rcases List.mem_cons.1 ho with rfl|ho
      ·simp at hg
      ·exact h2 o ho hg
     ·simp only[hu,if_false]at he
      cases he
theorem RightH.gone_low{h:Hp}{p:Pts}(r:RightH h p){k:Int}(hk:3≤k∧k≤4){o:Ob}(ho:o∈p.at k)(hg:o.gone=true): ∃q∈p.low,startR h 1 q.at_=o.target∧q.size=o.size∧q.ptrs=o.ptrs:=by
 have h1:=r.parts
 unfold partsR at h1
 dsimp only at h1
 split at h1
 ·cases h1
 split at h1
 ·cases h1
 rename_i c2
 have aux: ∀(ws:List Int) (x:Option (List (Int×Int))),x=shapesW h ws (walkW h.low [] false).1→ ¬x=none→(walkW ws (x.getD []) true).2=0→o∈(walkW ws (x.getD []) true).1→
   ∃q∈(walkW h.low [] false).1,startR h 1 q.at_=o.target∧q.size=o.size∧q.ptrs=o.ptrs:=by
  intro ws x hx hn h0 ho
  cases x with
  |none=>exact(hn rfl).elim
  |some shs=>
   simp only[Option.getD_some]at h0 ho
   obtain⟨r',e1,e2⟩:=shapes_walk _ _ _ _ hx.symm (ws.length+1) [] (walkW ws shs true).1 (Prod.ext rfl h0)
   simp only[List.nil_append]at e1
   rw[e1]at ho
   obtain⟨q,hq,hs⟩:=e2 o ho hg
   have:=List.find?_some hq
   exact⟨q,atR_in hq,by simpa using this,hs⟩
 have e3: ¬shapesW h h.old (walkW h.low [] false).1=none:=fun e=>c2 (.inl e)
 have e4: ¬shapesW h h.far (walkW h.low [] false).1=none:=fun e=>c2 (.inr (.inl e))
 have e5:(walkW h.old ((shapesW h h.old (walkW h.low [] false).1).getD []) true).2=0:=Decidable.byContradiction fun e=>c2 (.inr (.inr (.inl e)))
 have e6:(walkW h.far ((shapesW h h.far (walkW h.low [] false).1).getD []) true).2=0:=Decidable.byContradiction fun e=>c2 (.inr (.inr (.inr e)))
 cases h1
 have:k=3∨k=4:=by omega
 rcases this with rfl|rfl
 ·exact aux _ _ rfl e3 e5 (by simpa using ho)
 ·exact aux _ _ rfl e4 e6 (by simpa using ho)
theorem word_of{u a:Int}(h0:(adr u).2=0)(h:(adr u).1=a):u=2*a+1:=by
 unfold adr at h0 h
 by_cases c1:u=0
 ·simp[c1]at h0
 rw[if_neg c1]at h0 h
 by_cases c2:u%2=0∨u=1
 ·rw[if_pos c2]at h0;simp at h0
 rw[if_neg c2]at h
 simp only at h
 omega
theorem adr_unpk{u:Int}(h:(unpk u).2.2=0): ¬(adr u).2=0:=by
 unfold unpk at h
 split at h
 ·rename_i hc
  unfold adr
  split
  ·simp
  rw[if_pos (.inl hc.1)];simp
 ·simp at h
end Vm
namespace Vm
open Go Go.Proofs
set_option maxRecDepth 100000
end Vm
end
section
namespace Vm
open Go Go.Proofs
set_option maxRecDepth 100000
def goneSh(l:List Ob):List (Int×Int):=(l.filter fun o=>o.gone).map fun o=>(o.size,o.ptrs)
theorem walkR_of{ws:List Int}{shs:List (Int×Int)}{old:Bool}: ∀(l:List Ob) (f a tk:Nat) (acc:List Ob),Tiles ws old a l→ws.length<f+a→0<f→shs.drop tk=goneSh l→walkR ws shs old f a tk acc=(acc++l,0)
 | [],f,a,tk,acc,ht,hf,h0,hs=>by
   obtain⟨f,rfl⟩: ∃f',f=f'+1:=⟨f-1,by omega⟩
   have:ws.length≤a:=ht
   have h2:shs.length≤tk:=List.drop_eq_nil_iff.1 hs
   rw[walkR,List.getElem?_eq_none this]
   simp only
   rw[if_neg (by omega),List.append_nil]
 |o::l,f,a,tk,acc,ht,hf,h0,hs=>by
  obtain⟨f,rfl⟩: ∃f',f=f'+1:=⟨f-1,by omega⟩
  obtain⟨h1,h2,h3⟩:=ht
  obtain⟨w,hw,hc⟩:=h2.word
  have hsh:=shapeOk_iff.1 h2.shape
  have hfit:=h2.fits
  have hsl:=h2.slots
  rw[h1]at hw hfit hsl
  simp only[Int.toNat_natCast]at hw hsl
  have hrec: ∀tk':Nat,shs.drop tk'=goneSh l→walkR ws shs old f (a+1+o.size.toNat) tk' (acc++ [o])=(acc++o::l,0):=fun tk' hs'=>by
   rw[walkR_of l f _ tk' _ h3 (by omega) (by omega) hs']
   simp
  have hobj: ∃tk',objR shs old a tk w=some (o,tk')∧shs.drop tk'=goneSh l:=by
   unfold objR
   cases hg:o.gone
   ·rw[hg]at hc
    simp only[Bool.false_eq_true,if_false]at hc
    rw[if_neg (fun h=>hc.1 h.1 h.2),hc.2.1]
    refine⟨tk,?_,?_⟩
    ·simp only[if_true]
     obtain⟨oa,os,op,og,ot⟩:=o
     simp only at hg h1 hc⊢
     rw[hg,h1,hc.2.2]
    ·rw[hs]
     simp[goneSh,hg]
   ·rw[hg]at hc
    simp only[if_true]at hc
    rw[if_pos ⟨hc.1,hc.2.1⟩]
    have hd:shs.drop tk=(o.size,o.ptrs)::goneSh l:=by rw[hs];simp[goneSh,hg]
    have hlt:tk<shs.length:=by
     have:=congrArg List.length hd
     simp at this
     omega
    rw[List.drop_eq_getElem_cons hlt]at hd
    have e1:=(List.cons.inj hd).1
    have e2:=(List.cons.inj hd).2
    rw[List.getElem?_eq_getElem hlt,e1]
    simp only[h2.shape,if_true]
    refine⟨tk+1,?_,e2⟩
    obtain⟨oa,os,op,og,ot⟩:=o
    simp only at hg h1 hc⊢
    rw[hg,h1,hc.2.2]
  obtain⟨tk',ho,hs'⟩:=hobj
  rw[walkR,hw]
  simp only
  rw[ho]
  simp only
  rw[if_neg (by omega),if_neg (by rw[hsl];simp)]
  exact hrec tk' hs'
theorem walkW_of{ws:List Int}{shs:List (Int×Int)}{old:Bool}{l:List Ob}(ht:Tiles ws old 0 l)(hs:shs=goneSh l):walkW ws shs old=(l,0):=by
 unfold walkW
 rw[walkR_of l (ws.length+1) 0 0 [] ht (by omega) (by omega) (by simpa using hs),List.nil_append]
def GoneOk(h:Hp)(low l:List Ob):Prop:= ∀o∈l,o.gone=true→ ∃q,atR h 1 low o.target=some q∧q.size=o.size∧q.ptrs=o.ptrs
theorem shapesR_of{h:Hp}{ws:List Int}{low:List Ob}: ∀(l:List Ob) (f i:Nat) (acc:List (Int×Int)),Tiles ws true i l→ws.length<f+i→0<f→GoneOk h low l→shapesR h ws low f i acc=some (acc++goneSh l)
 | [],f,i,acc,ht,hf,h0,hg=>by
   obtain⟨f,rfl⟩: ∃f',f=f'+1:=⟨f-1,by omega⟩
   have:ws.length≤i:=ht
   rw[shapesR,List.getElem?_eq_none this]
   simp[goneSh]
 |o::l,f,i,acc,ht,hf,h0,hg=>by
  obtain⟨f,rfl⟩: ∃f',f=f'+1:=⟨f-1,by omega⟩
  obtain⟨h1,h2,h3⟩:=ht
  obtain⟨w,hw,hc⟩:=h2.word
  have hsh:=shapeOk_iff.1 h2.shape
  have hfit:=h2.fits
  rw[h1]at hw hfit
  simp only[Int.toNat_natCast]at hw
  have hg':GoneOk h low l:=fun q hq=>hg q (List.mem_cons_of_mem _ hq)
  rw[shapesR,hw]
  simp only
  cases hgo:o.gone
  ·rw[hgo]at hc
   simp only[Bool.false_eq_true,if_false,true_implies]at hc
   rw[if_neg hc.1,hc.2.1]
   simp only[if_true]
   rw[shapesR_of l f _ acc h3 (by omega) (by omega) hg']
   simp[goneSh,hgo]
  ·rw[hgo]at hc
   simp only[if_true,true_and]at hc
   rw[if_pos hc.1]
   obtain⟨q,hq,e1,e2⟩:=hg o (.head _) hgo
   rw[←hc.2,hq]
   simp only
   rw[e1,e2,shapesR_of l f _ _ h3 (by omega) (by omega) hg']
   simp[goneSh,hgo]
theorem parts_of{h:Hp}{p:Pts}(h1:Tiles h.low false 0 p.low)(h2:Tiles h.high false 0 p.high)(h3:Tiles h.old true 0 p.old)(h4:Tiles h.far true 0 p.far)(g3:GoneOk h p.low p.old)(g4:GoneOk h p.low p.far):partsR h=some p:=by
 have ng: ∀ {ws:List Int} {a:Nat} {l:List Ob},Tiles ws false a l→goneSh l= []:=fun {ws a l} ht=>by
  unfold goneSh
  rw[List.map_eq_nil_iff,List.filter_eq_nil_iff]
  intro o ho hg
  obtain⟨w,_,hc⟩:=(ht.stands o ho).1.word
  rw[if_pos hg]at hc
  cases hc.1
 unfold partsR
 rw[walkW_of h1 (ng h1).symm,walkW_of h2 (ng h2).symm]
 unfold shapesW
 simp only[ne_eq,not_true_eq_false,or_self,if_false]
 rw[shapesR_of p.old _ 0 [] h3 (by omega) (by omega) g3,shapesR_of p.far _ 0 [] h4 (by omega) (by omega) g4]
 simp only[List.nil_append,Option.getD_some]
 rw[walkW_of h3 rfl,walkW_of h4 rfl]
 simp
theorem right_of{h:Hp}{p:Pts}(hn:numR h=true)(hp:partsR h=some p)(hr:rightP h p=true):rightR h=true:=by
 unfold rightR
 rw[hn,hp]
 simpa using hr
theorem atR_of{h:Hp}{k:Int}{l:List Ob}{o:Ob}(ho:o∈l)(hd: ∀q∈l,startR h k q.at_=startR h k o.at_→q=o):atR h k l (startR h k o.at_)=some o:=by
 unfold atR
 induction l with
 |nil=>simp at ho
 |cons x l ih=>
  rw[List.find?_cons]
  by_cases hx:startR h k x.at_=startR h k o.at_
  ·rw[hd x (.head _) hx]
   simp
  ·have:(startR h k x.at_==startR h k o.at_)=false:=by simpa using hx
   rw[this]
   rcases List.mem_cons.1 ho with rfl|ho
   ·exact absurd rfl hx
   ·exact ih ho fun q hq=>hd q (List.mem_cons_of_mem _ hq)
theorem atR_isSome{h:Hp}{k:Int}{l:List Ob}{a:Int}:(atR h k l a).isSome=true↔ ∃o∈l,startR h k o.at_=a:=by
 unfold atR
 rw[List.find?_isSome]
 simp
end Vm
end
section
namespace Vm
open Go Go.Proofs
set_option maxRecDepth 100000
structure Tld (h:Hp) (p:Pts):Prop where
 lay:rightL (layH h)=true
 tiles: ∀k:Int,1≤k∧k≤4→Tiles (partH h k) (decide (2<k)) 0 (p.at k)
def Gos(h:Hp)(p:Pts)(w one two:Int):Prop:=w=0∨ ∃k o,(k=one∨k=two)∧o∈p.at k∧w=refR (layH h) k o.at_
def PtrAt(h:Hp)(p:Pts)(k:Int)(i:Nat)(w:Int):Prop:=if 2<k then Gos h p w 3 4 else if k=1∧h.scan≤i then Gos h p w 1 2∨Gos h p w 3 4 else Gos h p w 1 2
section
variable {h:Hp} {p:Pts}
theorem Tld.ob(t:Tld h p){k:Int}(hk:1≤k∧k≤4){o:Ob}(ho:o∈p.at k): ∃a n m:Nat,o.at_=a∧o.size=n∧o.ptrs=m∧a+(n+1)≤(partH h k).length∧n≤255∧m≤n:=by
 have hs:=((t.tiles k hk).stands o ho).1
 have h1:=shapeOk_iff.1 hs.shape
 obtain⟨a,ha⟩:=Int.eq_ofNat_of_zero_le hs.nat
 obtain⟨n,hn⟩:=Int.eq_ofNat_of_zero_le h1.1
 obtain⟨m,hm⟩:=Int.eq_ofNat_of_zero_le h1.2.2.1
 have:=hs.fits
 exact⟨a,n,m,ha,hn,hm,by omega,by omega,by omega⟩
theorem Tld.start(t:Tld h p){k:Int}(hk:1≤k∧k≤4){o:Ob}(ho:o∈p.at k):startR h k o.at_=fstL (layH h) k+o.at_:=by
 obtain⟨a,n,m,ha,_,_,hl,_⟩:=t.ob hk ho
 unfold startR
 rw[addr_in t.lay hk (by rw[sizL_layH hk];omega)]
theorem Tld.same_at(t:Tld h p){k:Int}(hk:1≤k∧k≤4){o q:Ob}(ho:o∈p.at k)(hq:q∈p.at k)(e:q.at_=o.at_):q=o:=by
 rcases(t.tiles k hk).apart q hq o ho with h1|h1|h1
 ·exact h1
 ·have:=shapeOk_iff.1 ((t.tiles k hk).stands q hq).1.shape;omega
 ·have:=shapeOk_iff.1 ((t.tiles k hk).stands o ho).1.shape;omega
theorem Tld.find(t:Tld h p){k:Int}(hk:1≤k∧k≤4){o:Ob}(ho:o∈p.at k):atR h k (p.at k) (fstL (layH h) k+o.at_)=some o:=by
 rw[←t.start hk ho]
 refine atR_of ho fun q hq e=>t.same_at hk ho hq ?_
 rw[t.start hk ho,t.start hk hq]at e
 omega
theorem Tld.adr(t:Tld h p){k:Int}(hk:1≤k∧k≤4){o:Ob}(ho:o∈p.at k):adr (refR (layH h) k o.at_)=(fstL (layH h) k+o.at_,0):=by
 obtain⟨a,n,m,ha,_⟩:=t.ob hk ho
 exact adr_ref t.lay (by omega)
theorem Tld.at_iff(t:Tld h p){k:Int}(hk:1≤k∧k≤4){w:Int}(h0:(Vm.adr w).2=0):(atR h k (p.at k) (Vm.adr w).1).isSome=true↔ ∃o∈p.at k,w=refR (layH h) k o.at_:=by
 rw[atR_isSome]
 constructor
 ·rintro⟨o,ho,e⟩
  rw[t.start hk ho]at e
  exact⟨o,ho,word_of h0 e.symm⟩
 ·rintro⟨o,ho,rfl⟩
  exact⟨o,ho,by rw[t.adr hk ho,t.start hk ho]⟩
theorem Tld.goes_iff(t:Tld h p){i j:Int}(hi:1≤i∧i≤4)(hj:1≤j∧j≤4){w:Int}:goesR h p w i j=true↔Gos h p w i j:=by
 unfold goesR Gos
 by_cases h0:w=0
 ·simp[h0]
 by_cases h1:(Vm.adr w).2=0
 ·simp only[h0,h1,decide_true,decide_false,Bool.false_or,Bool.true_and,Bool.or_eq_true,false_or,t.at_iff hi h1,t.at_iff hj h1]
  constructor
  ·rintro(⟨o,ho,e⟩ | ⟨o,ho,e⟩)
   ·exact⟨i,o,.inl rfl,ho,e⟩
   ·exact⟨j,o,.inr rfl,ho,e⟩
  ·rintro⟨k,o,rfl|rfl,ho,e⟩
   ·exact .inl ⟨o,ho,e⟩
   ·exact .inr ⟨o,ho,e⟩
 ·simp only[h0,h1,decide_false,Bool.false_and,Bool.or_self,Bool.false_eq_true,false_or,false_iff]
  rintro⟨k,o,hk,ho,rfl⟩
  have hk4:1≤k∧k≤4:=by rcases hk with rfl|rfl<;>assumption
  exact h1 (by rw[t.adr hk4 ho])
theorem slotsOk_zero: ∀ {l:List Int} {ptrs:Int} {i:Nat},slotsOk l true ptrs i=true→ ∀w∈l,w=0
 | [],_,_,_,w,hw=>by simp at hw
 |y::l,ptrs,i,hs,w,hw=>by
  simp only[slotsOk,Bool.and_eq_true]at hs
  rcases List.mem_cons.1 hw with rfl|hw
  ·have h1:=hs.1
   simp at h1
   exact h1.1
  ·exact slotsOk_zero hs.2 w hw
theorem Tld.slot(t:Tld h p){k:Int}(hk:1≤k∧k≤4){o:Ob}(ho:o∈p.at k){j:Nat}(hj:(j:Int) <o.size): ∃w,(partH h k)[o.at_.toNat+1+j]? =some w∧(o.gone=true→w=0):=by
 obtain⟨a,n,m,ha,hn,hm,hl,_⟩:=t.ob hk ho
 have hlt:a+1+j< (partH h k).length:=by omega
 refine⟨(partH h k)[a+1+j],by rw[ha,Int.toNat_natCast];exact List.getElem?_eq_getElem hlt,fun hg=> ?_⟩
 have hs:=((t.tiles k hk).stands o ho).1.slots
 rw[hg]at hs
 refine slotsOk_zero hs _ ?_
 rw[ha,hn,Int.toNat_natCast,Int.toNat_natCast]
 refine List.mem_of_getElem? (i:=j) ?_
 rw[List.getElem?_take_of_lt (by omega),List.getElem?_drop]
 exact List.getElem?_eq_getElem hlt
end
structure Body (h:Hp) (p:Pts):Prop extends Tld h p where
 gone: ∀k:Int,3≤k∧k≤4→ ∀o∈p.at k,o.gone=true→ ∃q∈p.low,o.target=fstL (layH h) 1+q.at_∧q.size=o.size∧q.ptrs=o.ptrs
 ptr: ∀k:Int,1≤k∧k≤4→ ∀o∈p.at k,o.gone=false→ ∀j:Nat,(j:Int) <o.ptrs→ ∀w,(partH h k)[o.at_.toNat+1+j]? =some w→PtrAt h p k (o.at_.toNat+1+j) w
 room:(h.low.length:Int)+h.high.length+waitR p≤h.cap
structure Rt (h:Hp) (p:Pts):Prop extends Body h p where
 nroots:h.roots.length≤16
 scan0:0≤h.scan
 scanL:h.scan≤h.low.length
 cyc:h.cycle=true→h.scan<h.low.length
 rest:h.cycle=false→h.scan=h.low.length∧h.old= []∧h.far= []
 once:h.cycle=true→ ∀o∈p.low,targR p (fstL (layH h) 1+o.at_)=1
 roots: ∀w∈h.roots,Gos h p w 1 2
section
variable {h:Hp} {p:Pts}
theorem PtrAt_iff(t:Tld h p){k:Int}{i:Nat}{w:Int}(hw:(partH h k)[i]? =some w):ptrOk h p k i=true↔PtrAt h p k i w:=by
 unfold ptrOk PtrAt
 simp only[hw,Option.getD_some]
 split
 ·exact t.goes_iff (by omega) (by omega)
 split
 ·rw[Bool.or_eq_true,t.goes_iff (by omega) (by omega),t.goes_iff (by omega) (by omega)]
 ·exact t.goes_iff (by omega) (by omega)
theorem PtrAt_zero(k:Int)(i:Nat):PtrAt h p k i 0:=by
 unfold PtrAt
 split
 ·exact .inl rfl
 split
 ·exact .inl (.inl rfl)
 ·exact .inl rfl
theorem ptrs_iff(t:Tld h p){k:Int}(hk:1≤k∧k≤4):ptrsR h p k=true↔ ∀o∈p.at k,o.gone=false→ ∀j:Nat,(j:Int) <o.ptrs→ ∀w,(partH h k)[o.at_.toNat+1+j]? =some w→PtrAt h p k (o.at_.toNat+1+j) w:=by
 unfold ptrsR obPtrs
 simp only[List.all_eq_true,List.mem_range]
 constructor
 ·intro hp o ho _ j hj w hw
  exact(PtrAt_iff t hw).1 (hp o ho j (by omega))
 ·intro hp o ho j hj
  obtain⟨a,n,m,ha,hn,hm,hl,_⟩:=t.ob hk ho
  obtain⟨w,hw,hz⟩:=t.slot hk ho (j:=j) (by omega)
  refine(PtrAt_iff t hw).2 ?_
  cases hg:o.gone
  ·exact hp o ho hg j (by omega) w hw
  ·rw[hz hg];exact PtrAt_zero _ _
theorem RightH.tld(r:RightH h p):Tld h p:=⟨r.lay,fun k hk=>r.tiles hk⟩
theorem RightH.rt(r:RightH h p):Rt h p:=by
 have t:=r.tld
 have hn:=r.num
 have ho:=r.ok
 unfold numR at hn
 unfold rightP at ho
 simp only[Bool.and_eq_true,decide_eq_true_eq]at hn ho
 obtain⟨⟨⟨⟨n1,n2⟩,n3⟩,n4⟩,n5⟩:=hn
 obtain⟨⟨⟨⟨⟨⟨o1,o2⟩,o3⟩,o4⟩,o5⟩,o6⟩,o7⟩:=ho
 have hptr: ∀k:Int,1≤k∧k≤4→ptrsR h p k=true:=fun k hk=>by
  have:k=1∨k=2∨k=3∨k=4:=by omega
  rcases this with rfl|rfl|rfl|rfl<;>assumption
 refine⟨⟨t,fun k hk o ho hg=> ?_,fun k hk=>(ptrs_iff t hk).1 (hptr k hk),o7⟩,n2,n3,n4,fun hc=> ?_,fun hc=> ?_,fun hc o ho=> ?_,fun w hw=> ?_⟩
 ·obtain⟨q,hq,e,e1,e2⟩:=r.gone_low hk ho hg
  exact⟨q,hq,by rw[←e,t.start (k:=1) (by omega) hq],e1,e2⟩
 ·rw[hc]at n5;simpa using n5
 ·rw[hc]at n5
  simp at n5
  exact⟨n5.1.1,n5.1.2,n5.2⟩
 ·rw[hc]at o1
  simp only[Bool.not_true,Bool.false_or,List.all_eq_true]at o1
  have:=o1 o ho
  unfold tgOk at this
  rw[t.start (k:=1) (by omega) ho]at this
  simpa using this
 ·exact(t.goes_iff (by omega) (by omega)).1 (List.all_eq_true.1 o2 w hw)
theorem Rt.parts(r:Rt h p):partsR h=some p:=by
 have g: ∀k:Int,3≤k∧k≤4→GoneOk h p.low (p.at k):=fun k hk o ho hg=>by
  obtain⟨q,hq,e,e1,e2⟩:=r.gone k hk o ho hg
  exact⟨q,by rw[e];exact r.toTld.find (k:=1) (by omega) hq,e1,e2⟩
 exact parts_of (r.tiles 1 (by omega)) (r.tiles 2 (by omega)) (r.tiles 3 (by omega)) (r.tiles 4 (by omega)) (g 3 (by omega)) (g 4 (by omega))
theorem Rt.right(r:Rt h p):rightR h=true:=by
 have t:=r.toTld
 refine right_of ?_ r.parts ?_
 ·unfold numR
  simp only[Bool.and_eq_true,decide_eq_true_eq]
  refine⟨⟨⟨⟨r.lay,r.nroots⟩,r.scan0⟩,r.scanL⟩,?_⟩
  cases hc:h.cycle
  ·obtain⟨e1,e2,e3⟩:=r.rest hc
   simp[e1,e2,e3]
  ·simp[r.cyc hc]
 ·unfold rightP
  simp only[Bool.and_eq_true,decide_eq_true_eq]
  have hp:=fun k hk=>(ptrs_iff t hk).2 (r.ptr k hk)
  refine⟨⟨⟨⟨⟨⟨?_,?_⟩,hp 1 (by omega)⟩,hp 2 (by omega)⟩,hp 3 (by omega)⟩,hp 4 (by omega)⟩,r.room⟩
  ·cases hc:h.cycle
   ·rfl
   ·simp only[Bool.not_true,Bool.false_or,List.all_eq_true]
    intro o ho
    unfold tgOk
    rw[t.start (k:=1) (by omega) ho,decide_eq_true_eq]
    exact r.once hc o ho
  ·rw[List.all_eq_true]
   exact fun w hw=>(t.goes_iff (by omega) (by omega)).2 (r.roots w hw)
theorem right_iff:rightR h=true↔ ∃p,Rt h p:=
 ⟨fun hr=>by obtain⟨p,r⟩:=rightH_of hr;exact⟨p,r.rt⟩,fun⟨p,r⟩=>r.right⟩
theorem Rt.objs(r:Rt h p){k:Int}(hk:1≤k∧k≤4):objsR h k=(p.at k,0):=by
 unfold objsR
 rw[if_pos ⟨r.right,hk⟩,r.parts]
 rfl
end
end Vm
end
section
namespace Vm
open Go Go.Proofs
set_option maxRecDepth 100000
section
variable {h:Hp} {p:Pts}
theorem Tiles.pairwise{ws:List Int}{old:Bool}: ∀ {a:Nat} {l:List Ob},Tiles ws old a l→l.Pairwise fun x y=>x.at_<y.at_
 |_,[],_=> .nil
 |a,o::l,h=>by
  have hs:=shapeOk_iff.1 h.2.1.shape
  refine .cons (fun y hy=> ?_) (Tiles.pairwise h.2.2)
  have:=(Tiles.stands h.2.2 y hy).2
  rw[h.1]
  omega
end
end Vm
end
section
namespace Vm
open Go Go.Proofs
set_option maxRecDepth 100000
set_option maxHeartbeats 1000000
theorem partH_with{h:Hp}{k j:Int}(hk:1≤k∧k≤4)(hj:1≤j∧j≤4)(l:List Int):partH (withH h k l) j=if j=k then l else partH h j:=by
 have h1:k=1∨k=2∨k=3∨k=4:=by omega
 have h2:j=1∨j=2∨j=3∨j=4:=by omega
 rcases h1 with rfl|rfl|rfl|rfl<;>rcases h2 with rfl|rfl|rfl|rfl<;>rfl
def ndAt(b:Bt)(i:Nat):Nd:=(b.g.nodes[i]?).getD default
def hereAt(b:Bt)(i:Nat):Pl:=(b.here[i]?).getD ⟨0,0⟩
def oldAt(b:Bt)(i:Nat):Pl:=(b.old[i]?).getD ⟨0,0⟩
def hdrN(n:Nd):Int:=(packW ((n.ptrs.length:Int)+n.data.length) n.ptrs.length).1
def laidN(b:Bt)(p:Pl)(n:Nd)(tw:Int):List Int:=hdrN n::(slotsB b p p.at_.toNat n.ptrs tw++n.data)
def goneN(b:Bt)(p:Pl)(n:Nd):List Int:=refB b.h p::List.replicate (sizN n-1) 0
def blk(b:Bt)(x:Rw)(k:Int)(i:Nat):List Int:=
 if(hereAt b i).part=k then laidN b (hereAt b i) (ndAt b i) (IntKind.i64.wrap (x.slack+i))
 else if(oldAt b i).part=k then(if(hereAt b i).part=0 then laidN b (oldAt b i) (ndAt b i) 0 else goneN b (hereAt b i) (ndAt b i))
 else []
def cat(b:Bt)(x:Rw)(k:Int)(i:Nat):List Int:=(List.range i).flatMap (blk b x k)
theorem cat_succ(b:Bt)(x:Rw)(k:Int)(i:Nat):cat b x k (i+1)=cat b x k i++blk b x k i:=by
 unfold cat
 rw[List.range_succ,List.flatMap_append]
 simp
theorem laidN_len(b:Bt)(p:Pl)(n:Nd)(tw:Int):(laidN b p n tw).length=sizN n:=by
 simp[laidN,slotsB,sizN]
 omega
theorem goneN_len(b:Bt)(p:Pl)(n:Nd):(goneN b p n).length=sizN n:=by
 simp[goneN,sizN]
 omega
structure Placed (b:Bt) (x:Rw):Prop where
 ok:BOk b
 here: ∀i,i<b.g.nodes.length→(hereAt b i=⟨0,0⟩∧ ∃k:Int,(k=3∨k=4)∧(oldAt b i).part=k)∨(((hereAt b i).part=1∨(hereAt b i).part=2)∧(hereAt b i).at_=((cat b x (hereAt b i).part i).length:Nat))
 old: ∀i,i<b.g.nodes.length→oldAt b i=⟨0,0⟩∨(((oldAt b i).part=3∨(oldAt b i).part=4)∧(oldAt b i).at_=((cat b x (oldAt b i).part i).length:Nat)∧(hereAt b i).part≠2)
 zero: ∀k:Int,1≤k∧k≤4→partH b.h k=List.replicate (cat b x k b.g.nodes.length).length 0
section
variable {b d:Bt} {x:Rw}
theorem refB_like(hl:Like b d)(p:Pl):refB d.h p=refB b.h p:=by
 unfold refB
 rw[hl.lay]
theorem slotB_like(hl:Like b d)(p:Pl)(to tw:Int):slotB d p to tw=slotB b p to tw:=by
 unfold slotB
 rw[hl.here,hl.old,hl.scan,refB_like hl,refB_like hl]
theorem laidN_like(hl:Like b d)(p:Pl)(n:Nd)(tw:Int):laidN d p n tw=laidN b p n tw:=by
 unfold laidN slotsB
 simp only[slotB_like hl]
theorem layL_at{p:Pl}{a m:Nat}{n:Nd}{tw:Int}{F:List Int}(hp:partH d.h p.part=F++List.replicate m 0)(ha:F.length=a)(hat:p.at_.toNat=a)(hm:sizN n≤m):layL d p a n tw=F++laidN d p n tw++List.replicate (m-sizN n) 0:=by
 unfold layL
 simp only
 rw[hp]
 have e1:(F++List.replicate m (0:Int)).take a=F:=by rw[←ha];simp
 have e2:(F++List.replicate m (0:Int)).drop (a+sizN n)=List.replicate (m-sizN n) 0:=by
  rw[←ha,List.drop_append,List.drop_of_length_le (by omega)]
  simp
 rw[e1,e2]
 simp[laidN,hdrN,hat]
theorem set_rep{F:List Int}{a m s:Nat}{w:Int}(ha:F.length=a)(hs:1≤s)(hm:s≤m):(F++List.replicate m (0:Int)).set a w=F++(w::List.replicate (s-1) 0)++List.replicate (m-s) 0:=by
 rw[←ha,List.set_append_right _ _ (Nat.le_refl _),Nat.sub_self]
 obtain⟨m,rfl⟩: ∃m',m=m'+1:=⟨m-1,by omega⟩
 rw[List.replicate_succ,List.set_cons_zero,List.append_assoc]
 congr 1
 simp
 omega
theorem cat_mono(b:Bt)(x:Rw)(k:Int){i j:Nat}(h:i≤j): ∃r,cat b x k j=cat b x k i++r:=by
 induction j with
 |zero=>exact⟨[],by have:i=0:=by omega
                    subst this;simp⟩
 |succ j ih=>
  by_cases hij:i=j+1
  ·subst hij;exact⟨[],by simp⟩
  ·obtain⟨r,hr⟩:=ih (by omega)
   exact⟨r++blk b x k j,by rw[cat_succ,hr,List.append_assoc]⟩
def Upto(b:Bt)(x:Rw)(i:Nat)(d:Bt):Prop:= ∀k:Int,1≤k∧k≤4→partH d.h k=cat b x k i++List.replicate ((cat b x k b.g.nodes.length).length- (cat b x k i).length) 0
theorem room_k(b:Bt)(x:Rw)(k:Int){i:Nat}(hi:i<b.g.nodes.length):(cat b x k i).length+(blk b x k i).length≤(cat b x k b.g.nodes.length).length:=by
 obtain⟨r,hr⟩:=cat_mono b x k (show i+1≤b.g.nodes.length by omega)
 rw[hr,cat_succ]
 simp
theorem fill_step(hpl:Placed b x){i:Nat}(hi:i<b.g.nodes.length)(hl:Like b d)(hu:Upto b x i d):Upto b x (i+1) (fillS x d i):=by
 have en:(d.g.nodes[i]?).getD default=ndAt b i:=by rw[hl.g];rfl
 have ep:(d.here[i]?).getD ⟨0,0⟩=hereAt b i:=by rw[hl.here];rfl
 have eo:(d.old[i]?).getD ⟨0,0⟩=oldAt b i:=by rw[hl.old];rfl
 unfold fillS
 simp only[en,ep,eo]
 have hh:=hpl.here i hi
 have ho:=hpl.old i hi
 have hblk:=fun k=>room_k b x k hi
 have hbk: ∀k,blk b x k i=if(hereAt b i).part=k then laidN b (hereAt b i) (ndAt b i) (IntKind.i64.wrap (x.slack+i))else if(oldAt b i).part=k then(if(hereAt b i).part=0 then laidN b (oldAt b i) (ndAt b i) 0 else goneN b (hereAt b i) (ndAt b i))else []:=fun k=>rfl
 have l1:=laidN_len b (hereAt b i) (ndAt b i) (IntKind.i64.wrap (x.slack+i))
 have l2:=laidN_len b (oldAt b i) (ndAt b i) 0
 have l3:=goneN_len b (hereAt b i) (ndAt b i)
 have e1:=laidN_like hl (hereAt b i) (ndAt b i) (IntKind.i64.wrap (x.slack+i))
 have e2:=laidN_like hl (oldAt b i) (ndAt b i) 0
 generalize hereAt b i=p at*
 generalize oldAt b i=o at*
 generalize ndAt b i=n at*
 have hs1:1≤sizN n:=by unfold sizN;omega
 rcases hh with ⟨rfl,ko,hko,hko2⟩ | ⟨hp,hat⟩
 ·
  have ho2:(o.part=3∨o.part=4)∧o.at_=((cat b x o.part i).length:Nat):=by
   rcases ho with rfl| ⟨h1,h2,_⟩
   ·simp at hko2;omega
   ·exact⟨h1,h2⟩
  have hA:fillA x d i n ⟨0,0⟩=d:=by unfold fillA;rw[if_neg (by simp)]
  have hO:fillO d n ⟨0,0⟩ o=layB d o n 0:=by unfold fillO;rw[if_pos ⟨by omega,rfl⟩]
  have hG: ∀q,fillG q ⟨0,0⟩ o=q:=fun q=>by unfold fillG;rw[if_neg (by simp)]
  rw[hA,hO,hG]
  intro k hk
  have hbO:blk b x o.part i=laidN b o n 0:=by rw[hbk,if_neg (by show ¬(0:Int)=o.part;omega),if_pos rfl,if_pos rfl]
  have hro:=hblk o.part
  rw[hbO,l2]at hro
  unfold layB
  simp only
  rw[partH_with (by omega) hk]
  by_cases hko:k=o.part
  ·rw[if_pos hko,hko,layL_at (hu o.part (by omega)) (by rw[ho2.2];simp) rfl (by omega),cat_succ,hbO,e2]
   congr 2
   simp[l2]
   omega
  ·rw[if_neg hko,cat_succ,hbk k,if_neg (by show ¬(0:Int)=k;omega),if_neg (fun h=>hko h.symm),List.append_nil]
   exact hu k hk
 ·have hp0: ¬p.part=0:=by omega
  have hA:fillA x d i n p=layB d p n (IntKind.i64.wrap (x.slack+i)):=by unfold fillA;rw[if_pos (by omega)]
  have hO: ∀q,fillO q n p o=q:=fun q=>by unfold fillO;rw[if_neg (by simp[hp0])]
  rw[hA,hO]
  have hbP:blk b x p.part i=laidN b p n (IntKind.i64.wrap (x.slack+i)):=by rw[hbk,if_pos rfl]
  have hrp:=hblk p.part
  rw[hbP,l1]at hrp
  have hlay: ∀k:Int,1≤k∧k≤4→partH (layB d p n (IntKind.i64.wrap (x.slack+i))).h k=if k=p.part then cat b x p.part (i+1)++List.replicate ((cat b x p.part b.g.nodes.length).length- (cat b x p.part (i+1)).length) 0 else partH d.h k:=by
   intro k hk
   unfold layB
   simp only
   rw[partH_with (by omega) hk]
   by_cases hkp:k=p.part
   ·rw[if_pos hkp,if_pos hkp,layL_at (hu p.part (by omega)) (by rw[hat];simp) rfl (by omega),cat_succ,hbP,e1]
    congr 2
    simp[l1]
    omega
   ·rw[if_neg hkp,if_neg hkp]
  have hlk:refB (layB d p n (IntKind.i64.wrap (x.slack+i))).h p=refB b.h p:=by
   unfold refB
   have:layH (layB d p n (IntKind.i64.wrap (x.slack+i))).h=layH b.h:=by
    rw[←hl.lay]
    unfold layB
    simp only
    refine withH_lay ?_
    rw[layL_at (hu p.part (by omega)) (by rw[hat];simp) rfl (by omega),hu p.part (by omega),e1]
    simp[l1]
    omega
   rw[this]
  generalize layB d p n (IntKind.i64.wrap (x.slack+i))=q at*
  rcases ho with rfl| ⟨ho1,ho2,ho3⟩
  ·have hG:fillG q p ⟨0,0⟩=q:=by unfold fillG;rw[if_neg (by simp)]
   rw[hG]
   intro k hk
   rw[hlay k hk]
   by_cases hkp:k=p.part
   ·rw[if_pos hkp,hkp]
   ·rw[if_neg hkp,cat_succ,hbk k,if_neg (fun h=>hkp h.symm),if_neg (by show ¬(0:Int)=k;omega),List.append_nil]
    exact hu k hk
  ·have hG:fillG q p o= {q with h:=withH q.h o.part ((partH q.h o.part).set o.at_.toNat (refB q.h p))}:=by unfold fillG;rw[if_pos ⟨by omega,by omega⟩]
   rw[hG]
   have hbO:blk b x o.part i=goneN b p n:=by rw[hbk,if_neg (by omega),if_pos rfl,if_neg hp0]
   have hro:=hblk o.part
   rw[hbO,l3]at hro
   intro k hk
   simp only
   rw[partH_with (by omega) hk,hlay o.part (by omega),if_neg (show ¬o.part=p.part by omega),hu o.part (by omega),hlk]
   by_cases hko:k=o.part
   ·rw[if_pos hko,hko,set_rep (by rw[ho2];simp) hs1 (by omega),cat_succ,hbO]
    unfold goneN
    congr 2
    simp
    omega
   ·rw[if_neg hko,hlay k hk]
    by_cases hkp:k=p.part
    ·rw[if_pos hkp,hkp]
    ·rw[if_neg hkp,cat_succ,hbk k,if_neg (fun h=>hkp h.symm),if_neg (fun h=>hko h.symm),List.append_nil]
     exact hu k hk
theorem fill_upto(hpl:Placed b x): ∀i,i≤b.g.nodes.length→Upto b x i (fillN x b i)
 |0,_=>by
  intro k hk
  rw[fillN,hpl.zero k hk]
  simp[cat]
 |i+1,hi=>by
  rw[fillN]
  exact fill_step hpl (by omega) (like_N hpl.ok i (by omega)) (fill_upto hpl i (by omega))
theorem fill_parts(hpl:Placed b x){k:Int}(hk:1≤k∧k≤4):partH (fillH x b) k=cat b x k b.g.nodes.length:=by
 have h:=fill_upto hpl b.g.nodes.length (Nat.le_refl _) k hk
 rw[Nat.sub_self,List.replicate_zero,List.append_nil]at h
 rw[←h]
 rfl
end
end Vm
end
section
namespace Vm
open Go Go.Proofs
set_option maxRecDepth 100000
set_option maxHeartbeats 1000000
def hereF(x:Rw)(c:Bool)(g:Gr)(i:Nat):Pl:=if clsK x i c=0 then⟨2,(stN x c g i).n2⟩else if clsK x i c=1 then⟨1,(stN x c g i).n1⟩else⟨0,0⟩
def oldF(x:Rw)(c:Bool)(g:Gr)(i:Nat):Pl:=if(decide (0<clsK x i c)&&c)=true then(if clsF x i then⟨4,(stN x c g i).n4⟩else⟨3,(stN x c g i).n3⟩)else⟨0,0⟩
theorem st_at{x:Rw}{c:Bool}{g:Gr}(hg: ∀n∈g.nodes,sizN n≤9): ∀j,j≤g.nodes.length→ ∀i,i<j→(stN x c g j).here[i]? =some (hereF x c g i)∧(stN x c g j).old[i]? =some (oldF x c g i)
 |0,_,i,hi=>by omega
 |j+1,hj,i,hi=>by
  obtain⟨_,_,l1,l2⟩:=stN_bound (x:=x) (cycle:=c) hg j (by omega)
  rw[stN]
  simp only[stStep]
  by_cases hij:i<j
  ·have:=st_at (x:=x) (c:=c) hg j (by omega) i hij
   rw[List.getElem?_append_left (by omega),List.getElem?_append_left (by omega)]
   exact this
  ·have:i=j:=by omega
   subst this
   rw[List.getElem?_append_right (by omega),List.getElem?_append_right (by omega),l1,l2,Nat.sub_self]
   exact⟨rfl,rfl⟩
def nk(s:St8)(k:Int):Nat:=if k=1 then s.n1 else if k=2 then s.n2 else if k=3 then s.n3 else s.n4
section
variable {x:Rw} {c:Bool}
theorem sz9(x:Rw): ∀n∈(mkG x.nodes x.roots).nodes,sizN n≤9:=fun n hn=>by
 obtain⟨_,_,hb3⟩:=mkG_bounds x.nodes x.roots
 have:=hb3 n hn
 unfold sizN
 omega
theorem standB_g(x:Rw)(c:Bool):(standB x c).g=mkG x.nodes x.roots:=rfl
theorem here_is{i:Nat}(hi:i< (mkG x.nodes x.roots).nodes.length):hereAt (standB x c) i=hereF x c (mkG x.nodes x.roots) i:=by
 unfold hereAt
 show((stN x c (mkG x.nodes x.roots) (mkG x.nodes x.roots).nodes.length).here[i]?).getD _=_
 rw[(st_at (sz9 x) _ (Nat.le_refl _) i hi).1]
 rfl
theorem old_is{i:Nat}(hi:i< (mkG x.nodes x.roots).nodes.length):oldAt (standB x c) i=oldF x c (mkG x.nodes x.roots) i:=by
 unfold oldAt
 show((stN x c (mkG x.nodes x.roots) (mkG x.nodes x.roots).nodes.length).old[i]?).getD _=_
 rw[(st_at (sz9 x) _ (Nat.le_refl _) i hi).2]
 rfl
theorem cat_len: ∀i,i≤(mkG x.nodes x.roots).nodes.length→ ∀k:Int,1≤k∧k≤4→(cat (standB x c) x k i).length=nk (stN x c (mkG x.nodes x.roots) i) k
 |0,_,k,hk=>by simp[cat,stN,nk]
 |i+1,hi,k,hk=>by
  have ih:=cat_len i (by omega) k hk
  rw[cat_succ,List.length_append,ih]
  have hn:ndAt (standB x c) i=((mkG x.nodes x.roots).nodes[i]?).getD default:=rfl
  unfold blk
  rw[here_is (show i< (mkG x.nodes x.roots).nodes.length by omega),old_is (show i< (mkG x.nodes x.roots).nodes.length by omega),hn,stN]
  generalize ((mkG x.nodes x.roots).nodes[i]?).getD default=n
  have hk4:k=1∨k=2∨k=3∨k=4:=by omega
  unfold hereF oldF
  generalize stN x c (mkG x.nodes x.roots) i=s
  rcases clsK_range x i c with h0|h1| ⟨h2,rfl⟩
  ·rcases hk4 with rfl|rfl|rfl|rfl<;>simp[nk,stStep,h0,laidN_len]
  ·cases c<;>cases hf:clsF x i<;>rcases hk4 with rfl|rfl|rfl|rfl<;>simp[nk,stStep,h1,hf,laidN_len,goneN_len]
  ·cases hf:clsF x i<;>rcases hk4 with rfl|rfl|rfl|rfl<;>simp[nk,stStep,h2,hf,laidN_len,goneN_len]
theorem stand_placed(hx:x.ok):Placed (standB x c) x:=by
 refine⟨(stand_ok hx c).1,fun i hi=> ?_,fun i hi=> ?_,fun k hk=> ?_⟩
 ·rw[standB_g]at hi
  rw[here_is hi,old_is hi]
  have hl:=fun k hk=>cat_len (x:=x) (c:=c) i (by omega) k hk
  unfold hereF oldF
  rcases clsK_range x i c with h0|h1| ⟨h2,rfl⟩
  ·right
   simp[h0,hl 2,nk]
  ·right
   simp[h1,hl 1,nk]
  ·left
   refine⟨by simp[h2],?_⟩
   cases hf:clsF x i
   ·exact⟨3,.inl rfl,by simp[h2]⟩
   ·exact⟨4,.inr rfl,by simp[h2]⟩
 ·rw[standB_g]at hi
  rw[here_is hi,old_is hi]
  have hl:=fun k hk=>cat_len (x:=x) (c:=c) i (by omega) k hk
  unfold hereF oldF
  rcases clsK_range x i c with h0|h1| ⟨h2,rfl⟩
  ·left
   simp[h0]
  ·cases c
   ·left;simp
   ·right
    cases hf:clsF x i
    ·simp[h1,hl 3,nk]
    ·simp[h1,hl 4,nk]
  ·right
   cases hf:clsF x i
   ·simp[h2,hl 3,nk]
   ·simp[h2,hl 4,nk]
 ·rw[standB_g,cat_len _ (Nat.le_refl _) k hk]
  have hk4:k=1∨k=2∨k=3∨k=4:=by omega
  rcases hk4 with rfl|rfl|rfl|rfl<;>rfl
end
end Vm
end
section
namespace Vm
open Go Go.Proofs
set_option maxRecDepth 100000
set_option maxHeartbeats 1000000
theorem sizL_part(h:Hp){k:Int}(hk:1≤k∧k≤4):sizL (layH h) k=(partH h k).length:=by
 have h1:k=1∨k=2∨k=3∨k=4:=by omega
 rcases h1 with rfl|rfl|rfl|rfl<;>rfl
theorem unpk_pack{s p:Int}(h:shapeOk s p=true):unpk (packW s p).1=(s,p,0):=by
 have h2:=shapeOk_iff.1 h
 unfold packW
 rw[if_pos h]
 unfold unpk
 have e1:2*(s+65536*p) / 2%65536=s:=by omega
 have e2:2*(s+65536*p) / 131072=p:=by omega
 simp only[e1,e2,h]
 rw[if_pos ⟨by omega,trivial⟩]
theorem isPtr_ref(h:Hp)(p:Pl):isPtr (refB h p)=true:=by
 unfold refB isPtr
 split
 ·rfl
 unfold ptrTo
 split
 ·rfl
 ·rename_i h1
  unfold adr
  simp only
  rw[if_neg (by omega),if_neg (by omega)]
  simp
theorem isPtr_slot(b:Bt)(p:Pl)(to tw:Int):isPtr (slotB b p to tw)=true:=by
 unfold slotB
 split
 ·rfl
 split
 ·exact isPtr_ref _ _
 split<;>exact isPtr_ref _ _
theorem slotsOk_of{gone:Bool}{ptrs:Int}: ∀ {l:List Int} {i:Nat},(∀(j:Nat) (w:Int),l[j]? =some w→(gone=true→w=0)∧(((i+j:Nat):Int) <ptrs→isPtr w=true))→slotsOk l gone ptrs i=true
 | [],_,_=>rfl
 |w::l,i,h=>by
  obtain⟨h1,h2⟩:=h 0 w rfl
  have ih:slotsOk l gone ptrs (i+1)=true:=slotsOk_of fun j y hy=>by
   have:=h (j+1) y hy
   rw[show i+1+j=i+(j+1)by omega]
   exact this
  rw[slotsOk,ih]
  cases gone
  ·by_cases hp:(i:Int) <ptrs
   ·simp[h2 (by simpa using hp)]
   ·simp[hp]
  ·rw[h1 rfl]
   simp[isPtr]
theorem stands_laid{b:Bt}{p:Pl}{n:Nd}{tw:Int}{F r:List Int}{old:Bool}(hat:p.at_=(F.length:Nat))(hn:sizN n≤9):Stands (F++laidN b p n tw++r) old ⟨p.at_,(n.ptrs.length:Int)+n.data.length,n.ptrs.length,false,0⟩:=by
 have hsh:shapeOk ((n.ptrs.length:Int)+n.data.length) n.ptrs.length=true:=by
  unfold sizN at hn
  exact shapeOk_iff.2 (by omega)
 have hw:(F++laidN b p n tw++r)[F.length]? =some (hdrN n):=by
  rw[List.append_assoc,List.getElem?_append_right (Nat.le_refl _),Nat.sub_self]
  rfl
 have hu:=unpk_pack hsh
 refine⟨by show 0≤p.at_;omega,hsh,?_,?_,hdrN n,by rw[hat];simpa using hw,?_⟩
 ·have:=laidN_len b p n tw
  unfold sizN at this
  simp only[List.length_append,this,hat]
  omega
 ·simp only[hat,Int.toNat_natCast]
  have e:((F++laidN b p n tw++r).drop (F.length+1)).take ((n.ptrs.length:Int)+n.data.length).toNat=slotsB b p p.at_.toNat n.ptrs tw++n.data:=by
   have e1:((n.ptrs.length:Int)+n.data.length).toNat=(slotsB b p p.at_.toNat n.ptrs tw++n.data).length:=by simp[slotsB];omega
   rw[e1,List.append_assoc,List.drop_append,List.drop_of_length_le (by omega),Nat.add_sub_cancel_left,List.nil_append]
   have e2:(laidN b p n tw++r).drop 1=(slotsB b p p.at_.toNat n.ptrs tw++n.data)++r:=rfl
   rw[e2,List.take_left]
  rw[e]
  refine slotsOk_of fun j w hw=>⟨by simp,fun hlt=> ?_⟩
  have hlt':j<n.ptrs.length:=by simpa using hlt
  rw[List.getElem?_append_left (by simp[slotsB];exact hlt')]at hw
  simp only[slotsB,List.getElem?_map,Option.map_eq_some_iff]at hw
  obtain⟨q,_,rfl⟩:=hw
  exact isPtr_slot _ _ _ _
 ·simp only[Bool.false_eq_true,if_false]
  exact⟨fun _=>adr_unpk (by unfold hdrN;rw[hu]),hu,trivial⟩
theorem stands_gone{b:Bt}{p o:Pl}{n:Nd}{F r:List Int}(hat:o.at_=(F.length:Nat))(hn:sizN n≤9)(ha:(adr (refB b.h p)).2=0):Stands (F++goneN b p n++r) true ⟨o.at_,(n.ptrs.length:Int)+n.data.length,n.ptrs.length,true,(adr (refB b.h p)).1⟩:=by
 have hsh:shapeOk ((n.ptrs.length:Int)+n.data.length) n.ptrs.length=true:=by
  unfold sizN at hn
  exact shapeOk_iff.2 (by omega)
 have hw:(F++goneN b p n++r)[F.length]? =some (refB b.h p):=by
  rw[List.append_assoc,List.getElem?_append_right (Nat.le_refl _),Nat.sub_self]
  rfl
 refine⟨by show 0≤o.at_;omega,hsh,?_,?_,_,by rw[hat];simpa using hw,?_⟩
 ·have:=goneN_len b p n
  unfold sizN at this
  simp only[List.length_append,this,hat]
  omega
 ·simp only[hat,Int.toNat_natCast]
  have e:((F++goneN b p n++r).drop (F.length+1)).take ((n.ptrs.length:Int)+n.data.length).toNat=List.replicate (sizN n-1) 0:=by
   have e1:((n.ptrs.length:Int)+n.data.length).toNat=(List.replicate (sizN n-1) (0:Int)).length:=by simp[sizN];omega
   rw[e1,List.append_assoc,List.drop_append,List.drop_of_length_le (by omega),Nat.add_sub_cancel_left,List.nil_append]
   have e2:(goneN b p n++r).drop 1=List.replicate (sizN n-1) 0++r:=rfl
   rw[e2,List.take_left]
  rw[e]
  refine slotsOk_of fun j w hw=> ?_
  have:=(List.mem_replicate.1 (List.mem_of_getElem? hw)).2
  subst this
  exact⟨fun _=>rfl,fun _=>rfl⟩
 ·simp only[if_true]
  exact⟨trivial,ha,trivial⟩
def obAt(b:Bt)(k:Int)(i:Nat):List Ob:=
 if(hereAt b i).part=k then [⟨(hereAt b i).at_,((ndAt b i).ptrs.length:Int)+(ndAt b i).data.length,(ndAt b i).ptrs.length,false,0⟩]
 else if(oldAt b i).part=k then(if(hereAt b i).part=0 then [⟨(oldAt b i).at_,((ndAt b i).ptrs.length:Int)+(ndAt b i).data.length,(ndAt b i).ptrs.length,false,0⟩]
  else [⟨(oldAt b i).at_,((ndAt b i).ptrs.length:Int)+(ndAt b i).data.length,(ndAt b i).ptrs.length,true,(adr (refB b.h (hereAt b i))).1⟩])
 else []
def obs(b:Bt)(k:Int):List Ob:=(List.range b.g.nodes.length).flatMap (obAt b k)
section
variable {b:Bt} {x:Rw}
theorem Placed.nine(hpl:Placed b x)(h9: ∀n∈b.g.nodes,sizN n≤9){i:Nat}(hi:i<b.g.nodes.length):sizN (ndAt b i)≤9:=by
 unfold ndAt
 rw[List.getElem?_eq_getElem hi]
 exact h9 _ (List.getElem_mem hi)
theorem Placed.len(hpl:Placed b x){k:Int}(hk:1≤k∧k≤4):sizL (layH b.h) k=((cat b x k b.g.nodes.length).length:Nat):=by
 rw[sizL_part b.h hk,hpl.zero k hk]
 simp
theorem Placed.here_in(hpl:Placed b x){i:Nat}(hi:i<b.g.nodes.length)(hp:(hereAt b i).part≠0):((hereAt b i).part=1∨(hereAt b i).part=2)∧(hereAt b i).at_=((cat b x (hereAt b i).part i).length:Nat)∧(hereAt b i).at_+sizN (ndAt b i)≤sizL (layH b.h) (hereAt b i).part:=by
 rcases hpl.here i hi with ⟨h,_⟩ | ⟨h1,h2⟩
 ·rw[h]at hp;exact absurd rfl hp
 ·refine⟨h1,h2,?_⟩
  have:=room_k b x (hereAt b i).part hi
  rw[hpl.len (by omega),h2]
  have e:blk b x (hereAt b i).part i=laidN b (hereAt b i) (ndAt b i) (IntKind.i64.wrap (x.slack+i)):=by unfold blk;rw[if_pos rfl]
  rw[e,laidN_len]at this
  omega
theorem Placed.old_in(hpl:Placed b x){i:Nat}(hi:i<b.g.nodes.length)(hp:(oldAt b i).part≠0):((oldAt b i).part=3∨(oldAt b i).part=4)∧(oldAt b i).at_=((cat b x (oldAt b i).part i).length:Nat)∧(hereAt b i).part≠2∧(oldAt b i).at_+sizN (ndAt b i)≤sizL (layH b.h) (oldAt b i).part:=by
 rcases hpl.old i hi with h| ⟨h1,h2,h3⟩
 ·rw[h]at hp;exact absurd rfl hp
 ·refine⟨h1,h2,h3,?_⟩
  have:=room_k b x (oldAt b i).part hi
  rw[hpl.len (by omega),h2]
  have hh:(hereAt b i).part=0∨(hereAt b i).part=1:=by
   by_cases h0:(hereAt b i).part=0
   ·exact .inl h0
   ·have:=(hpl.here_in hi h0).1;omega
  have e:(blk b x (oldAt b i).part i).length=sizN (ndAt b i):=by
   unfold blk
   rw[if_neg (by omega),if_pos rfl]
   split
   ·exact laidN_len _ _ _ _
   ·exact goneN_len _ _ _
  rw[e]at this
  omega
theorem Placed.ref_here(hpl:Placed b x)(hr:rightL (layH b.h)=true){i:Nat}(hi:i<b.g.nodes.length)(hp:(hereAt b i).part≠0):refB b.h (hereAt b i)=refR (layH b.h) (hereAt b i).part (hereAt b i).at_:=by
 obtain⟨h1,h2,h3⟩:=hpl.here_in hi hp
 have hs:1≤sizN (ndAt b i):=by unfold sizN;omega
 unfold refB
 rw[if_neg hp,addr_in hr (by omega) ⟨by omega,by omega⟩]
 have:=fstL_range hr (hereAt b i).part
 unfold ptrTo refR
 rw[if_neg (by omega)]
theorem Placed.ref_old(hpl:Placed b x)(hr:rightL (layH b.h)=true){i:Nat}(hi:i<b.g.nodes.length)(hp:(oldAt b i).part≠0):refB b.h (oldAt b i)=refR (layH b.h) (oldAt b i).part (oldAt b i).at_:=by
 obtain⟨h1,h2,_,h3⟩:=hpl.old_in hi hp
 have hs:1≤sizN (ndAt b i):=by unfold sizN;omega
 unfold refB
 rw[if_neg hp,addr_in hr (by omega) ⟨by omega,by omega⟩]
 have:=fstL_range hr (oldAt b i).part
 unfold ptrTo refR
 rw[if_neg (by omega)]
theorem obs_tiles(hpl:Placed b x)(hr:rightL (layH b.h)=true)(h9: ∀n∈b.g.nodes,sizN n≤9){k:Int}(hk:1≤k∧k≤4): ∀(m i:Nat),i+m=b.g.nodes.length→Tiles (cat b x k b.g.nodes.length) (decide (2<k)) (cat b x k i).length ((List.range' i m).flatMap (obAt b k))
 |0,i,hi=>by
  have:i=b.g.nodes.length:=by omega
  subst this
  exact Nat.le_refl _
 |m+1,i,hi=>by
  have ih:=obs_tiles hpl hr h9 hk m (i+1) (by omega)
  have hlt:i<b.g.nodes.length:=by omega
  have h9i:=hpl.nine h9 hlt
  obtain⟨r,hrr⟩:=cat_mono b x k (show i+1≤b.g.nodes.length by omega)
  rw[List.range'_succ,List.flatMap_cons]
  have hs:=cat_succ b x k i
  by_cases h1:(hereAt b i).part=k
  ·have hb:blk b x k i=laidN b (hereAt b i) (ndAt b i) (IntKind.i64.wrap (x.slack+i)):=by unfold blk;rw[if_pos h1]
   have ho:obAt b k i= [⟨(hereAt b i).at_,((ndAt b i).ptrs.length:Int)+(ndAt b i).data.length,(ndAt b i).ptrs.length,false,0⟩]:=by unfold obAt;rw[if_pos h1]
   obtain⟨_,q2,_⟩:=hpl.here_in hlt (by omega)
   rw[h1]at q2
   rw[ho]
   refine⟨q2,?_,?_⟩
   ·rw[hrr,hs,hb]
    exact stands_laid q2 h9i
   ·rw[hs,hb,List.length_append,laidN_len]at ih
    have:(((ndAt b i).ptrs.length:Int)+(ndAt b i).data.length).toNat=sizN (ndAt b i) -1:=by unfold sizN;omega
    simp only[this]
    rw[show(cat b x k i).length+1+(sizN (ndAt b i) -1)=(cat b x k i).length+sizN (ndAt b i)by unfold sizN;omega]
    exact ih
  by_cases h2:(oldAt b i).part=k
  ·obtain⟨q1,q2,q3,q4⟩:=hpl.old_in hlt (by omega)
   have hk3:2<k:=by omega
   rw[h2]at q2
   have hlen:(cat b x k (i+1)).length=(cat b x k i).length+1+(((ndAt b i).ptrs.length:Int)+(ndAt b i).data.length).toNat:=by
    have e:(blk b x k i).length=sizN (ndAt b i):=by
     unfold blk
     rw[if_neg h1,if_pos h2]
     split
     ·exact laidN_len _ _ _ _
     ·exact goneN_len _ _ _
    rw[hs,List.length_append,e]
    unfold sizN
    omega
   rw[hlen]at ih
   by_cases h3:(hereAt b i).part=0
   ·have hb:blk b x k i=laidN b (oldAt b i) (ndAt b i) 0:=by unfold blk;rw[if_neg h1,if_pos h2,if_pos h3]
    have ho:obAt b k i= [⟨(oldAt b i).at_,((ndAt b i).ptrs.length:Int)+(ndAt b i).data.length,(ndAt b i).ptrs.length,false,0⟩]:=by unfold obAt;rw[if_neg h1,if_pos h2,if_pos h3]
    rw[ho]
    refine⟨q2,?_,ih⟩
    rw[hrr,hs,hb]
    exact stands_laid q2 h9i
   ·have hb:blk b x k i=goneN b (hereAt b i) (ndAt b i):=by unfold blk;rw[if_neg h1,if_pos h2,if_neg h3]
    have ho:obAt b k i= [⟨(oldAt b i).at_,((ndAt b i).ptrs.length:Int)+(ndAt b i).data.length,(ndAt b i).ptrs.length,true,(adr (refB b.h (hereAt b i))).1⟩]:=by unfold obAt;rw[if_neg h1,if_pos h2,if_neg h3]
    rw[ho]
    refine⟨q2,?_,ih⟩
    rw[hrr,hs,hb,decide_eq_true hk3]
    refine stands_gone q2 h9i ?_
    obtain⟨u1,u2,_⟩:=hpl.here_in hlt h3
    rw[hpl.ref_here hr hlt h3,adr_ref hr (by omega)]
  ·have hb:blk b x k i= []:=by unfold blk;rw[if_neg h1,if_neg h2]
   have ho:obAt b k i= []:=by unfold obAt;rw[if_neg h1,if_neg h2]
   rw[ho,List.nil_append]
   rw[hs,hb,List.append_nil]at ih
   exact ih
theorem obs_tile(hpl:Placed b x)(hr:rightL (layH b.h)=true)(h9: ∀n∈b.g.nodes,sizN n≤9){k:Int}(hk:1≤k∧k≤4):Tiles (partH (fillH x b) k) (decide (2<k)) 0 (obs b k):=by
 rw[fill_parts hpl hk]
 have:=obs_tiles hpl hr h9 hk b.g.nodes.length 0 (by omega)
 unfold obs
 rw[List.range_eq_range']
 exact this
theorem mem_obs{k:Int}{o:Ob}:o∈obs b k↔ ∃i,i<b.g.nodes.length∧o∈obAt b k i:=by
 unfold obs
 simp[List.mem_flatMap]
end
end Vm
end
section
namespace Vm
open Go Go.Proofs
set_option maxRecDepth 100000
theorem slotsOk_at{gone:Bool}{ptrs:Int}: ∀ {l:List Int} {i:Nat},slotsOk l gone ptrs i=true→ ∀(j:Nat) (w:Int),l[j]? =some w→(gone=true→w=0)∧(((i+j:Nat):Int) <ptrs→isPtr w=true)
 | [],_,_,j,w,hw=>by simp at hw
 |y::l,i,hs,j,w,hw=>by
  simp only[slotsOk,Bool.and_eq_true]at hs
  cases j with
  |zero=>
   simp at hw
   subst hw
   obtain⟨⟨h1,h2⟩,_⟩:=hs
   refine⟨fun hg=> ?_,fun hp=> ?_⟩
   ·rw[hg]at h1;simpa using h1
   ·simpa[show(i:Int) <ptrs by omega]using h2
  |succ j=>
   have:=slotsOk_at hs.2 j w (by simpa using hw)
   rw[show i+1+j=i+(j+1)by omega]at this
   exact this
end Vm
end
section
namespace Vm
open Go
open Go.Proofs
set_option maxRecDepth 100000
def p44:Fn:=⟨7,[0,1,2,3,6,7,8],
(.seq
(.reg ⟨[],[],[(3,.m [(.fld (.sz (.s 0) 10) 0),(.fld (.sz (.s 0) 10) 1),(.fld (.sz (.s 0) 10) 2),(.fld (.sz (.s 0) 10) 3),(.fld (.sz (.s 0) 10) 4),(.fld (.sz (.s 0) 10) 5),(.fld (.sz (.s 0) 10) 6),(.fld (.sz (.s 0) 10) 7),(.fld (.sz (.s 0) 10) 8),(.fld (.sz (.s 0) 10) 9)]),(4,.v (.c (.int .u64 (0)))),(5,.v (.c (.int .i64 (0))))]⟩)
(.seq
(.reg ⟨[.call 7 [] (.id 79) false false [(.s 2),(.c (.int .i64 (20)))]],[],[(6,.v (.bin .add (.m 3 1) (.s 7)))]⟩)
(.seq
(.reg ⟨[],[],[(4,.v (.bin .add (.c (.int .u64 (1))) (.bin .rem (.s 1) (.bin .sub (.c (.int .u64 (9223372036854775808))) (.bin .mul (.c (.int .u64 (2))) (.conv .u64 (.s 6))))))),(5,.v (.s 6))]⟩)
.ret))),
[(4,.v),(5,.v)]⟩
theorem c44:compFn Try.prog fresh sig [.fz,.fz,.fz] [] Try.f44=some p44:=by kernel_rfl
def p49:Fn:=⟨16,[0,1,2,3,4,6,7,19,21,8,9,28,10,36,11,44],
(.seq
(.reg ⟨[],[],[(3,.m [(.fld (.sz (.s 0) 7) 0),(.fld (.sz (.s 0) 7) 1),(.fld (.sz (.s 0) 7) 2),(.fld (.sz (.s 0) 7) 3),(.fld (.sz (.s 0) 7) 4),(.fld (.sz (.s 0) 7) 5),(.fld (.sz (.s 0) 7) 6)]),(4,.m [(.fld (.sz (.s 1) 7) 0),(.fld (.sz (.s 1) 7) 1),(.fld (.sz (.s 1) 7) 2),(.fld (.sz (.s 1) 7) 3),(.fld (.sz (.s 1) 7) 4),(.fld (.sz (.s 1) 7) 5),(.fld (.sz (.s 1) 7) 6)]),(5,.v (.c (.int .u64 (0)))),(6,.v (.c (.int .i64 (0))))]⟩)
(.seq
(.seq
(.reg ⟨[.call 16 [] (.id 55) false false [(.mm 3 0 7)],.lt 17 [] (.un .not (.s 16)),.call 18 [(17,false)] (.id 55) false false [(.mm 4 0 7)]],[([(17,false)],(.un .not (.s 18)))],[(7,.v (.ite (.s 17) (.c (.bool true)) (.un .not (.s 18))))]⟩)
(.cond (.s 7)
 (.seq
 (.reg ⟨[],[],[(5,.v (.c (.int .u64 (0)))),(6,.v (.c (.int .i64 (1))))]⟩)
 .ret)
 .skip))
(.seq
(.seq
(.reg ⟨[],[],[(8,.v (.bin .eql (.s 2) (.c (.int .u64 (0)))))]⟩)
(.cond (.s 8)
 (.seq
 (.reg ⟨[],[],[(5,.v (.c (.int .u64 (0)))),(6,.v (.c (.int .i64 (0))))]⟩)
 .ret)
 .skip))
(.seq
(.reg ⟨[.call 19 [] (.id 57) false false [(.s 2)]],[],[(9,.v (.ext (.s 19) 0)),(10,.v (.ext (.s 19) 1))]⟩)
(.seq
(.seq
(.reg ⟨[],[],[(11,.v (.bin .neq (.s 10) (.c (.int .i64 (0)))))]⟩)
(.cond (.s 11)
 (.seq
 (.reg ⟨[],[],[(5,.v (.c (.int .u64 (0)))),(6,.v (.c (.int .i64 (3))))]⟩)
 .ret)
 .skip))
(.seq
(.reg ⟨[.call 20 [] (.id 58) false false [(.mm 3 0 7),(.s 9)]],[],[(10,.v (.ext (.s 20) 1)),(12,.m [(.fld (.sz (.ext (.s 20) 0) 2) 0),(.fld (.sz (.ext (.s 20) 0) 2) 1)])]⟩)
(.seq
(.seq
(.reg ⟨[],[],[(13,.v (.bin .neq (.s 10) (.c (.int .i64 (0)))))]⟩)
(.cond (.s 13)
 (.seq
 (.reg ⟨[],[],[(5,.v (.c (.int .u64 (0)))),(6,.v (.c (.int .i64 (6))))]⟩)
 .ret)
 .skip))
(.seq
(.reg ⟨[.call 21 [] (.id 39) false false [(.mm 4 0 7),(.mm 12 0 2)]],[],[(10,.v (.ext (.s 21) 1)),(14,.v (.ext (.s 21) 0))]⟩)
(.seq
(.seq
(.reg ⟨[],[],[(15,.v (.bin .neq (.s 10) (.c (.int .i64 (0)))))]⟩)
(.cond (.s 15)
 (.seq
 (.reg ⟨[],[],[(5,.v (.c (.int .u64 (0)))),(6,.v (.c (.int .i64 (6))))]⟩)
 .ret)
 .skip))
(.seq
(.reg ⟨[.call 22 [] (.id 40) false false [(.s 14)]],[],[(5,.v (.ext (.s 22) 0)),(6,.v (.ext (.s 22) 1))]⟩)
.ret)))))))))),
[(5,.v),(6,.v)]⟩
theorem c49:compFn Try.prog fresh sig [.fz,.fz,.fz] [] Try.f49=some p49:=by kernel_rfl
end Vm
end
section
namespace Vm
open Go Go.Proofs
set_option maxRecDepth 100000
set_option maxHeartbeats 1000000
def ptrM(f t:Ly)(w:Int):Int×Int:=
 if rightL f=false∨rightL t=false then(0,1)else if w=0 then(0,0)else if(adr w).2≠0 then(0,3)
 else if(findL f (adr w).1).2.2≠0∨(addrL t (findL f (adr w).1).1 (findL f (adr w).1).2.1).2≠0 then(0,6)
 else(2*(addrL t (findL f (adr w).1).1 (findL f (adr w).1).2.1).1+1,0)
theorem addr_ptr{t:Ly}{k a:Int}(h:(addrL t k a).2=0):ptrTo (addrL t k a).1=(2*(addrL t k a).1+1,0):=by
 unfold addrL at h⊢
 split at h
 ·simp at h
 rename_i h1
 split at h
 ·simp at h
 rename_i h2
 split at h
 ·simp at h
 rename_i h3
 rw[if_neg h1,if_neg h2,if_neg h3]
 have:=fstL_range (l:=t) (by simpa using h1) k
 unfold ptrTo
 rw[if_neg (by simp only;omega)]
theorem ptrM_u(f t:Ly)(w:Int):U64 (ptrM f t w).1:=by
 unfold ptrM
 split
 ·simp[U64]
 split
 ·simp[U64]
 split
 ·simp[U64]
 split
 ·simp[U64]
 ·have:=addr_63 (l:=t) (k:=(findL f (adr w).1).1) (a:=(findL f (adr w).1).2.1)
  simp only[U64]
  omega
theorem ptrM_vc{f t:Ly}(hf:f.fits)(ht:t.fits){w:Int}(hw:U64 w):VC Try.prog 49 false [lyV f,lyV t,vu w] (.tup [vu (ptrM f t w).1,vi (ptrM f t w).2]):=by
 refine vc_of_wp Try.func49 follows (by kernel_rfl) c49 rfl ?_
 have k1:=rightL_vc hf
 have k2:=rightL_vc ht
 have k3:=adr_vc hw
 have k4:=findL_vc hf (adr_u hw)
 have k5:=addrL_vc ht (part:=(findL f (adr w).1).1) (at_:=(findL f (adr w).1).2.1)
 have k6:=ptrTo_vc (a:=(addrL t (findL f (adr w).1).1 (findL f (adr w).1).2.1).1) addr_u
 have hap:=fun h=>addr_ptr (t:=t) (k:=(findL f (adr w).1).1) (a:=(findL f (adr w).1).2.1) h
 unfold lyV at k1 k2 k4 k5
 unfold ptrM
 simp[p49,lyV]
 refine callW_of k1 (by simp) ?_
 cases hr:rightL f
 ·simp
 simp
 refine callW_of k2 (by simp) ?_
 cases hr2:rightL t
 ·simp
 simp
 by_cases h0:w=0
 ·simp[h0]
 simp[h0]
 refine callW_of k3 (by simp) ?_
 by_cases h1:(adr w).2=0
 case neg=>simp[h1]
 simp[h1]
 refine callW_of k4 (by simp) ?_
 by_cases h2:(findL f (adr w).1).2.2=0
 case neg=>simp[h2]
 simp[h2]
 refine callW_of k5 (by simp) ?_
 by_cases h3:(addrL t (findL f (adr w).1).1 (findL f (adr w).1).2.1).2=0
 case neg=>simp[h3]
 rw[hap h3]at k6
 simp[h3]
 exact callW_of k6 (by simp) (by simp)
end Vm
end
