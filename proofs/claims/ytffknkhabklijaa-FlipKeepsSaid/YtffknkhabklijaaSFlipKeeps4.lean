import Derived.Test.YtffknkhabklijaaChecked
import Derived.Test.YtffknkhabklijaaSFlipKeeps3
set_option linter.unusedSimpArgs false
set_option linter.unusedVariables false
set_option linter.defProp false
open Option renaming some→xk,none→xw
open Bool renaming true→xy,false→xh
open List renaming length→P
open Array renaming size→U
open Go.World renaming heap→R
open List renaming length→xq
open Array renaming size→xz
open Go.World renaming heap→xj
theorem Z2{p:Prop}(h:p:=by kernel_rfl):p:=h
def ZgU:=@Array.getElem?_mapIdx
def ZgF:=@List.getElem?_cons_succ
section
namespace Vm
open Go Go.Conc
def Cl(v:Z7):Prop:=∀ρ,Zt ρ v=v
def Cl.fix{v:Z7}(h:Cl v):FixV 0 v:=λρ _=>h ρ
theorem jw{cs:Za}(h:∀v∈cs,Cl v):Cl (.agg cs):=λρ=>by rw[Wz,Q0 λx a=>h x a ρ]
def EK{v:Z7}(h:Cl v):∀x∈v.cells,Cl x:=by
 cases v with
 |agg d=>
  intro x a ρ;have:=h ρ;rw[Wz]at this;injection this with this;obtain⟨i,f⟩:=Array.getElem?_of_mem (show x∈d from a);grind
 |_=>intro x a;have:x=_:=(by simpa[Value.cells]using a);rw[this];exact h
def Fz{α β:Type}{Q:β->Prop}{f:α->β->Option (ForInStep β)}(g:∀a b s,Q b->f a b=xk s->match s with|.done b=>Q b|.yield b=>Q b):∀(l:List α) (b d:β),Q b->forIn l b f=xk d->Q d
 | [],b,d,h,e=>by
   simp_all
 |a::l,b,d,h,e=>by
  rw[List.forIn_cons]at e;obtain⟨s,j,e⟩:=ZdN.1 e;have:=g a b s h j;cases s with
  |done c=>simp_all
  |yield c=>exact Fz g l c d this e
def T7(i:TypeInfo):Prop:=∀z,i.zero=xk z->Cl z
def Z8G{info:TypeId->Option TypeInfo}(l:∀t i,info t=xk i->T7 i){fs:Array Field}{i:TypeInfo}(h:Made.reckonStruct info fs=xk i):T7 i:=by
 unfold Made.reckonStruct at h;dsimp only at h;rw[<-Array.forIn_toList]at h;obtain⟨r,o,h⟩:=ZdN.1 h;have u:=Fz (Q:=λr=>∀g,r.2.2.2.2.2.2.2.1=xk g->∀v∈g,Cl v) (λa b s n d=>by
  obtain⟨i,q,d⟩:=ZdN.1 d;have fin:∀g,(if b.2.1+i.size>Made.mostCells then xw else do pure ((<-b.2.2.2.2.2.2.2.1)++(<-i.zero).cells):Option (Array Value))=xk g->∀v∈g,Cl v:=λg f=>by
   split at f;cases f;obtain⟨w,p,f⟩:=ZdN.1 f;obtain⟨x,k,f⟩:=ZdN.1 f;cases f;intro v j;obtain j|j:=Zfs.1 j;exact n w p v j;exact EK (l _ i q x k) v j
  clear n l o h
  revert fin
  generalize (if b.2.1+i.size>Made.mostCells then xw else do pure ((<-b.2.2.2.2.2.2.2.1)++(<-i.zero).cells):Option (Array Value))=Z at d⊢;intro fin;split at d;cases d;split at d;cases d;split at d;obtain⟨tag,_,d⟩:=ZdN.1 d;split at d;cases d;exact fin;cases d;exact fin;obtain⟨tag,_,d⟩:=ZdN.1 d;split at d;cases d;exact fin;cases d;exact fin) _ _ _ (λg f=>by cases f;intro v j;simp at j) o
 have key:∀ {z:Z7},r.2.2.2.2.2.2.2.1.map Value.agg=xk z->Cl z:=λf=>by
  obtain⟨g,k,rfl⟩:=ZdR.1 f;exact jw (u g k)
 split at h;cases h;exactλz f=>key f;cases h;exactλz f=>key f
def Lp{d:TypeDesc}{s:String}{v:Z7}{b:Bool}{n:Nat}(h:Cl v):T7 (Made.word d s v b n):=λz a=>by
 cases a;exact h
def Z8F{info:TypeId->Option TypeInfo}(l:∀t i,info t=xk i->T7 i){d:TypeDesc}{i:TypeInfo}(h:Made.reckon info d=xk i):T7 i:=by
 cases d with
 |struct r=>exact Z8G l h
 |pointer e=>
  obtain⟨x,f,h⟩:=ZdN.1 h;have w:∀ {s},(do pure (Made.word (.pointer e) ("*" ++(<-s)) (.pointer xw) xy):Option TypeInfo)=xk i->T7 i:=λh=>by
   obtain⟨y,_,h⟩:=ZdN.1 h;cases h;exact Lp λρ=>Ux ρ
  grind
 |slice e=>
  obtain⟨x,f,h⟩:=ZdN.1 h;obtain⟨y,_,h⟩:=ZdN.1 h;cases h;exact Lp λρ=>ZdL
 |map k e=>
  obtain⟨x,f,h⟩:=ZdN.1 h;obtain⟨y,_,h⟩:=ZdN.1 h;obtain⟨B,_,h⟩:=ZdN.1 h;obtain⟨C,_,h⟩:=ZdN.1 h;cases h;exact Lp λρ=>ZdL
 |chan d e=>
  obtain⟨x,f,h⟩:=ZdN.1 h;obtain⟨y,_,h⟩:=ZdN.1 h;cases h;exact Lp λρ=>ZdL
 |func u A v=>
  obtain⟨x,f,h⟩:=ZdN.1 h;cases h;exact Lp λρ=>qb ρ
 |array n e=>
  obtain⟨x,f,h⟩:=ZdN.1 h;obtain⟨y,_,h⟩:=ZdN.1 h;cases h;intro z g;dsimp only at g;split at g;cases g;split at g;grind [jw];obtain⟨q,o,rfl⟩:=ZdR.1 g;refine jw λv j=> ?_;obtain⟨a,p,j⟩:=Array.mem_flatten.1 j;rw[(Array.mem_replicate.1 p).2]at j;exact EK (l e x f q o) v j
 |_=>cases h
theorem OM{T:Tables}(a:∀(t:Z9) (i:TypeInfo),T.types[t]?=xk i->T7 i):∀(n:Nat) (t:Z9) (i:TypeInfo),Made.infoAt T n t=xk i->T7 i
 |0,t,i,h=>ZcY
 |n+1,t,i,h=>by
  unfold Made.infoAt at h;split at h;exact a t i h;obtain⟨d,_,h⟩:=ZdN.1 h;exact Z8F (λt i h=>OM a n t i h) h
def OK(l:List TypeInfo):Bool:=l.all λi=>match i.zero with|some z=>still 9 z|none=>xy
def Z8E{P:Z4}(h:OK P.types.toList=xy){t:Z9}{i:TypeInfo}(a:P.info? t=xk i):T7 i:=by
 have d:∀(t:Z9) (i:TypeInfo),P.types[t]?=xk i->T7 i:=λt i f z g ρ=>by
  have:=ZdZ.1 h i ZcN;grind [L1]
 have a:(if t<P.types.size then P.types[t]? else Made.infoAt P.toTables Made.depth t)=xk i:=a;grind [OM]
def MN(fn:Func):Func:= {fn with name:= "?",origin:= "?",body:=xw}
def WS(P:Z4)(l:Zd):Program:= {P with globals:=#[],funcs:=P.funcs.mapIdx λi fn=>if l.contains i then MN fn else fn}
def ZK{P:Z4}{l:Zd}{f:Nat}{fn:Func}(h:P.funcs[f]?=xk fn)(a:l.contains f=xh):(WS P l).funcs[f]?=xk fn:=by
 simp_all[WS,ZgU,Ze8,Ze3,Zex]
def yt(Q:Z4)(l:Zd):List Func->Nat->Bool
 | [],_=>xy
 |fn::a,i=>(l.contains i||(!(fn.name== "runtime.NumGoroutine")&&(match fn.body with|some c=>YY Q xh c|none=>xh)))&&yt Q l a (i+1)
def I8{Q:Z4}{l:Zd}:∀ {a:List Func} {i j:Nat} {fn:Func},yt Q l a i=xy->a[j]?=xk fn->l.contains (i+j)=xy\/((fn.name== "runtime.NumGoroutine")=xh/\∃c,fn.body=xk c/\YY Q xh c=xy)
 | [],i,j,fn,_,h=>Zds
 |g::a,i,j,fn,d,h=>by
  simp only[yt,ZdS,Ze7,ZeO]at d;obtain⟨k,f⟩:=d;cases j with
  |zero=>
   grind
  |succ j=>
   rw[ZgF]at h;have:=I8 f h;grind
def Z7s{P:Z4}{l:Zd}(o:OK P.types.toList=xy)(n:yt (WS P l) l P.funcs.toList 0=xy):Sub P (WS P l):=by
 refine⟨rfl,rfl,λt i z a d=>Cl.fix (Z8E (P:=WS P l) o a z d),λf fn j=> ?_⟩;simp only[WS,ZgU]at j;obtain⟨g,p,rfl⟩:=ZdR.1 j;by_cases k:l.contains f=xy;rw[if_pos k];exact .inl ⟨rfl,rfl,rfl⟩;rw[if_neg k];obtain h|⟨a,d⟩:=I8 n (ZcN:P.funcs.toList[f]?=xk g);simp_all;simp_all
end Vm
end
section
namespace Vm
open Go Go.Proofs
def qH(P:Program)(l:List Nat)(t:TypeId):(WS P l).underlying t=P.underlying t:=Cx.P_under {Q:=P,fs:=(WS P l).funcs,gs:=#[],ρ:=id,n0:=0,G:=λ_=>False,O:=λ_=>False,KL:=λ_=>False,KD:=λ_=>False} t
def Z7o(P:Program)(l:List Nat)(t:TypeId):(WS P l).info? t=P.info? t:=Cx.P_info {Q:=P,fs:=(WS P l).funcs,gs:=#[],ρ:=id,n0:=0,G:=λ_=>False,O:=λ_=>False,KL:=λ_=>False,KD:=λ_=>False} t
def ND(P:Program)(l:List Nat)(t:TypeId)(w:World):(typeInfo t).run (WS P l) w=(typeInfo t).run P w:=by
 unfold typeInfo;simp only[Zet,ZfK,Zeo,Z7o];cases P.info? t<;>simp only[stuck,ZfH,Sem.run]
def NE(P:Program)(l:List Nat)(t:TypeId)(w:World):(underlying t).run (WS P l) w=(underlying t).run P w:=by
 unfold underlying;simp only[Zet,ZfK,Zeo,qH];cases P.underlying t<;>simp only[stuck,ZfH,Sem.run]
def Z7q(P:Program)(l:List Nat)(t:TypeId)(w:World):(Go.sizeOf t).run (WS P l) w=(Go.sizeOf t).run P w:=by
 unfold Go.sizeOf;simp only[Zet,ND];cases(typeInfo t).run P w<;>simp only[Result.andThen,ZfH]
def Z7p(P:Program)(l:List Nat)(t:TypeId)(w:World):(isAgg t).run (WS P l) w=(isAgg t).run P w:=by
 unfold isAgg;simp only[Zet,NE];cases(underlying t).run P w with
 |ok d w'=>cases d<;>simp only[Zeo,ZfH]
 |halt h w'=>simp only[Result.andThen]
def Ng(P:Program)(t:TypeId)(w:World):(zeroValue t).run P w=((typeInfo t).run P w).andThen λi w'=>match i.zero with|some v=>.ok v w'|none=>.halt (.unsupported (.resourceLimit "a value of more than 2^22 cells")) w':=by
 unfold zeroValue;rw[Zet];refine ZeY _ (funext λi=>funext λw'=> ?_);cases i.zero with
 |none=>rfl
 |some v=>rfl
def Z7r(P:Program)(l:List Nat)(t:TypeId)(w:World):(zeroValue t).run (WS P l) w=(zeroValue t).run P w:=by
 rw[Ng,Ng,ND]
def XW{P:Program}{f:FuncId}{fn:Func}(h:P.funcs[f]?=xk fn)(hb:fn.body.isNone=xh)(hn:(fn.name== "runtime.NumGoroutine")=xh)(args:Array Value)(w:World):(callFunc f args).run P w=.ok (.enter f args) w:=by
 unfold callFunc;simp only[Zet,ZfK,Zeo,h,hb,hn,Ze3,Zex];rfl
namespace Sol
def no:List Nat:=[0,1,15,136,137,138,139,140,141,142,143,144,145,146,147,148,149,150,151]
noncomputable def prog:Program:=WS Try.prog no
@[simp]theorem und(t:TypeId):prog.underlying t=Try.prog.underlying t:=qH _ _ t
@[simp]theorem Zc0(t:TypeId)(w:World):(underlying t).run prog w=(underlying t).run Try.prog w:=NE _ _ t w
@[simp]theorem ZbZ(t:TypeId)(w:World):(Go.sizeOf t).run prog w=(Go.sizeOf t).run Try.prog w:=Z7q _ _ t w
@[simp]theorem ZbY(t:TypeId)(w:World):(isAgg t).run prog w=(isAgg t).run Try.prog w:=Z7p _ _ t w
@[simp]theorem Zc1(t:TypeId)(w:World):(zeroValue t).run prog w=(zeroValue t).run Try.prog w:=Z7r _ _ t w
@[simp]theorem main:prog.main=Try.prog.main:=rfl
@[simp]theorem func17:prog.funcs[17]?=xk Try.f17:=ZK Try.func17 rfl
@[simp]theorem func18:prog.funcs[18]?=xk Try.f18:=ZK Try.func18 rfl
@[simp]theorem func19:prog.funcs[19]?=xk Try.f19:=ZK Try.func19 rfl
@[simp]theorem func22:prog.funcs[22]?=xk Try.f22:=ZK Try.func22 rfl
@[simp]theorem func23:prog.funcs[23]?=xk Try.f23:=ZK Try.func23 rfl
@[simp]theorem func25:prog.funcs[25]?=xk Try.f25:=ZK Try.func25 rfl
@[simp]theorem Z9f(args:Array Value)(w:World):(callFunc 25 args).run prog w=.ok (.enter 25 args) w:=XW func25 rfl rfl args w
@[simp]theorem func27:prog.funcs[27]?=xk Try.f27:=ZK Try.func27 rfl
@[simp]theorem Z9g(args:Array Value)(w:World):(callFunc 27 args).run prog w=.ok (.enter 27 args) w:=XW func27 rfl rfl args w
@[simp]theorem func28:prog.funcs[28]?=xk Try.f28:=ZK Try.func28 rfl
@[simp]theorem func29:prog.funcs[29]?=xk Try.f29:=ZK Try.func29 rfl
@[simp]theorem func31:prog.funcs[31]?=xk Try.f31:=ZK Try.func31 rfl
@[simp]theorem func32:prog.funcs[32]?=xk Try.f32:=ZK Try.func32 rfl
@[simp]theorem func33:prog.funcs[33]?=xk Try.f33:=ZK Try.func33 rfl
@[simp]theorem Z9h(args:Array Value)(w:World):(callFunc 33 args).run prog w=.ok (.enter 33 args) w:=XW func33 rfl rfl args w
@[simp]theorem func34:prog.funcs[34]?=xk Try.f34:=ZK Try.func34 rfl
@[simp]theorem func35:prog.funcs[35]?=xk Try.f35:=ZK Try.func35 rfl
@[simp]theorem func36:prog.funcs[36]?=xk Try.f36:=ZK Try.func36 rfl
@[simp]theorem func40:prog.funcs[40]?=xk Try.f40:=ZK Try.func40 rfl
@[simp]theorem func42:prog.funcs[42]?=xk Try.f42:=ZK Try.func42 rfl
@[simp]theorem func43:prog.funcs[43]?=xk Try.f43:=ZK Try.func43 rfl
@[simp]theorem func44:prog.funcs[44]?=xk Try.f44:=ZK Try.func44 rfl
@[simp]theorem Z9i(args:Array Value)(w:World):(callFunc 44 args).run prog w=.ok (.enter 44 args) w:=XW func44 rfl rfl args w
@[simp]theorem func45:prog.funcs[45]?=xk Try.f45:=ZK Try.func45 rfl
@[simp]theorem func46:prog.funcs[46]?=xk Try.f46:=ZK Try.func46 rfl
@[simp]theorem func47:prog.funcs[47]?=xk Try.f47:=ZK Try.func47 rfl
@[simp]theorem func48:prog.funcs[48]?=xk Try.f48:=ZK Try.func48 rfl
@[simp]theorem func49:prog.funcs[49]?=xk Try.f49:=ZK Try.func49 rfl
@[simp]theorem func50:prog.funcs[50]?=xk Try.f50:=ZK Try.func50 rfl
@[simp]theorem func51:prog.funcs[51]?=xk Try.f51:=ZK Try.func51 rfl
@[simp]theorem func52:prog.funcs[52]?=xk Try.f52:=ZK Try.func52 rfl
@[simp]theorem func53:prog.funcs[53]?=xk Try.f53:=ZK Try.func53 rfl
@[simp]theorem func62:prog.funcs[62]?=xk Try.f62:=ZK Try.func62 rfl
@[simp]theorem func63:prog.funcs[63]?=xk Try.f63:=ZK Try.func63 rfl
@[simp]theorem func64:prog.funcs[64]?=xk Try.f64:=ZK Try.func64 rfl
@[simp]theorem Z9j(args:Array Value)(w:World):(callFunc 64 args).run prog w=.ok (.enter 64 args) w:=XW func64 rfl rfl args w
@[simp]theorem func65:prog.funcs[65]?=xk Try.f65:=ZK Try.func65 rfl
@[simp]theorem Z9k(args:Array Value)(w:World):(callFunc 65 args).run prog w=.ok (.enter 65 args) w:=XW func65 rfl rfl args w
@[simp]theorem func66:prog.funcs[66]?=xk Try.f66:=ZK Try.func66 rfl
@[simp]theorem Z9l(args:Array Value)(w:World):(callFunc 66 args).run prog w=.ok (.enter 66 args) w:=XW func66 rfl rfl args w
@[simp]theorem func67:prog.funcs[67]?=xk Try.f67:=ZK Try.func67 rfl
@[simp]theorem Z9m(args:Array Value)(w:World):(callFunc 67 args).run prog w=.ok (.enter 67 args) w:=XW func67 rfl rfl args w
@[simp]theorem func68:prog.funcs[68]?=xk Try.f68:=ZK Try.func68 rfl
@[simp]theorem Z9n(args:Array Value)(w:World):(callFunc 68 args).run prog w=.ok (.enter 68 args) w:=XW func68 rfl rfl args w
@[simp]theorem func69:prog.funcs[69]?=xk Try.f69:=ZK Try.func69 rfl
@[simp]theorem Z9o(args:Array Value)(w:World):(callFunc 69 args).run prog w=.ok (.enter 69 args) w:=XW func69 rfl rfl args w
@[simp]theorem func70:prog.funcs[70]?=xk Try.f70:=ZK Try.func70 rfl
@[simp]theorem Z9p(args:Array Value)(w:World):(callFunc 70 args).run prog w=.ok (.enter 70 args) w:=XW func70 rfl rfl args w
@[simp]theorem func71:prog.funcs[71]?=xk Try.f71:=ZK Try.func71 rfl
@[simp]theorem Z9q(args:Array Value)(w:World):(callFunc 71 args).run prog w=.ok (.enter 71 args) w:=XW func71 rfl rfl args w
@[simp]theorem func72:prog.funcs[72]?=xk Try.f72:=ZK Try.func72 rfl
@[simp]theorem func73:prog.funcs[73]?=xk Try.f73:=ZK Try.func73 rfl
@[simp]theorem Z9r(args:Array Value)(w:World):(callFunc 73 args).run prog w=.ok (.enter 73 args) w:=XW func73 rfl rfl args w
@[simp]theorem func75:prog.funcs[75]?=xk Try.f75:=ZK Try.func75 rfl
@[simp]theorem Z9s(args:Array Value)(w:World):(callFunc 75 args).run prog w=.ok (.enter 75 args) w:=XW func75 rfl rfl args w
@[simp]theorem func76:prog.funcs[76]?=xk Try.f76:=ZK Try.func76 rfl
@[simp]theorem func77:prog.funcs[77]?=xk Try.f77:=ZK Try.func77 rfl
@[simp]theorem func78:prog.funcs[78]?=xk Try.f78:=ZK Try.func78 rfl
@[simp]theorem func79:prog.funcs[79]?=xk Try.f79:=ZK Try.func79 rfl
@[simp]theorem func80:prog.funcs[80]?=xk Try.f80:=ZK Try.func80 rfl
@[simp]theorem func81:prog.funcs[81]?=xk Try.f81:=ZK Try.func81 rfl
@[simp]theorem func82:prog.funcs[82]?=xk Try.f82:=ZK Try.func82 rfl
@[simp]theorem func91:prog.funcs[91]?=xk Try.f91:=ZK Try.func91 rfl
@[simp]theorem func92:prog.funcs[92]?=xk Try.f92:=ZK Try.func92 rfl
@[simp]theorem Z9t(args:Array Value)(w:World):(callFunc 92 args).run prog w=.ok (.enter 92 args) w:=XW func92 rfl rfl args w
@[simp]theorem func93:prog.funcs[93]?=xk Try.f93:=ZK Try.func93 rfl
@[simp]theorem func94:prog.funcs[94]?=xk Try.f94:=ZK Try.func94 rfl
@[simp]theorem Z9u(args:Array Value)(w:World):(callFunc 94 args).run prog w=.ok (.enter 94 args) w:=XW func94 rfl rfl args w
@[simp]theorem func95:prog.funcs[95]?=xk Try.f95:=ZK Try.func95 rfl
@[simp]theorem Z9v(args:Array Value)(w:World):(callFunc 95 args).run prog w=.ok (.enter 95 args) w:=XW func95 rfl rfl args w
@[simp]theorem func99:prog.funcs[99]?=xk Try.f99:=ZK Try.func99 rfl
@[simp]theorem func100:prog.funcs[100]?=xk Try.f100:=ZK Try.func100 rfl
@[simp]theorem func101:prog.funcs[101]?=xk Try.f101:=ZK Try.func101 rfl
@[simp]theorem func102:prog.funcs[102]?=xk Try.f102:=ZK Try.func102 rfl
@[simp]theorem func103:prog.funcs[103]?=xk Try.f103:=ZK Try.func103 rfl
@[simp]theorem func104:prog.funcs[104]?=xk Try.f104:=ZK Try.func104 rfl
@[simp]theorem func105:prog.funcs[105]?=xk Try.f105:=ZK Try.func105 rfl
@[simp]theorem func106:prog.funcs[106]?=xk Try.f106:=ZK Try.func106 rfl
@[simp]theorem func107:prog.funcs[107]?=xk Try.f107:=ZK Try.func107 rfl
@[simp]theorem func108:prog.funcs[108]?=xk Try.f108:=ZK Try.func108 rfl
@[simp]theorem func109:prog.funcs[109]?=xk Try.f109:=ZK Try.func109 rfl
@[simp]theorem func110:prog.funcs[110]?=xk Try.f110:=ZK Try.func110 rfl
@[simp]theorem func113:prog.funcs[113]?=xk Try.f113:=ZK Try.func113 rfl
@[simp]theorem func116:prog.funcs[116]?=xk Try.f116:=ZK Try.func116 rfl
@[simp]theorem func117:prog.funcs[117]?=xk Try.f117:=ZK Try.func117 rfl
@[simp]theorem func118:prog.funcs[118]?=xk Try.f118:=ZK Try.func118 rfl
@[simp]theorem func119:prog.funcs[119]?=xk Try.f119:=ZK Try.func119 rfl
@[simp]theorem func120:prog.funcs[120]?=xk Try.f120:=ZK Try.func120 rfl
@[simp]theorem func121:prog.funcs[121]?=xk Try.f121:=ZK Try.func121 rfl
@[simp]theorem func122:prog.funcs[122]?=xk Try.f122:=ZK Try.func122 rfl
@[simp]theorem func123:prog.funcs[123]?=xk Try.f123:=ZK Try.func123 rfl
@[simp]theorem func124:prog.funcs[124]?=xk Try.f124:=ZK Try.func124 rfl
@[simp]theorem func125:prog.funcs[125]?=xk Try.f125:=ZK Try.func125 rfl
@[simp]theorem func126:prog.funcs[126]?=xk Try.f126:=ZK Try.func126 rfl
@[simp]theorem func127:prog.funcs[127]?=xk Try.f127:=ZK Try.func127 rfl
@[simp]theorem func128:prog.funcs[128]?=xk Try.f128:=ZK Try.func128 rfl
@[simp]theorem Z98(args:Array Value)(w:World):(callFunc 128 args).run prog w=.ok (.enter 128 args) w:=XW func128 rfl rfl args w
@[simp]theorem func129:prog.funcs[129]?=xk Try.f129:=ZK Try.func129 rfl
@[simp]theorem Z99(args:Array Value)(w:World):(callFunc 129 args).run prog w=.ok (.enter 129 args) w:=XW func129 rfl rfl args w
@[simp]theorem func130:prog.funcs[130]?=xk Try.f130:=ZK Try.func130 rfl
@[simp]theorem Z9a(args:Array Value)(w:World):(callFunc 130 args).run prog w=.ok (.enter 130 args) w:=XW func130 rfl rfl args w
@[simp]theorem func131:prog.funcs[131]?=xk Try.f131:=ZK Try.func131 rfl
@[simp]theorem Z9b(args:Array Value)(w:World):(callFunc 131 args).run prog w=.ok (.enter 131 args) w:=XW func131 rfl rfl args w
@[simp]theorem func132:prog.funcs[132]?=xk Try.f132:=ZK Try.func132 rfl
@[simp]theorem func133:prog.funcs[133]?=xk Try.f133:=ZK Try.func133 rfl
@[simp]theorem Z9c(args:Array Value)(w:World):(callFunc 133 args).run prog w=.ok (.enter 133 args) w:=XW func133 rfl rfl args w
@[simp]theorem func134:prog.funcs[134]?=xk Try.f134:=ZK Try.func134 rfl
@[simp]theorem Z9d(args:Array Value)(w:World):(callFunc 134 args).run prog w=.ok (.enter 134 args) w:=XW func134 rfl rfl args w
@[simp]theorem func135:prog.funcs[135]?=xk Try.f135:=ZK Try.func135 rfl
@[simp]theorem Z9e(args:Array Value)(w:World):(callFunc 135 args).run prog w=.ok (.enter 135 args) w:=XW func135 rfl rfl args w
def underlying3:=(qH Try.prog no 3).trans Try.underlying3
def underlying35:=(qH Try.prog no 35).trans Try.underlying35
def sub:Sub Try.prog prog:=Z7s Z2 Z2
end Sol
end Vm
end
