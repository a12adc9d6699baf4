import Derived.Test.YtffknkhabklijaaChecked
import Derived.Test.YtffknkhabklijaaSScanKeeps3
set_option linter.unusedSimpArgs false
set_option linter.unusedVariables false
set_option linter.defProp false
open Option renaming some→xk,none→xw
open Bool renaming true→xy,false→xh
open List renaming length→P
open Array renaming size→U
open Go.World renaming heap→R
open List renaming length→xq
open Array renaming size→xz
open Go.World renaming heap→xj
theorem Z2{p:Prop}(h:p:=by kernel_rfl):p:=h
section
namespace Vm
open Go Go.Proofs
def qh(P:Program)(l:List Nat)(t:TypeId):(WI P l).underlying t=P.underlying t:=Cx.P_under {Q:=P,fs:=(WI P l).funcs,gs:=#[],ρ:=id,n0:=0,G:=λ_=>False,O:=λ_=>False,KL:=λ_=>False,KD:=λ_=>False} t
def Z7d(P:Program)(l:List Nat)(t:TypeId):(WI P l).info? t=P.info? t:=Cx.P_info {Q:=P,fs:=(WI P l).funcs,gs:=#[],ρ:=id,n0:=0,G:=λ_=>False,O:=λ_=>False,KL:=λ_=>False,KD:=λ_=>False} t
def MW(P:Program)(l:List Nat)(t:TypeId)(w:World):(typeInfo t).run (WI P l) w=(typeInfo t).run P w:=by
 unfold typeInfo;simp only[Zel,ZfU,Zem,Z7d];cases P.info? t<;>simp only[stuck,ZfC,Sem.run]
def MX(P:Program)(l:List Nat)(t:TypeId)(w:World):(underlying t).run (WI P l) w=(underlying t).run P w:=by
 unfold underlying;simp only[Zel,ZfU,Zem,qh];cases P.underlying t<;>simp only[stuck,ZfC,Sem.run]
def Z7f(P:Program)(l:List Nat)(t:TypeId)(w:World):(Go.sizeOf t).run (WI P l) w=(Go.sizeOf t).run P w:=by
 unfold Go.sizeOf;simp only[Zel,MW];cases(typeInfo t).run P w<;>simp only[Result.andThen,ZfC]
def Z7e(P:Program)(l:List Nat)(t:TypeId)(w:World):(isAgg t).run (WI P l) w=(isAgg t).run P w:=by
 unfold isAgg;simp only[Zel,MX];cases(underlying t).run P w with
 |ok d w'=>cases d<;>simp only[Zem,ZfC]
 |halt h w'=>simp only[Result.andThen]
def Mw(P:Program)(t:TypeId)(w:World):(zeroValue t).run P w=((typeInfo t).run P w).andThen λi w'=>match i.zero with|some v=>.ok v w'|none=>.halt (.unsupported (.resourceLimit "a value of more than 2^22 cells")) w':=by
 unfold zeroValue;rw[Zel];refine ZeX _ (funext λi=>funext λw'=> ?_);cases i.zero with
 |none=>rfl
 |some v=>rfl
def Z7g(P:Program)(l:List Nat)(t:TypeId)(w:World):(zeroValue t).run (WI P l) w=(zeroValue t).run P w:=by
 rw[Mw,Mw,MW]
def XK{P:Program}{f:FuncId}{fn:Func}(h:P.funcs[f]?=xk fn)(hb:fn.body.isNone=xh)(hn:(fn.name== "runtime.NumGoroutine")=xh)(args:Array Value)(w:World):(callFunc f args).run P w=.ok (.enter f args) w:=by
 unfold callFunc;simp only[Zel,ZfU,Zem,h,hb,hn,ZdZ,Zeu];rfl
namespace Sol
def no:List Nat:=[0,1,15,136,137,138,139,140,141,142,143,144,145,146,147,148,149,150,151]
noncomputable def prog:Program:=WI Try.prog no
@[simp]theorem und(t:TypeId):prog.underlying t=Try.prog.underlying t:=qh _ _ t
@[simp]theorem ZbP(t:TypeId)(w:World):(underlying t).run prog w=(underlying t).run Try.prog w:=MX _ _ t w
@[simp]theorem ZbO(t:TypeId)(w:World):(Go.sizeOf t).run prog w=(Go.sizeOf t).run Try.prog w:=Z7f _ _ t w
@[simp]theorem ZbN(t:TypeId)(w:World):(isAgg t).run prog w=(isAgg t).run Try.prog w:=Z7e _ _ t w
@[simp]theorem ZbQ(t:TypeId)(w:World):(zeroValue t).run prog w=(zeroValue t).run Try.prog w:=Z7g _ _ t w
@[simp]theorem rt:prog.rt=Try.prog.rt:=rfl
@[simp]theorem main:prog.main=Try.prog.main:=rfl
@[simp]theorem func16:prog.funcs[16]?=xk Try.f16:=ZF Try.func16 rfl
@[simp]theorem func17:prog.funcs[17]?=xk Try.f17:=ZF Try.func17 rfl
@[simp]theorem func18:prog.funcs[18]?=xk Try.f18:=ZF Try.func18 rfl
@[simp]theorem func19:prog.funcs[19]?=xk Try.f19:=ZF Try.func19 rfl
@[simp]theorem func23:prog.funcs[23]?=xk Try.f23:=ZF Try.func23 rfl
@[simp]theorem func25:prog.funcs[25]?=xk Try.f25:=ZF Try.func25 rfl
@[simp]theorem func27:prog.funcs[27]?=xk Try.f27:=ZF Try.func27 rfl
@[simp]theorem Z91(args:Array Value)(w:World):(callFunc 27 args).run prog w=.ok (.enter 27 args) w:=XK func27 rfl rfl args w
@[simp]theorem func28:prog.funcs[28]?=xk Try.f28:=ZF Try.func28 rfl
@[simp]theorem func29:prog.funcs[29]?=xk Try.f29:=ZF Try.func29 rfl
@[simp]theorem func31:prog.funcs[31]?=xk Try.f31:=ZF Try.func31 rfl
@[simp]theorem func32:prog.funcs[32]?=xk Try.f32:=ZF Try.func32 rfl
@[simp]theorem func33:prog.funcs[33]?=xk Try.f33:=ZF Try.func33 rfl
@[simp]theorem Z92(args:Array Value)(w:World):(callFunc 33 args).run prog w=.ok (.enter 33 args) w:=XK func33 rfl rfl args w
@[simp]theorem func35:prog.funcs[35]?=xk Try.f35:=ZF Try.func35 rfl
@[simp]theorem func37:prog.funcs[37]?=xk Try.f37:=ZF Try.func37 rfl
@[simp]theorem func38:prog.funcs[38]?=xk Try.f38:=ZF Try.func38 rfl
@[simp]theorem func39:prog.funcs[39]?=xk Try.f39:=ZF Try.func39 rfl
@[simp]theorem func40:prog.funcs[40]?=xk Try.f40:=ZF Try.func40 rfl
@[simp]theorem func41:prog.funcs[41]?=xk Try.f41:=ZF Try.func41 rfl
@[simp]theorem func42:prog.funcs[42]?=xk Try.f42:=ZF Try.func42 rfl
@[simp]theorem func43:prog.funcs[43]?=xk Try.f43:=ZF Try.func43 rfl
@[simp]theorem func44:prog.funcs[44]?=xk Try.f44:=ZF Try.func44 rfl
@[simp]theorem Z93(args:Array Value)(w:World):(callFunc 44 args).run prog w=.ok (.enter 44 args) w:=XK func44 rfl rfl args w
@[simp]theorem func45:prog.funcs[45]?=xk Try.f45:=ZF Try.func45 rfl
@[simp]theorem func46:prog.funcs[46]?=xk Try.f46:=ZF Try.func46 rfl
@[simp]theorem func47:prog.funcs[47]?=xk Try.f47:=ZF Try.func47 rfl
@[simp]theorem func48:prog.funcs[48]?=xk Try.f48:=ZF Try.func48 rfl
@[simp]theorem func49:prog.funcs[49]?=xk Try.f49:=ZF Try.func49 rfl
@[simp]theorem func50:prog.funcs[50]?=xk Try.f50:=ZF Try.func50 rfl
@[simp]theorem func51:prog.funcs[51]?=xk Try.f51:=ZF Try.func51 rfl
@[simp]theorem func52:prog.funcs[52]?=xk Try.f52:=ZF Try.func52 rfl
@[simp]theorem func53:prog.funcs[53]?=xk Try.f53:=ZF Try.func53 rfl
@[simp]theorem func62:prog.funcs[62]?=xk Try.f62:=ZF Try.func62 rfl
@[simp]theorem func63:prog.funcs[63]?=xk Try.f63:=ZF Try.func63 rfl
@[simp]theorem func64:prog.funcs[64]?=xk Try.f64:=ZF Try.func64 rfl
@[simp]theorem Z94(args:Array Value)(w:World):(callFunc 64 args).run prog w=.ok (.enter 64 args) w:=XK func64 rfl rfl args w
@[simp]theorem func65:prog.funcs[65]?=xk Try.f65:=ZF Try.func65 rfl
@[simp]theorem Z95(args:Array Value)(w:World):(callFunc 65 args).run prog w=.ok (.enter 65 args) w:=XK func65 rfl rfl args w
@[simp]theorem func66:prog.funcs[66]?=xk Try.f66:=ZF Try.func66 rfl
@[simp]theorem Z96(args:Array Value)(w:World):(callFunc 66 args).run prog w=.ok (.enter 66 args) w:=XK func66 rfl rfl args w
@[simp]theorem func67:prog.funcs[67]?=xk Try.f67:=ZF Try.func67 rfl
@[simp]theorem Z97(args:Array Value)(w:World):(callFunc 67 args).run prog w=.ok (.enter 67 args) w:=XK func67 rfl rfl args w
@[simp]theorem func68:prog.funcs[68]?=xk Try.f68:=ZF Try.func68 rfl
@[simp]theorem Z98(args:Array Value)(w:World):(callFunc 68 args).run prog w=.ok (.enter 68 args) w:=XK func68 rfl rfl args w
@[simp]theorem func69:prog.funcs[69]?=xk Try.f69:=ZF Try.func69 rfl
@[simp]theorem Z99(args:Array Value)(w:World):(callFunc 69 args).run prog w=.ok (.enter 69 args) w:=XK func69 rfl rfl args w
@[simp]theorem func70:prog.funcs[70]?=xk Try.f70:=ZF Try.func70 rfl
@[simp]theorem Z9a(args:Array Value)(w:World):(callFunc 70 args).run prog w=.ok (.enter 70 args) w:=XK func70 rfl rfl args w
@[simp]theorem func71:prog.funcs[71]?=xk Try.f71:=ZF Try.func71 rfl
@[simp]theorem Z9b(args:Array Value)(w:World):(callFunc 71 args).run prog w=.ok (.enter 71 args) w:=XK func71 rfl rfl args w
@[simp]theorem func74:prog.funcs[74]?=xk Try.f74:=ZF Try.func74 rfl
@[simp]theorem func75:prog.funcs[75]?=xk Try.f75:=ZF Try.func75 rfl
@[simp]theorem Z9c(args:Array Value)(w:World):(callFunc 75 args).run prog w=.ok (.enter 75 args) w:=XK func75 rfl rfl args w
@[simp]theorem func76:prog.funcs[76]?=xk Try.f76:=ZF Try.func76 rfl
@[simp]theorem func77:prog.funcs[77]?=xk Try.f77:=ZF Try.func77 rfl
@[simp]theorem func78:prog.funcs[78]?=xk Try.f78:=ZF Try.func78 rfl
@[simp]theorem func79:prog.funcs[79]?=xk Try.f79:=ZF Try.func79 rfl
@[simp]theorem func80:prog.funcs[80]?=xk Try.f80:=ZF Try.func80 rfl
@[simp]theorem func81:prog.funcs[81]?=xk Try.f81:=ZF Try.func81 rfl
@[simp]theorem func82:prog.funcs[82]?=xk Try.f82:=ZF Try.func82 rfl
@[simp]theorem func91:prog.funcs[91]?=xk Try.f91:=ZF Try.func91 rfl
@[simp]theorem func92:prog.funcs[92]?=xk Try.f92:=ZF Try.func92 rfl
@[simp]theorem Z9d(args:Array Value)(w:World):(callFunc 92 args).run prog w=.ok (.enter 92 args) w:=XK func92 rfl rfl args w
@[simp]theorem func93:prog.funcs[93]?=xk Try.f93:=ZF Try.func93 rfl
@[simp]theorem func94:prog.funcs[94]?=xk Try.f94:=ZF Try.func94 rfl
@[simp]theorem Z9e(args:Array Value)(w:World):(callFunc 94 args).run prog w=.ok (.enter 94 args) w:=XK func94 rfl rfl args w
@[simp]theorem func95:prog.funcs[95]?=xk Try.f95:=ZF Try.func95 rfl
@[simp]theorem Z9f(args:Array Value)(w:World):(callFunc 95 args).run prog w=.ok (.enter 95 args) w:=XK func95 rfl rfl args w
@[simp]theorem func96:prog.funcs[96]?=xk Try.f96:=ZF Try.func96 rfl
@[simp]theorem Z9g(args:Array Value)(w:World):(callFunc 96 args).run prog w=.ok (.enter 96 args) w:=XK func96 rfl rfl args w
@[simp]theorem func97:prog.funcs[97]?=xk Try.f97:=ZF Try.func97 rfl
@[simp]theorem Z9h(args:Array Value)(w:World):(callFunc 97 args).run prog w=.ok (.enter 97 args) w:=XK func97 rfl rfl args w
@[simp]theorem func98:prog.funcs[98]?=xk Try.f98:=ZF Try.func98 rfl
@[simp]theorem Z9i(args:Array Value)(w:World):(callFunc 98 args).run prog w=.ok (.enter 98 args) w:=XK func98 rfl rfl args w
@[simp]theorem func99:prog.funcs[99]?=xk Try.f99:=ZF Try.func99 rfl
@[simp]theorem func100:prog.funcs[100]?=xk Try.f100:=ZF Try.func100 rfl
@[simp]theorem func101:prog.funcs[101]?=xk Try.f101:=ZF Try.func101 rfl
@[simp]theorem func102:prog.funcs[102]?=xk Try.f102:=ZF Try.func102 rfl
@[simp]theorem func103:prog.funcs[103]?=xk Try.f103:=ZF Try.func103 rfl
@[simp]theorem func104:prog.funcs[104]?=xk Try.f104:=ZF Try.func104 rfl
@[simp]theorem func105:prog.funcs[105]?=xk Try.f105:=ZF Try.func105 rfl
@[simp]theorem func106:prog.funcs[106]?=xk Try.f106:=ZF Try.func106 rfl
@[simp]theorem func107:prog.funcs[107]?=xk Try.f107:=ZF Try.func107 rfl
@[simp]theorem func108:prog.funcs[108]?=xk Try.f108:=ZF Try.func108 rfl
@[simp]theorem func109:prog.funcs[109]?=xk Try.f109:=ZF Try.func109 rfl
@[simp]theorem func110:prog.funcs[110]?=xk Try.f110:=ZF Try.func110 rfl
@[simp]theorem func113:prog.funcs[113]?=xk Try.f113:=ZF Try.func113 rfl
@[simp]theorem func114:prog.funcs[114]?=xk Try.f114:=ZF Try.func114 rfl
@[simp]theorem func115:prog.funcs[115]?=xk Try.f115:=ZF Try.func115 rfl
@[simp]theorem func116:prog.funcs[116]?=xk Try.f116:=ZF Try.func116 rfl
@[simp]theorem func117:prog.funcs[117]?=xk Try.f117:=ZF Try.func117 rfl
@[simp]theorem func118:prog.funcs[118]?=xk Try.f118:=ZF Try.func118 rfl
@[simp]theorem func119:prog.funcs[119]?=xk Try.f119:=ZF Try.func119 rfl
@[simp]theorem func120:prog.funcs[120]?=xk Try.f120:=ZF Try.func120 rfl
@[simp]theorem func121:prog.funcs[121]?=xk Try.f121:=ZF Try.func121 rfl
@[simp]theorem func122:prog.funcs[122]?=xk Try.f122:=ZF Try.func122 rfl
@[simp]theorem func123:prog.funcs[123]?=xk Try.f123:=ZF Try.func123 rfl
@[simp]theorem func124:prog.funcs[124]?=xk Try.f124:=ZF Try.func124 rfl
@[simp]theorem func125:prog.funcs[125]?=xk Try.f125:=ZF Try.func125 rfl
@[simp]theorem func126:prog.funcs[126]?=xk Try.f126:=ZF Try.func126 rfl
@[simp]theorem func127:prog.funcs[127]?=xk Try.f127:=ZF Try.func127 rfl
@[simp]theorem func128:prog.funcs[128]?=xk Try.f128:=ZF Try.func128 rfl
@[simp]theorem Z8U(args:Array Value)(w:World):(callFunc 128 args).run prog w=.ok (.enter 128 args) w:=XK func128 rfl rfl args w
@[simp]theorem func129:prog.funcs[129]?=xk Try.f129:=ZF Try.func129 rfl
@[simp]theorem Z8V(args:Array Value)(w:World):(callFunc 129 args).run prog w=.ok (.enter 129 args) w:=XK func129 rfl rfl args w
@[simp]theorem func130:prog.funcs[130]?=xk Try.f130:=ZF Try.func130 rfl
@[simp]theorem Z8W(args:Array Value)(w:World):(callFunc 130 args).run prog w=.ok (.enter 130 args) w:=XK func130 rfl rfl args w
@[simp]theorem func131:prog.funcs[131]?=xk Try.f131:=ZF Try.func131 rfl
@[simp]theorem Z8X(args:Array Value)(w:World):(callFunc 131 args).run prog w=.ok (.enter 131 args) w:=XK func131 rfl rfl args w
@[simp]theorem func132:prog.funcs[132]?=xk Try.f132:=ZF Try.func132 rfl
@[simp]theorem func133:prog.funcs[133]?=xk Try.f133:=ZF Try.func133 rfl
@[simp]theorem Z8Y(args:Array Value)(w:World):(callFunc 133 args).run prog w=.ok (.enter 133 args) w:=XK func133 rfl rfl args w
@[simp]theorem func134:prog.funcs[134]?=xk Try.f134:=ZF Try.func134 rfl
@[simp]theorem Z8Z(args:Array Value)(w:World):(callFunc 134 args).run prog w=.ok (.enter 134 args) w:=XK func134 rfl rfl args w
@[simp]theorem func135:prog.funcs[135]?=xk Try.f135:=ZF Try.func135 rfl
@[simp]theorem Z90(args:Array Value)(w:World):(callFunc 135 args).run prog w=.ok (.enter 135 args) w:=XK func135 rfl rfl args w
def underlying3:=(qh Try.prog no 3).trans Try.underlying3
def underlying35:=(qh Try.prog no 35).trans Try.underlying35
def sub:Sub Try.prog prog:=Z7h Z2 Z2
end Sol
end Vm
end
