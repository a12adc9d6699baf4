import Derived.Test.YtffknkhabklijaaChecked
import Derived.Test.YtffknkhabklijaaSScanWhole3
set_option linter.unusedSimpArgs false
set_option linter.unusedVariables false
set_option linter.defProp false
open Option renaming some→J,none→U
open Bool renaming true→xk,false→xw
open List renaming length→I
open Array renaming size→xz
open Go.World renaming heap→xj
open List renaming length→xq
open Array renaming size→xz
open Go.World renaming heap→xj
theorem Z2{p:Prop}(h:p:=by kernel_rfl):p:=h
section
namespace Vm
open Go Go.Proofs
def jj(P:Program)(l:List Nat)(t:TypeId):(WX P l).underlying t=P.underlying t:=Cx.cz {Q:=P,fs:=(WX P l).funcs,gs:=#[],ρ:=id,n0:=0,G:=λ_=>False,O:=λ_=>False,KL:=λ_=>False,KD:=λ_=>False} t
def Z8m(P:Program)(l:List Nat)(t:TypeId):(WX P l).info? t=P.info? t:=Cx.dp {Q:=P,fs:=(WX P l).funcs,gs:=#[],ρ:=id,n0:=0,G:=λ_=>False,O:=λ_=>False,KL:=λ_=>False,KD:=λ_=>False} t
def Ou(P:Program)(l:List Nat)(t:TypeId)(w:World):(typeInfo t).run (WX P l) w=(typeInfo t).run P w:=by
 unfold typeInfo;simp only[ZfO,Zhh,ZfL,Z8m];cases P.info? t<;>simp only[stuck,ZhD,Sem.run]
def Ov(P:Program)(l:List Nat)(t:TypeId)(w:World):(underlying t).run (WX P l) w=(underlying t).run P w:=by
 unfold underlying;simp only[ZfO,Zhh,ZfL,jj];cases P.underlying t<;>simp only[stuck,ZhD,Sem.run]
def Z8o(P:Program)(l:List Nat)(t:TypeId)(w:World):(Go.sizeOf t).run (WX P l) w=(Go.sizeOf t).run P w:=by
 unfold Go.sizeOf;simp only[ZfO,Ou];cases(typeInfo t).run P w<;>simp only[Result.andThen,ZhD]
def Z8n(P:Program)(l:List Nat)(t:TypeId)(w:World):(isAgg t).run (WX P l) w=(isAgg t).run P w:=by
 unfold isAgg;simp only[ZfO,Ov];cases(underlying t).run P w with
 |ok d w'=>cases d<;>simp only[ZfL,ZhD]
 |halt h w'=>simp only[Result.andThen]
def NZ(P:Program)(t:TypeId)(w:World):(zeroValue t).run P w=((typeInfo t).run P w).andThen λi w'=>match i.zero with|some v=>.ok v w'|none=>.halt (.unsupported (.resourceLimit "a value of more than 2^22 cells")) w':=by
 unfold zeroValue;rw[ZfO];refine Zgb _ (funext λi=>funext λw'=> ?_);cases i.zero with
 |none=>rfl
 |some v=>rfl
def Z8p(P:Program)(l:List Nat)(t:TypeId)(w:World):(zeroValue t).run (WX P l) w=(zeroValue t).run P w:=by
 rw[NZ,NZ,Ou]
def Xr{P:Program}{f:FuncId}{fn:Func}(h:P.funcs[f]?=J fn)(hb:fn.body.isNone=xw)(hn:(fn.name== "runtime.NumGoroutine")=xw)(args:Array Value)(w:World):(callFunc f args).run P w=.ok (.enter f args) w:=by
 unfold callFunc;simp only[ZfO,Zhh,ZfL,h,hb,hn,Zfm,Zg3];rfl
namespace Sol
def no:List Nat:=[0,1,15,136,137,138,139,140,141,142,143,144,145,146,147,148,149,150,151]
noncomputable def prog:Program:=WX Try.prog no
@[simp]theorem und(t:TypeId):prog.underlying t=Try.prog.underlying t:=jj _ _ t
@[simp]theorem Zdc(t:TypeId)(w:World):(underlying t).run prog w=(underlying t).run Try.prog w:=Ov _ _ t w
@[simp]theorem Zdb(t:TypeId)(w:World):(Go.sizeOf t).run prog w=(Go.sizeOf t).run Try.prog w:=Z8o _ _ t w
@[simp]theorem Zda(t:TypeId)(w:World):(isAgg t).run prog w=(isAgg t).run Try.prog w:=Z8n _ _ t w
@[simp]theorem Zdd(t:TypeId)(w:World):(zeroValue t).run prog w=(zeroValue t).run Try.prog w:=Z8p _ _ t w
@[simp]theorem rt:prog.rt=Try.prog.rt:=rfl
@[simp]theorem main:prog.main=Try.prog.main:=rfl
@[simp]theorem func17:prog.funcs[17]?=J Try.f17:=ZG Try.func17 rfl
@[simp]theorem func18:prog.funcs[18]?=J Try.f18:=ZG Try.func18 rfl
@[simp]theorem func19:prog.funcs[19]?=J Try.f19:=ZG Try.func19 rfl
@[simp]theorem func21:prog.funcs[21]?=J Try.f21:=ZG Try.func21 rfl
@[simp]theorem func23:prog.funcs[23]?=J Try.f23:=ZG Try.func23 rfl
@[simp]theorem func25:prog.funcs[25]?=J Try.f25:=ZG Try.func25 rfl
@[simp]theorem Zai(args:Array Value)(w:World):(callFunc 25 args).run prog w=.ok (.enter 25 args) w:=Xr func25 rfl rfl args w
@[simp]theorem func27:prog.funcs[27]?=J Try.f27:=ZG Try.func27 rfl
@[simp]theorem Zaj(args:Array Value)(w:World):(callFunc 27 args).run prog w=.ok (.enter 27 args) w:=Xr func27 rfl rfl args w
@[simp]theorem func28:prog.funcs[28]?=J Try.f28:=ZG Try.func28 rfl
@[simp]theorem func29:prog.funcs[29]?=J Try.f29:=ZG Try.func29 rfl
@[simp]theorem func31:prog.funcs[31]?=J Try.f31:=ZG Try.func31 rfl
@[simp]theorem func32:prog.funcs[32]?=J Try.f32:=ZG Try.func32 rfl
@[simp]theorem func33:prog.funcs[33]?=J Try.f33:=ZG Try.func33 rfl
@[simp]theorem Zak(args:Array Value)(w:World):(callFunc 33 args).run prog w=.ok (.enter 33 args) w:=Xr func33 rfl rfl args w
@[simp]theorem func35:prog.funcs[35]?=J Try.f35:=ZG Try.func35 rfl
@[simp]theorem func36:prog.funcs[36]?=J Try.f36:=ZG Try.func36 rfl
@[simp]theorem func37:prog.funcs[37]?=J Try.f37:=ZG Try.func37 rfl
@[simp]theorem func39:prog.funcs[39]?=J Try.f39:=ZG Try.func39 rfl
@[simp]theorem func40:prog.funcs[40]?=J Try.f40:=ZG Try.func40 rfl
@[simp]theorem func41:prog.funcs[41]?=J Try.f41:=ZG Try.func41 rfl
@[simp]theorem func42:prog.funcs[42]?=J Try.f42:=ZG Try.func42 rfl
@[simp]theorem func43:prog.funcs[43]?=J Try.f43:=ZG Try.func43 rfl
@[simp]theorem func44:prog.funcs[44]?=J Try.f44:=ZG Try.func44 rfl
@[simp]theorem Zal(args:Array Value)(w:World):(callFunc 44 args).run prog w=.ok (.enter 44 args) w:=Xr func44 rfl rfl args w
@[simp]theorem func45:prog.funcs[45]?=J Try.f45:=ZG Try.func45 rfl
@[simp]theorem func46:prog.funcs[46]?=J Try.f46:=ZG Try.func46 rfl
@[simp]theorem func47:prog.funcs[47]?=J Try.f47:=ZG Try.func47 rfl
@[simp]theorem func48:prog.funcs[48]?=J Try.f48:=ZG Try.func48 rfl
@[simp]theorem func49:prog.funcs[49]?=J Try.f49:=ZG Try.func49 rfl
@[simp]theorem func50:prog.funcs[50]?=J Try.f50:=ZG Try.func50 rfl
@[simp]theorem func51:prog.funcs[51]?=J Try.f51:=ZG Try.func51 rfl
@[simp]theorem func52:prog.funcs[52]?=J Try.f52:=ZG Try.func52 rfl
@[simp]theorem func53:prog.funcs[53]?=J Try.f53:=ZG Try.func53 rfl
@[simp]theorem func62:prog.funcs[62]?=J Try.f62:=ZG Try.func62 rfl
@[simp]theorem func63:prog.funcs[63]?=J Try.f63:=ZG Try.func63 rfl
@[simp]theorem func64:prog.funcs[64]?=J Try.f64:=ZG Try.func64 rfl
@[simp]theorem Zam(args:Array Value)(w:World):(callFunc 64 args).run prog w=.ok (.enter 64 args) w:=Xr func64 rfl rfl args w
@[simp]theorem func65:prog.funcs[65]?=J Try.f65:=ZG Try.func65 rfl
@[simp]theorem Zan(args:Array Value)(w:World):(callFunc 65 args).run prog w=.ok (.enter 65 args) w:=Xr func65 rfl rfl args w
@[simp]theorem func66:prog.funcs[66]?=J Try.f66:=ZG Try.func66 rfl
@[simp]theorem Zao(args:Array Value)(w:World):(callFunc 66 args).run prog w=.ok (.enter 66 args) w:=Xr func66 rfl rfl args w
@[simp]theorem func67:prog.funcs[67]?=J Try.f67:=ZG Try.func67 rfl
@[simp]theorem Zap(args:Array Value)(w:World):(callFunc 67 args).run prog w=.ok (.enter 67 args) w:=Xr func67 rfl rfl args w
@[simp]theorem func68:prog.funcs[68]?=J Try.f68:=ZG Try.func68 rfl
@[simp]theorem Zaq(args:Array Value)(w:World):(callFunc 68 args).run prog w=.ok (.enter 68 args) w:=Xr func68 rfl rfl args w
@[simp]theorem func69:prog.funcs[69]?=J Try.f69:=ZG Try.func69 rfl
@[simp]theorem Zar(args:Array Value)(w:World):(callFunc 69 args).run prog w=.ok (.enter 69 args) w:=Xr func69 rfl rfl args w
@[simp]theorem func70:prog.funcs[70]?=J Try.f70:=ZG Try.func70 rfl
@[simp]theorem Zas(args:Array Value)(w:World):(callFunc 70 args).run prog w=.ok (.enter 70 args) w:=Xr func70 rfl rfl args w
@[simp]theorem func71:prog.funcs[71]?=J Try.f71:=ZG Try.func71 rfl
@[simp]theorem Zat(args:Array Value)(w:World):(callFunc 71 args).run prog w=.ok (.enter 71 args) w:=Xr func71 rfl rfl args w
@[simp]theorem func73:prog.funcs[73]?=J Try.f73:=ZG Try.func73 rfl
@[simp]theorem Zau(args:Array Value)(w:World):(callFunc 73 args).run prog w=.ok (.enter 73 args) w:=Xr func73 rfl rfl args w
@[simp]theorem func74:prog.funcs[74]?=J Try.f74:=ZG Try.func74 rfl
@[simp]theorem func75:prog.funcs[75]?=J Try.f75:=ZG Try.func75 rfl
@[simp]theorem Zav(args:Array Value)(w:World):(callFunc 75 args).run prog w=.ok (.enter 75 args) w:=Xr func75 rfl rfl args w
@[simp]theorem func76:prog.funcs[76]?=J Try.f76:=ZG Try.func76 rfl
@[simp]theorem func77:prog.funcs[77]?=J Try.f77:=ZG Try.func77 rfl
@[simp]theorem func78:prog.funcs[78]?=J Try.f78:=ZG Try.func78 rfl
@[simp]theorem func79:prog.funcs[79]?=J Try.f79:=ZG Try.func79 rfl
@[simp]theorem func80:prog.funcs[80]?=J Try.f80:=ZG Try.func80 rfl
@[simp]theorem func81:prog.funcs[81]?=J Try.f81:=ZG Try.func81 rfl
@[simp]theorem func82:prog.funcs[82]?=J Try.f82:=ZG Try.func82 rfl
@[simp]theorem func91:prog.funcs[91]?=J Try.f91:=ZG Try.func91 rfl
@[simp]theorem func92:prog.funcs[92]?=J Try.f92:=ZG Try.func92 rfl
@[simp]theorem Zaw(args:Array Value)(w:World):(callFunc 92 args).run prog w=.ok (.enter 92 args) w:=Xr func92 rfl rfl args w
@[simp]theorem func93:prog.funcs[93]?=J Try.f93:=ZG Try.func93 rfl
@[simp]theorem func94:prog.funcs[94]?=J Try.f94:=ZG Try.func94 rfl
@[simp]theorem Zax(args:Array Value)(w:World):(callFunc 94 args).run prog w=.ok (.enter 94 args) w:=Xr func94 rfl rfl args w
@[simp]theorem func95:prog.funcs[95]?=J Try.f95:=ZG Try.func95 rfl
@[simp]theorem Zay(args:Array Value)(w:World):(callFunc 95 args).run prog w=.ok (.enter 95 args) w:=Xr func95 rfl rfl args w
@[simp]theorem func96:prog.funcs[96]?=J Try.f96:=ZG Try.func96 rfl
@[simp]theorem Zaz(args:Array Value)(w:World):(callFunc 96 args).run prog w=.ok (.enter 96 args) w:=Xr func96 rfl rfl args w
@[simp]theorem func97:prog.funcs[97]?=J Try.f97:=ZG Try.func97 rfl
@[simp]theorem ZaA(args:Array Value)(w:World):(callFunc 97 args).run prog w=.ok (.enter 97 args) w:=Xr func97 rfl rfl args w
@[simp]theorem func98:prog.funcs[98]?=J Try.f98:=ZG Try.func98 rfl
@[simp]theorem ZaB(args:Array Value)(w:World):(callFunc 98 args).run prog w=.ok (.enter 98 args) w:=Xr func98 rfl rfl args w
@[simp]theorem func99:prog.funcs[99]?=J Try.f99:=ZG Try.func99 rfl
@[simp]theorem func100:prog.funcs[100]?=J Try.f100:=ZG Try.func100 rfl
@[simp]theorem func101:prog.funcs[101]?=J Try.f101:=ZG Try.func101 rfl
@[simp]theorem func102:prog.funcs[102]?=J Try.f102:=ZG Try.func102 rfl
@[simp]theorem func103:prog.funcs[103]?=J Try.f103:=ZG Try.func103 rfl
@[simp]theorem func104:prog.funcs[104]?=J Try.f104:=ZG Try.func104 rfl
@[simp]theorem func105:prog.funcs[105]?=J Try.f105:=ZG Try.func105 rfl
@[simp]theorem func106:prog.funcs[106]?=J Try.f106:=ZG Try.func106 rfl
@[simp]theorem func107:prog.funcs[107]?=J Try.f107:=ZG Try.func107 rfl
@[simp]theorem func108:prog.funcs[108]?=J Try.f108:=ZG Try.func108 rfl
@[simp]theorem func109:prog.funcs[109]?=J Try.f109:=ZG Try.func109 rfl
@[simp]theorem func110:prog.funcs[110]?=J Try.f110:=ZG Try.func110 rfl
@[simp]theorem func113:prog.funcs[113]?=J Try.f113:=ZG Try.func113 rfl
@[simp]theorem func114:prog.funcs[114]?=J Try.f114:=ZG Try.func114 rfl
@[simp]theorem func115:prog.funcs[115]?=J Try.f115:=ZG Try.func115 rfl
@[simp]theorem func116:prog.funcs[116]?=J Try.f116:=ZG Try.func116 rfl
@[simp]theorem func117:prog.funcs[117]?=J Try.f117:=ZG Try.func117 rfl
@[simp]theorem func118:prog.funcs[118]?=J Try.f118:=ZG Try.func118 rfl
@[simp]theorem func119:prog.funcs[119]?=J Try.f119:=ZG Try.func119 rfl
@[simp]theorem func120:prog.funcs[120]?=J Try.f120:=ZG Try.func120 rfl
@[simp]theorem func121:prog.funcs[121]?=J Try.f121:=ZG Try.func121 rfl
@[simp]theorem func122:prog.funcs[122]?=J Try.f122:=ZG Try.func122 rfl
@[simp]theorem func123:prog.funcs[123]?=J Try.f123:=ZG Try.func123 rfl
@[simp]theorem func124:prog.funcs[124]?=J Try.f124:=ZG Try.func124 rfl
@[simp]theorem func125:prog.funcs[125]?=J Try.f125:=ZG Try.func125 rfl
@[simp]theorem func126:prog.funcs[126]?=J Try.f126:=ZG Try.func126 rfl
@[simp]theorem func127:prog.funcs[127]?=J Try.f127:=ZG Try.func127 rfl
@[simp]theorem func128:prog.funcs[128]?=J Try.f128:=ZG Try.func128 rfl
@[simp]theorem Zab(args:Array Value)(w:World):(callFunc 128 args).run prog w=.ok (.enter 128 args) w:=Xr func128 rfl rfl args w
@[simp]theorem func129:prog.funcs[129]?=J Try.f129:=ZG Try.func129 rfl
@[simp]theorem Zac(args:Array Value)(w:World):(callFunc 129 args).run prog w=.ok (.enter 129 args) w:=Xr func129 rfl rfl args w
@[simp]theorem func130:prog.funcs[130]?=J Try.f130:=ZG Try.func130 rfl
@[simp]theorem Zad(args:Array Value)(w:World):(callFunc 130 args).run prog w=.ok (.enter 130 args) w:=Xr func130 rfl rfl args w
@[simp]theorem func131:prog.funcs[131]?=J Try.f131:=ZG Try.func131 rfl
@[simp]theorem Zae(args:Array Value)(w:World):(callFunc 131 args).run prog w=.ok (.enter 131 args) w:=Xr func131 rfl rfl args w
@[simp]theorem func132:prog.funcs[132]?=J Try.f132:=ZG Try.func132 rfl
@[simp]theorem func133:prog.funcs[133]?=J Try.f133:=ZG Try.func133 rfl
@[simp]theorem Zaf(args:Array Value)(w:World):(callFunc 133 args).run prog w=.ok (.enter 133 args) w:=Xr func133 rfl rfl args w
@[simp]theorem func134:prog.funcs[134]?=J Try.f134:=ZG Try.func134 rfl
@[simp]theorem Zag(args:Array Value)(w:World):(callFunc 134 args).run prog w=.ok (.enter 134 args) w:=Xr func134 rfl rfl args w
@[simp]theorem func135:prog.funcs[135]?=J Try.f135:=ZG Try.func135 rfl
@[simp]theorem Zah(args:Array Value)(w:World):(callFunc 135 args).run prog w=.ok (.enter 135 args) w:=Xr func135 rfl rfl args w
def underlying3:=(jj Try.prog no 3).trans Try.underlying3
def underlying35:=(jj Try.prog no 35).trans Try.underlying35
def sub:Sub Try.prog prog:=Z8q Z2 Z2
end Sol
end Vm
end
