import Derived.Test.YtaepoabdapgbdaaChecked
import Derived.Test.YtaepoabdapgbdaaSMeasureFree3
set_option linter.unusedSimpArgs false
set_option linter.unusedVariables false
set_option linter.defProp false
open Option renaming some→J,none→U
open Bool renaming true→xk,false→xw
open List renaming length→I
open Array renaming size→xz
open Go.World renaming heap→xj
open List renaming length→xq
open Array renaming size→xz
open Go.World renaming heap→xj
theorem Z2{p:Prop}(h:p:=by kernel_rfl):p:=h
section
namespace Vm
open Go Go.Proofs
def jc(P:Program)(l:List Nat)(t:TypeId):(WX P l).underlying t=P.underlying t:=Cx.cy {Q:=P,fs:=(WX P l).funcs,gs:=#[],ρ:=id,n0:=0,G:=λ_=>False,O:=λ_=>False,KL:=λ_=>False,KD:=λ_=>False} t
def Z8b(P:Program)(l:List Nat)(t:TypeId):(WX P l).info? t=P.info? t:=Cx.dt {Q:=P,fs:=(WX P l).funcs,gs:=#[],ρ:=id,n0:=0,G:=λ_=>False,O:=λ_=>False,KL:=λ_=>False,KD:=λ_=>False} t
def Oa(P:Program)(l:List Nat)(t:TypeId)(w:World):(typeInfo t).run (WX P l) w=(typeInfo t).run P w:=by
 unfold typeInfo;simp only[Zfu,ZgU,Zft,Z8b];cases P.info? t<;>simp only[stuck,Zhg,Sem.run]
def Oc(P:Program)(l:List Nat)(t:TypeId)(w:World):(underlying t).run (WX P l) w=(underlying t).run P w:=by
 unfold underlying;simp only[Zfu,ZgU,Zft,jc];cases P.underlying t<;>simp only[stuck,Zhg,Sem.run]
def Z8d(P:Program)(l:List Nat)(t:TypeId)(w:World):(Go.sizeOf t).run (WX P l) w=(Go.sizeOf t).run P w:=by
 unfold Go.sizeOf;simp only[Zfu,Oa];cases(typeInfo t).run P w<;>simp only[Result.andThen,Zhg]
def Z8c(P:Program)(l:List Nat)(t:TypeId)(w:World):(isAgg t).run (WX P l) w=(isAgg t).run P w:=by
 unfold isAgg;simp only[Zfu,Oc];cases(underlying t).run P w with
 |ok d w'=>cases d<;>simp only[Zft,Zhg]
 |halt h w'=>simp only[Result.andThen]
def NK(P:Program)(t:TypeId)(w:World):(zeroValue t).run P w=((typeInfo t).run P w).andThen λi w'=>match i.zero with|some v=>.ok v w'|none=>.halt (.unsupported (.resourceLimit "a value of more than 2^22 cells")) w':=by
 unfold zeroValue;rw[Zfu];refine ZfS _ (funext λi=>funext λw'=> ?_);cases i.zero with
 |none=>rfl
 |some v=>rfl
def Z8e(P:Program)(l:List Nat)(t:TypeId)(w:World):(zeroValue t).run (WX P l) w=(zeroValue t).run P w:=by
 rw[NK,NK,Oa]
def X8{P:Program}{f:FuncId}{fn:Func}(h:P.funcs[f]?=J fn)(hb:fn.body.isNone=xw)(hn:(fn.name== "runtime.NumGoroutine")=xw)(args:Array Value)(w:World):(callFunc f args).run P w=.ok (.enter f args) w:=by
 unfold callFunc;simp only[Zfu,ZgU,Zft,h,hb,hn,Zf6,ZfI];rfl
namespace Sol
def no:List Nat:=[0,1,6,38,106,107,108,109,110,111,112,113,114,115,116,117,118,119,120,121]
noncomputable def prog:Program:=WX Try.prog no
@[simp]theorem und(t:TypeId):prog.underlying t=Try.prog.underlying t:=jc _ _ t
@[simp]theorem ZcS(t:TypeId)(w:World):(underlying t).run prog w=(underlying t).run Try.prog w:=Oc _ _ t w
@[simp]theorem ZcR(t:TypeId)(w:World):(Go.sizeOf t).run prog w=(Go.sizeOf t).run Try.prog w:=Z8d _ _ t w
@[simp]theorem ZcQ(t:TypeId)(w:World):(isAgg t).run prog w=(isAgg t).run Try.prog w:=Z8c _ _ t w
@[simp]theorem ZcT(t:TypeId)(w:World):(zeroValue t).run prog w=(zeroValue t).run Try.prog w:=Z8e _ _ t w
@[simp]theorem rt:prog.rt=Try.prog.rt:=rfl
@[simp]theorem main:prog.main=Try.prog.main:=rfl
@[simp]theorem func7:prog.funcs[7]?=J Try.f7:=ZH Try.func7 rfl
@[simp]theorem func9:prog.funcs[9]?=J Try.f9:=ZH Try.func9 rfl
@[simp]theorem Zak(args:Array Value)(w:World):(callFunc 9 args).run prog w=.ok (.enter 9 args) w:=X8 func9 rfl rfl args w
@[simp]theorem func10:prog.funcs[10]?=J Try.f10:=ZH Try.func10 rfl
@[simp]theorem func11:prog.funcs[11]?=J Try.f11:=ZH Try.func11 rfl
@[simp]theorem func12:prog.funcs[12]?=J Try.f12:=ZH Try.func12 rfl
@[simp]theorem func13:prog.funcs[13]?=J Try.f13:=ZH Try.func13 rfl
@[simp]theorem func14:prog.funcs[14]?=J Try.f14:=ZH Try.func14 rfl
@[simp]theorem func15:prog.funcs[15]?=J Try.f15:=ZH Try.func15 rfl
@[simp]theorem func16:prog.funcs[16]?=J Try.f16:=ZH Try.func16 rfl
@[simp]theorem func17:prog.funcs[17]?=J Try.f17:=ZH Try.func17 rfl
@[simp]theorem Z9X(args:Array Value)(w:World):(callFunc 17 args).run prog w=.ok (.enter 17 args) w:=X8 func17 rfl rfl args w
@[simp]theorem func18:prog.funcs[18]?=J Try.f18:=ZH Try.func18 rfl
@[simp]theorem func19:prog.funcs[19]?=J Try.f19:=ZH Try.func19 rfl
@[simp]theorem func21:prog.funcs[21]?=J Try.f21:=ZH Try.func21 rfl
@[simp]theorem func22:prog.funcs[22]?=J Try.f22:=ZH Try.func22 rfl
@[simp]theorem Z9Y(args:Array Value)(w:World):(callFunc 22 args).run prog w=.ok (.enter 22 args) w:=X8 func22 rfl rfl args w
@[simp]theorem func23:prog.funcs[23]?=J Try.f23:=ZH Try.func23 rfl
@[simp]theorem Z9Z(args:Array Value)(w:World):(callFunc 23 args).run prog w=.ok (.enter 23 args) w:=X8 func23 rfl rfl args w
@[simp]theorem func24:prog.funcs[24]?=J Try.f24:=ZH Try.func24 rfl
@[simp]theorem Za0(args:Array Value)(w:World):(callFunc 24 args).run prog w=.ok (.enter 24 args) w:=X8 func24 rfl rfl args w
@[simp]theorem func25:prog.funcs[25]?=J Try.f25:=ZH Try.func25 rfl
@[simp]theorem Za1(args:Array Value)(w:World):(callFunc 25 args).run prog w=.ok (.enter 25 args) w:=X8 func25 rfl rfl args w
@[simp]theorem func26:prog.funcs[26]?=J Try.f26:=ZH Try.func26 rfl
@[simp]theorem Za2(args:Array Value)(w:World):(callFunc 26 args).run prog w=.ok (.enter 26 args) w:=X8 func26 rfl rfl args w
@[simp]theorem func27:prog.funcs[27]?=J Try.f27:=ZH Try.func27 rfl
@[simp]theorem Za3(args:Array Value)(w:World):(callFunc 27 args).run prog w=.ok (.enter 27 args) w:=X8 func27 rfl rfl args w
@[simp]theorem func28:prog.funcs[28]?=J Try.f28:=ZH Try.func28 rfl
@[simp]theorem Za4(args:Array Value)(w:World):(callFunc 28 args).run prog w=.ok (.enter 28 args) w:=X8 func28 rfl rfl args w
@[simp]theorem func29:prog.funcs[29]?=J Try.f29:=ZH Try.func29 rfl
@[simp]theorem func30:prog.funcs[30]?=J Try.f30:=ZH Try.func30 rfl
@[simp]theorem func31:prog.funcs[31]?=J Try.f31:=ZH Try.func31 rfl
@[simp]theorem func32:prog.funcs[32]?=J Try.f32:=ZH Try.func32 rfl
@[simp]theorem func33:prog.funcs[33]?=J Try.f33:=ZH Try.func33 rfl
@[simp]theorem func34:prog.funcs[34]?=J Try.f34:=ZH Try.func34 rfl
@[simp]theorem func35:prog.funcs[35]?=J Try.f35:=ZH Try.func35 rfl
@[simp]theorem func36:prog.funcs[36]?=J Try.f36:=ZH Try.func36 rfl
@[simp]theorem func37:prog.funcs[37]?=J Try.f37:=ZH Try.func37 rfl
@[simp]theorem func39:prog.funcs[39]?=J Try.f39:=ZH Try.func39 rfl
@[simp]theorem func40:prog.funcs[40]?=J Try.f40:=ZH Try.func40 rfl
@[simp]theorem Za5(args:Array Value)(w:World):(callFunc 40 args).run prog w=.ok (.enter 40 args) w:=X8 func40 rfl rfl args w
@[simp]theorem func41:prog.funcs[41]?=J Try.f41:=ZH Try.func41 rfl
@[simp]theorem Za6(args:Array Value)(w:World):(callFunc 41 args).run prog w=.ok (.enter 41 args) w:=X8 func41 rfl rfl args w
@[simp]theorem func42:prog.funcs[42]?=J Try.f42:=ZH Try.func42 rfl
@[simp]theorem Za7(args:Array Value)(w:World):(callFunc 42 args).run prog w=.ok (.enter 42 args) w:=X8 func42 rfl rfl args w
@[simp]theorem func43:prog.funcs[43]?=J Try.f43:=ZH Try.func43 rfl
@[simp]theorem Za8(args:Array Value)(w:World):(callFunc 43 args).run prog w=.ok (.enter 43 args) w:=X8 func43 rfl rfl args w
@[simp]theorem func44:prog.funcs[44]?=J Try.f44:=ZH Try.func44 rfl
@[simp]theorem Za9(args:Array Value)(w:World):(callFunc 44 args).run prog w=.ok (.enter 44 args) w:=X8 func44 rfl rfl args w
@[simp]theorem func45:prog.funcs[45]?=J Try.f45:=ZH Try.func45 rfl
@[simp]theorem Zaa(args:Array Value)(w:World):(callFunc 45 args).run prog w=.ok (.enter 45 args) w:=X8 func45 rfl rfl args w
@[simp]theorem func46:prog.funcs[46]?=J Try.f46:=ZH Try.func46 rfl
@[simp]theorem Zab(args:Array Value)(w:World):(callFunc 46 args).run prog w=.ok (.enter 46 args) w:=X8 func46 rfl rfl args w
@[simp]theorem func47:prog.funcs[47]?=J Try.f47:=ZH Try.func47 rfl
@[simp]theorem Zac(args:Array Value)(w:World):(callFunc 47 args).run prog w=.ok (.enter 47 args) w:=X8 func47 rfl rfl args w
@[simp]theorem func48:prog.funcs[48]?=J Try.f48:=ZH Try.func48 rfl
@[simp]theorem func49:prog.funcs[49]?=J Try.f49:=ZH Try.func49 rfl
@[simp]theorem func50:prog.funcs[50]?=J Try.f50:=ZH Try.func50 rfl
@[simp]theorem func51:prog.funcs[51]?=J Try.f51:=ZH Try.func51 rfl
@[simp]theorem func52:prog.funcs[52]?=J Try.f52:=ZH Try.func52 rfl
@[simp]theorem func53:prog.funcs[53]?=J Try.f53:=ZH Try.func53 rfl
@[simp]theorem func54:prog.funcs[54]?=J Try.f54:=ZH Try.func54 rfl
@[simp]theorem func55:prog.funcs[55]?=J Try.f55:=ZH Try.func55 rfl
@[simp]theorem func56:prog.funcs[56]?=J Try.f56:=ZH Try.func56 rfl
@[simp]theorem func57:prog.funcs[57]?=J Try.f57:=ZH Try.func57 rfl
@[simp]theorem func58:prog.funcs[58]?=J Try.f58:=ZH Try.func58 rfl
@[simp]theorem Zad(args:Array Value)(w:World):(callFunc 58 args).run prog w=.ok (.enter 58 args) w:=X8 func58 rfl rfl args w
@[simp]theorem func59:prog.funcs[59]?=J Try.f59:=ZH Try.func59 rfl
@[simp]theorem func60:prog.funcs[60]?=J Try.f60:=ZH Try.func60 rfl
@[simp]theorem func61:prog.funcs[61]?=J Try.f61:=ZH Try.func61 rfl
@[simp]theorem func62:prog.funcs[62]?=J Try.f62:=ZH Try.func62 rfl
@[simp]theorem Zae(args:Array Value)(w:World):(callFunc 62 args).run prog w=.ok (.enter 62 args) w:=X8 func62 rfl rfl args w
@[simp]theorem func63:prog.funcs[63]?=J Try.f63:=ZH Try.func63 rfl
@[simp]theorem Zaf(args:Array Value)(w:World):(callFunc 63 args).run prog w=.ok (.enter 63 args) w:=X8 func63 rfl rfl args w
@[simp]theorem func64:prog.funcs[64]?=J Try.f64:=ZH Try.func64 rfl
@[simp]theorem Zag(args:Array Value)(w:World):(callFunc 64 args).run prog w=.ok (.enter 64 args) w:=X8 func64 rfl rfl args w
@[simp]theorem func65:prog.funcs[65]?=J Try.f65:=ZH Try.func65 rfl
@[simp]theorem Zah(args:Array Value)(w:World):(callFunc 65 args).run prog w=.ok (.enter 65 args) w:=X8 func65 rfl rfl args w
@[simp]theorem func66:prog.funcs[66]?=J Try.f66:=ZH Try.func66 rfl
@[simp]theorem Zai(args:Array Value)(w:World):(callFunc 66 args).run prog w=.ok (.enter 66 args) w:=X8 func66 rfl rfl args w
@[simp]theorem func67:prog.funcs[67]?=J Try.f67:=ZH Try.func67 rfl
@[simp]theorem func68:prog.funcs[68]?=J Try.f68:=ZH Try.func68 rfl
@[simp]theorem func69:prog.funcs[69]?=J Try.f69:=ZH Try.func69 rfl
@[simp]theorem func70:prog.funcs[70]?=J Try.f70:=ZH Try.func70 rfl
@[simp]theorem func71:prog.funcs[71]?=J Try.f71:=ZH Try.func71 rfl
@[simp]theorem func72:prog.funcs[72]?=J Try.f72:=ZH Try.func72 rfl
@[simp]theorem func73:prog.funcs[73]?=J Try.f73:=ZH Try.func73 rfl
@[simp]theorem func74:prog.funcs[74]?=J Try.f74:=ZH Try.func74 rfl
@[simp]theorem func75:prog.funcs[75]?=J Try.f75:=ZH Try.func75 rfl
@[simp]theorem func76:prog.funcs[76]?=J Try.f76:=ZH Try.func76 rfl
@[simp]theorem func77:prog.funcs[77]?=J Try.f77:=ZH Try.func77 rfl
@[simp]theorem func78:prog.funcs[78]?=J Try.f78:=ZH Try.func78 rfl
@[simp]theorem func79:prog.funcs[79]?=J Try.f79:=ZH Try.func79 rfl
@[simp]theorem func80:prog.funcs[80]?=J Try.f80:=ZH Try.func80 rfl
@[simp]theorem func81:prog.funcs[81]?=J Try.f81:=ZH Try.func81 rfl
@[simp]theorem Zaj(args:Array Value)(w:World):(callFunc 81 args).run prog w=.ok (.enter 81 args) w:=X8 func81 rfl rfl args w
@[simp]theorem func82:prog.funcs[82]?=J Try.f82:=ZH Try.func82 rfl
@[simp]theorem func83:prog.funcs[83]?=J Try.f83:=ZH Try.func83 rfl
@[simp]theorem func84:prog.funcs[84]?=J Try.f84:=ZH Try.func84 rfl
@[simp]theorem func85:prog.funcs[85]?=J Try.f85:=ZH Try.func85 rfl
@[simp]theorem func86:prog.funcs[86]?=J Try.f86:=ZH Try.func86 rfl
@[simp]theorem func87:prog.funcs[87]?=J Try.f87:=ZH Try.func87 rfl
@[simp]theorem func88:prog.funcs[88]?=J Try.f88:=ZH Try.func88 rfl
@[simp]theorem func89:prog.funcs[89]?=J Try.f89:=ZH Try.func89 rfl
@[simp]theorem func90:prog.funcs[90]?=J Try.f90:=ZH Try.func90 rfl
@[simp]theorem func91:prog.funcs[91]?=J Try.f91:=ZH Try.func91 rfl
@[simp]theorem func92:prog.funcs[92]?=J Try.f92:=ZH Try.func92 rfl
@[simp]theorem func93:prog.funcs[93]?=J Try.f93:=ZH Try.func93 rfl
@[simp]theorem func94:prog.funcs[94]?=J Try.f94:=ZH Try.func94 rfl
@[simp]theorem func95:prog.funcs[95]?=J Try.f95:=ZH Try.func95 rfl
@[simp]theorem func96:prog.funcs[96]?=J Try.f96:=ZH Try.func96 rfl
@[simp]theorem func97:prog.funcs[97]?=J Try.f97:=ZH Try.func97 rfl
@[simp]theorem Zal(args:Array Value)(w:World):(callFunc 97 args).run prog w=.ok (.enter 97 args) w:=X8 func97 rfl rfl args w
@[simp]theorem func98:prog.funcs[98]?=J Try.f98:=ZH Try.func98 rfl
@[simp]theorem Zam(args:Array Value)(w:World):(callFunc 98 args).run prog w=.ok (.enter 98 args) w:=X8 func98 rfl rfl args w
@[simp]theorem func99:prog.funcs[99]?=J Try.f99:=ZH Try.func99 rfl
@[simp]theorem func100:prog.funcs[100]?=J Try.f100:=ZH Try.func100 rfl
@[simp]theorem Z9S(args:Array Value)(w:World):(callFunc 100 args).run prog w=.ok (.enter 100 args) w:=X8 func100 rfl rfl args w
@[simp]theorem func101:prog.funcs[101]?=J Try.f101:=ZH Try.func101 rfl
@[simp]theorem Z9T(args:Array Value)(w:World):(callFunc 101 args).run prog w=.ok (.enter 101 args) w:=X8 func101 rfl rfl args w
@[simp]theorem func102:prog.funcs[102]?=J Try.f102:=ZH Try.func102 rfl
@[simp]theorem func103:prog.funcs[103]?=J Try.f103:=ZH Try.func103 rfl
@[simp]theorem Z9U(args:Array Value)(w:World):(callFunc 103 args).run prog w=.ok (.enter 103 args) w:=X8 func103 rfl rfl args w
@[simp]theorem func104:prog.funcs[104]?=J Try.f104:=ZH Try.func104 rfl
@[simp]theorem Z9V(args:Array Value)(w:World):(callFunc 104 args).run prog w=.ok (.enter 104 args) w:=X8 func104 rfl rfl args w
@[simp]theorem func105:prog.funcs[105]?=J Try.f105:=ZH Try.func105 rfl
@[simp]theorem Z9W(args:Array Value)(w:World):(callFunc 105 args).run prog w=.ok (.enter 105 args) w:=X8 func105 rfl rfl args w
def underlying3:=(jc Try.prog no 3).trans Try.underlying3
def underlying28:=(jc Try.prog no 28).trans Try.underlying28
def sub:Sub Try.prog prog:=Z8f Z2 Z2
end Sol
end Vm
end
